/- Contracts of catwalkref31 over this seat's translation: Tick, Put. -/
import Derived.Test.YtkmjpphmciaklaaRef3
namespace Go.Proofs.Ytkmjpphmciaklaa
open Go.RowKit
set_option linter.unusedVariables false
set_option linter.unusedSimpArgs false
attribute [local go_sem ↓] Go.wp_at_zero Go.wp_at_succ

set_option maxRecDepth 100000 in
set_option maxHeartbeats 1000000 in
theorem rtick_any (B q : Nat) (v0 : Value) (r : Rcv Value) (now : Int) (w : World) (hr : RefAt w B q v0 r) (hB : B ≤ w.heap.size) (ok : r.Ok) (hlen : r.l.length ≤ 1000) (hn0 : 0 ≤ now) (hn1 : now ≤ 1000000000) (hs0 : 0 ≤ r.since) (hs1 : r.since ≤ 1000000000) :
    Calls Try.prog 24 #[.pointer (some ⟨q, 0, none⟩), .int .i64 now] w (RefPost B q (r.tick now).1 (r.tick now).2 v0 w) := by
  have HR := Lib.hid hr
  have OK := Lib.hid ok
  obtain ⟨a, cap, rfl, hcap, hcell⟩ := hr.cells
  obtain ⟨c0, c1, c2, c3, f0, f1, f2, f3⟩ := hr.1.four
  clear hr ok hcell
  by_cases he : r.l = []
  · have hfin : RefPost B q (r.tick now).1 (r.tick now).2 (.slice a r.l.length cap) w (.returned (.slice none 0 0)) w := by
      have ht : r.tick now = (r, []) := by unfold Rcv.tick; rw [he]; simp
      rw [ht]
      exact ⟨_, _, rfl, Own.nil _ _ _ _, HR.out, Chg.refl _ _⟩
    have HF := Lib.hid hfin
    have hl0 : r.l.length = 0 := by rw [he]; rfl
    rw [hl0] at c1 HF ⊢
    clear he hfin hl0
    go_enter Try.func24, Try.ntmps24
    go_wp2_with fail
    go_ret
    exact HF.out
  · have hpos : 0 < r.l.length := List.length_pos_iff.2 he
    by_cases hlt : now - r.since < 4
    · have hfin : RefPost B q (r.tick now).1 (r.tick now).2 (.slice a r.l.length cap) w (.returned (.slice none 0 0)) w := by
        have ht : r.tick now = (r, []) := by unfold Rcv.tick; simp [hlt]
        rw [ht]
        exact ⟨_, _, rfl, Own.nil _ _ _ _, HR.out, Chg.refl _ _⟩
      have HF := Lib.hid hfin
      clear he hfin
      have hpos' : ((r.l.length : Int) == 0) = false := beq_eq_false_iff_ne.2 (by omega)
      go_enter Try.func24, Try.ntmps24
      go_wp2_with fail
      go_ret
      exact HF.out
    · have ht : r.tick now = r.run (leastK r.nx r.l) now := by
        unfold Rcv.tick
        have h1 : r.l.isEmpty = false := by simpa using he
        rw [h1, decide_eq_false hlt]; rfl
      have CT := Lib.hid (skip_any B q _ r now w HR.out hB OK.out he hlen)
      rw [ht]
      clear he ht
      have hpos' : ((r.l.length : Int) == 0) = false := beq_eq_false_iff_ne.2 (by omega)
      go_enter Try.func24, Try.ntmps24
      go_wp2_with fail
      refine CT.out.mono ?_
      rintro e' w' ⟨o, v, rfl, h1, h2, h3⟩
      have H1 := Lib.hid h1
      have H2 := Lib.hid h2
      have H3 := Lib.hid h3
      clear h1 h2 h3 CT
      go_wp2_with fail
      go_ret
      exact ⟨o, v, rfl, H1.out, H2.out, H3.out⟩

theorem pk_vals {r : Rcv Value} {now seq : Int} {a : Option Addr} {n c : Nat} (hv : Vals r.l) : Vals (r.more now seq (.slice a n c)).l := by
  intro q hq
  rcases List.mem_append.1 hq with hq | hq
  · exact hv q hq
  · simp at hq; subst hq; exact ⟨_, _, _, rfl⟩

set_option maxRecDepth 100000 in
set_option maxHeartbeats 2000000 in
theorem rput_any (B q : Nat) (v0 : Value) (r : Rcv Value) (now seq : Int) (da : Option Addr) (dn dc : Nat) (w : World) (hr : RefAt w B q v0 r) (hB : B ≤ w.heap.size) (ok : r.Ok) (hlen : r.l.length ≤ 900) (hs0 : 0 ≤ seq) (hs1 : seq < 4294967296)
    (ht0 : 0 ≤ r.twice) (ht1 : r.twice < 1000000) :
    Calls Try.prog 25 #[.pointer (some ⟨q, 0, none⟩), .int .i64 now, .int .u32 seq, .slice da dn dc] w (RefPost B q (r.put now seq (.slice da dn dc)).1 (r.put now seq (.slice da dn dc)).2 v0 w) := by
  have HR := Lib.hid hr
  have OK := Lib.hid ok
  have CF := Lib.hid (find_any B q v0 r seq w hr (by omega))
  have hnx0 := ok.nx0
  have hnx1 := ok.nx1
  have CL := Lib.hid (less02_any r.nx seq w hnx0 hnx1 hs0 hs1)
  obtain ⟨a, cap, rfl, hcap, hcell⟩ := hr.cells
  obtain ⟨c0, c1, c2, c3, f0, f1, f2, f3⟩ := hr.1.four
  clear hr ok hcell
  by_cases hdup : r.dup seq = true
  · have hput : r.put now seq (.slice da dn dc) = (⟨r.nx, r.l, r.since, r.twice + 1⟩, []) := by unfold Rcv.put; rw [if_pos hdup]
    have hcs : Chg [q] w (w.setCell ⟨q, 3, none⟩ (.int .i64 (r.twice + 1))) := (Chg.refl _ _).set (by simp) _
    have hfin : RefPost B q (r.put now seq (.slice da dn dc)).1 (r.put now seq (.slice da dn dc)).2 (.slice a r.l.length cap) w (.returned (.slice none 0 0)) (w.setCell ⟨q, 3, none⟩ (.int .i64 (r.twice + 1))) := by
      rw [hput]
      exact ⟨_, _, rfl, Own.nil _ _ _ _, ⟨HR.out.1.set 3 _, HR.out.2.1.chg hcs (fun x hx => by simp at hx; subst hx; exact HR.out.2.1.ne HR.out.1 (by decide)), HR.out.2.2⟩, hcs.mono (fun x hx => by simp at hx; subst hx; left; simp)⟩
    have HF := Lib.hid hfin
    rcases find_cases r.l seq with ⟨hlk, hf⟩ | ⟨i, d, hli, hlk, hf⟩
    · rw [findI_none hf] at CF
      have hne : seq ≠ r.nx := by
        intro e
        rw [Rcv.dup, hlk, e] at hdup
        simp at hdup
      have hle : lessB r.nx seq = false := by
        simp [Rcv.dup, hlk] at hdup
        exact hdup.2
      rw [hle] at CL
      clear hdup hput hcs hfin hlk hf hle
      go_enter Try.func25, Try.ntmps25
      go_wp2_with fail
      refine CF.out.mono ?_; rintro e' w' ⟨rfl, rfl⟩
      clear CF
      go_wp2_with fail
      refine CL.out.mono ?_; rintro e' w' ⟨rfl, rfl⟩
      clear CL
      go_wp2_with fail
      go_ret
      exact HF.out
    · rw [findI_some hf] at CF
      clear hdup hput hcs hfin hlk hf hli
      go_enter Try.func25, Try.ntmps25
      go_wp2_with fail
      refine CF.out.mono ?_; rintro e' w' ⟨rfl, rfl⟩
      clear CF
      go_wp2_with fail
      go_ret
      exact HF.out
  · have hdup : r.dup seq = false := by simpa using hdup
    have hlk : lk r.l seq = none := by
      cases h : lk r.l seq with
      | none => rfl
      | some x => simp [Rcv.dup, h] at hdup
    have hle : seq ≠ r.nx → lessB r.nx seq = true := fun hne => by
      have h : (seq != r.nx && !lessB r.nx seq) = false := by simpa [Rcv.dup, hlk] using hdup
      simpa [hne] using h
    have hf : findN r.l seq = none := by
      rcases find_cases r.l seq with ⟨_, hf⟩ | ⟨i, d, _, h2, _⟩
      · exact hf
      · rw [hlk] at h2; cases h2
    rw [findI_none hf] at CF
    have HLE := Lib.hid hle
    have HLK := Lib.hid hlk
    have HDUP := Lib.hid hdup
    clear hf hlk hle hdup
    go_enter Try.func25, Try.ntmps25
    go_upto_region 1 with (fail)
    go_cut [29] (fun s29 wx => s29 = .bool false ∧ wx = w)
    case first =>
      by_cases hne : seq = r.nx
      · subst hne
        go_wp2_with fail
        refine CF.out.mono ?_; rintro e' w' ⟨rfl, rfl⟩
        clear CF
        go_wp2_with fail
        go_meet
        exact ⟨by simp, rfl⟩
      · rw [HLE.out hne] at CL
        go_wp2_with fail
        refine CF.out.mono ?_; rintro e' w' ⟨rfl, rfl⟩
        clear CF
        go_wp2_with fail
        refine CL.out.mono ?_; rintro e' w' ⟨rfl, rfl⟩
        go_wp2_with fail
        go_meet
        exact ⟨by simp [hne], rfl⟩
    case rest =>
      obtain ⟨rfl, hw⟩ := hcut
      obtain rfl : w = wc := hw.symm
      clear CF CL
      go_upto_if 42 with (fail)
      go_cut [] (fun wx => RefAt wx B q (.slice a r.l.length cap) ⟨r.nx, r.l, if r.l.isEmpty then now else r.since, r.twice⟩ ∧ Chg [q] w wx)
      case first =>
        by_cases he : r.l = []
        · have hl0 : r.l.length = 0 := by rw [he]; rfl
          have hs : (if r.l.isEmpty then now else r.since) = now := by rw [he]; rfl
          have HS := Lib.hid hs
          have HL0 := Lib.hid hl0
          rw [hl0]
          clear he hs hl0
          go_wp2_with fail
          go_meet
          have hcs : Chg [q] w (w.setCell ⟨q, 2, none⟩ (.int .i64 now)) := (Chg.refl _ _).set (by simp) _
          rw [HS.out]
          exact ⟨⟨HR.out.1.set 2 _, HR.out.2.1.chg hcs (fun x hx => by simp at hx; subst hx; exact HR.out.2.1.ne HR.out.1 (by decide)), HR.out.2.2⟩, hcs⟩
        · have hpos : 0 < r.l.length := List.length_pos_iff.2 he
          have hpos' : ((r.l.length : Int) == 0) = false := beq_eq_false_iff_ne.2 (by omega)
          have hs : (if r.l.isEmpty then now else r.since) = r.since := by
            have h1 : r.l.isEmpty = false := by simpa using he
            rw [h1]; rfl
          have HS := Lib.hid hs
          clear he hs
          go_wp2_with fail
          go_meet
          rw [HS.out]
          exact ⟨HR.out, Chg.refl _ _⟩
      case rest =>
        obtain ⟨hr1, hc1⟩ := hcut
        clear c0 c1 c2 c3 f0 f1 f2 f3
        obtain ⟨c0, c1, c2, c3, f0, f1, f2, f3⟩ := hr1.1.four
        obtain ⟨S, hS⟩ : ∃ S, S = (if r.l.isEmpty then now else r.since) := ⟨_, rfl⟩
        rw [← hS] at c2
        have hO1 : Own 31 2 wc B (.slice a r.l.length cap) (pk r.l) := hr1.2.1
        obtain ⟨v', w1, happ, hown1, hch1, hob1⟩ := own_push elem31 27 hO1 (Nat.le_trans hB hc1.size) (x := [.int .u32 seq, .slice da dn dc]) (c := 1) rfl (by intro u hu; simp at hu; rcases hu with rfl | rfl <;> rfl) (by rw [pk_len]; omega)
        obtain ⟨v2a, v2c, hv2⟩ := hown1.slice
        have hplen : (pk r.l ++ [[Value.int .u32 seq, Value.slice da dn dc]]).length = r.l.length + 1 := by simp [pk]
        rw [hplen] at hv2
        subst hv2
        have hq1 : q ∉ (Value.slice a r.l.length cap).ownBlock.toList := fun hx => hO1.ne hr1.1 (by decide) (by simpa using hx)
        have hA1 := hr1.1.chg hch1 hq1
        simp only at hA1
        obtain ⟨d0, d1, d2, d3, x0, x1, x2, x3⟩ := hA1.four
        have hcs : Chg [q] w1 (w1.setCell ⟨q, 1, none⟩ (.slice v2a (r.l.length + 1) v2c)) := (Chg.refl _ _).set (by simp) _
        have hpkm : pk r.l ++ [[Value.int .u32 seq, Value.slice da dn dc]] = pk (r.more now seq (.slice da dn dc)).l := by rw [Rcv.more, pk_app]; rfl
        have hr2 : RefAt (w1.setCell ⟨q, 1, none⟩ (.slice v2a (r.l.length + 1) v2c)) B q (.slice v2a (r.l.length + 1) v2c) (r.more now seq (.slice da dn dc)) := by
          refine ⟨hA1.set 1 _, ?_, ?_, pk_vals HR.out.2.2.2⟩
          · rw [← hpkm]
            exact hown1.chg hcs (fun x hx => by simp at hx; subst hx; exact hown1.ne hA1 (by decide))
          · simp only [Rcv.more, List.map_append, List.map_cons, List.map_nil]
            rw [List.nodup_append]
            refine ⟨HR.out.2.2.1, by simp, fun x hx y hy => ?_⟩
            simp at hy
            subst hy
            obtain ⟨p, hp, rfl⟩ := List.mem_map.1 hx
            exact lk_none HLK.out p hp
        obtain ⟨wf, hwf⟩ : ∃ wf, wf = w1.setCell ⟨q, 1, none⟩ (.slice v2a (r.l.length + 1) v2c) := ⟨_, rfl⟩
        have hcf : Chg (q :: (Value.slice a r.l.length cap).ownBlock.toList) w wf := by
          rw [hwf]
          exact ((hc1.mono (fun x hx => by simp at hx; subst hx; left; simp)).trans (hch1.mono (fun x hx => by left; exact List.mem_cons_of_mem _ hx))).trans (hcs.mono (fun x hx => by simp at hx; subst hx; left; simp))
        rw [← hwf] at hr2
        have hml : (r.more now seq (.slice da dn dc)).l.length ≤ 1000 := by rw [Rcv.more_len]; omega
        have okm := Rcv.more_ok (d := Value.slice da dn dc) (now := now) OK.out hs0 hs1 HDUP.out
        have hBf : B ≤ wf.heap.size := Nat.le_trans hB hcf.size
        have CH := Lib.hid (hand_any B q _ _ now wf hr2 hBf okm.nx0 okm.nx1 hml)
        have CS := Lib.hid (skip_any B q _ _ now wf hr2 hBf okm (by simp [Rcv.more]) hml)
        have hA2 := hr2.1
        simp only [Rcv.more] at hA2
        obtain ⟨y0, y1, y2, y3, z0, z1, z2, z3⟩ := hA2.four
        have R2 := Lib.hid hr2
        have HCF := Lib.hid hcf
        have HWF := Lib.hid hwf
        have HSZ := hcf.size
        have hll := HR.out.2.1
        have HOB : Hid (∀ b, (Value.slice v2a (r.l.length + 1) v2c).ownBlock = some b → (Value.slice a r.l.length cap).ownBlock = some b ∨ w.heap.size ≤ b) := Lib.hid (fun b hb => (hob1 b hb).imp id (fun h => Nat.le_trans hc1.size h))
        have MK := Lib.hid (Rcv.more_len r now seq (Value.slice da dn dc))
        clear hr1 hO1 hc1 hS hown1 hob1 hq1 hA1 hcs hpkm hr2 hwf hcf hml hA2 hplen hch1 hll okm
        have HH := Lib.hid happ
        clear happ
        by_cases hne : seq = r.nx
        · subst hne
          have happ := HH.out
          go_wp2_with (at_builtin; refine wpList_app_eq rfl _ _ 27 rfl rfl rfl happ ?_)
          rw [← HWF.out]
          refine CH.out.mono ?_
          rintro e' w' hp
          obtain ⟨o, v, rfl, h1, h2, h3⟩ := hp.ref
          have H1 := Lib.hid h1
          have H2 := Lib.hid h2
          have H3 := Lib.hid (hp.choose_spec.choose_spec.2.2.2.1)
          clear h1 h2 h3 hp CH CS happ d0 d1 d2 d3 x0 x1 x2 x3 y0 y1 y2 y3 z0 z1 z2 z3
          go_wp2_with fail
          go_ret
          have hput : r.put now r.nx (.slice da dn dc) = (r.more now r.nx (.slice da dn dc)).run r.nx now := by
            unfold Rcv.put
            rw [HDUP.out, if_neg (by simp), if_pos rfl]
          rw [hput]
          exact ⟨o, v, rfl, H1.out.mono HSZ, H2.out, HCF.out.trans (H3.out.mono (fun x hx => by simp at hx; subst hx; left; simp))⟩
        · by_cases hlt : r.l.length < 8
          · have hput : r.put now seq (.slice da dn dc) = (r.more now seq (.slice da dn dc), []) := by
              unfold Rcv.put
              rw [HDUP.out, if_neg (by simp), if_neg hne, if_pos hlt]
            have hfin : RefPost B q (r.put now seq (.slice da dn dc)).1 (r.put now seq (.slice da dn dc)).2 (.slice a r.l.length cap) w (.returned (.slice none 0 0)) wf := by
              rw [hput]
              exact ⟨_, _, rfl, Own.nil _ _ _ _, R2.out, HCF.out⟩
            have HF := Lib.hid hfin
            have happ := HH.out
            clear hput hfin CH CS
            go_wp2_with (at_builtin; refine wpList_app_eq rfl _ _ 27 rfl rfl rfl happ ?_)
            rw [← HWF.out]
            go_ret
            exact HF.out
          · have hput : r.put now seq (.slice da dn dc) = (r.more now seq (.slice da dn dc)).run (leastK r.nx (r.more now seq (.slice da dn dc)).l) now := by
              unfold Rcv.put
              rw [HDUP.out, if_neg (by simp), if_neg hne, if_neg hlt]
            have happ := HH.out
            have HP := Lib.hid hput
            clear hput
            go_wp2_with (at_builtin; refine wpList_app_eq rfl _ _ 27 rfl rfl rfl happ ?_)
            rw [← HWF.out]
            refine CS.out.mono ?_
            rintro e' w' ⟨o, v, rfl, h1, h2, h3⟩
            have H1 := Lib.hid h1
            have H2 := Lib.hid h2
            have H3 := Lib.hid h3
            clear h1 h2 h3 CH CS happ d0 d1 d2 d3 x0 x1 x2 x3 y0 y1 y2 y3 z0 z1 z2 z3
            go_wp2_with fail
            go_ret
            rw [HP.out]
            exact ⟨o, v, rfl, H1.out.mono HSZ, H2.out, HCF.out.trans' H3.out (fun x hx => by
              rcases List.mem_cons.1 hx with rfl | hx
              · left; simp
              · rcases HOB.out x (by simpa using hx) with h | h
                · left; exact List.mem_cons_of_mem _ (by simpa using h)
                · exact .inr h)⟩
end Go.Proofs.Ytkmjpphmciaklaa
