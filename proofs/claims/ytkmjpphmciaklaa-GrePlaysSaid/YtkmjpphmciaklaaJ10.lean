/- Contracts of catwalkref31 over this seat's translation: Tick, Put. The reference's receiver against lists of bytes; two rows of packets are the same. -/
import Derived.Test.YtkmjpphmciaklaaJ9
namespace Go.Proofs.Ytkmjpphmciaklaa
open Go.RowKit
set_option linter.unusedVariables false
set_option linter.unusedSimpArgs false
attribute [local go_sem ↓] Go.wp_at_zero Go.wp_at_succ

set_option maxRecDepth 100000 in
set_option maxHeartbeats 1000000 in
theorem rtick_any (B q : Nat) (v0 : Value) (r : Rcv Value) (now : Int) (w : World) (hr : RefAt w B q v0 r) (hB : B ≤ w.heap.size) (ok : r.Ok) (hlen : r.l.length ≤ 1000) (hn0 : 0 ≤ now) (hn1 : now ≤ 1000000000) (hs0 : 0 ≤ r.since) (hs1 : r.since ≤ 1000000000) :
    Calls Try.prog 24 #[.pointer (some ⟨q, 0, none⟩), .int .i64 now] w (RefPost B q (r.tick now).1 (r.tick now).2 v0 w) := by
  have HR := Lib.hid hr
  have OK := Lib.hid ok
  obtain ⟨a, cap, rfl, hcap, hcell⟩ := hr.cells
  obtain ⟨c0, c1, c2, c3, f0, f1, f2, f3⟩ := hr.1.four
  clear hr ok hcell
  by_cases he : r.l = []
  · have hfin : RefPost B q (r.tick now).1 (r.tick now).2 (.slice a r.l.length cap) w (.returned (.slice none 0 0)) w := by
      have ht : r.tick now = (r, []) := by unfold Rcv.tick; rw [he]; simp
      rw [ht]
      exact ⟨_, _, rfl, Own.nil _ _ _ _, HR.out, Chg.refl _ _⟩
    have HF := Lib.hid hfin
    have hl0 : r.l.length = 0 := by rw [he]; rfl
    rw [hl0] at c1 HF ⊢
    clear he hfin hl0
    go_enter Try.func24, Try.ntmps24
    go_wp2_with fail
    go_ret
    exact HF.out
  · have hpos : 0 < r.l.length := List.length_pos_iff.2 he
    by_cases hlt : now - r.since < 4
    · have hfin : RefPost B q (r.tick now).1 (r.tick now).2 (.slice a r.l.length cap) w (.returned (.slice none 0 0)) w := by
        have ht : r.tick now = (r, []) := by unfold Rcv.tick; simp [hlt]
        rw [ht]
        exact ⟨_, _, rfl, Own.nil _ _ _ _, HR.out, Chg.refl _ _⟩
      have HF := Lib.hid hfin
      clear he hfin
      have hpos' : ((r.l.length : Int) == 0) = false := beq_eq_false_iff_ne.2 (by omega)
      go_enter Try.func24, Try.ntmps24
      go_wp2_with fail
      go_ret
      exact HF.out
    · have ht : r.tick now = r.run (leastK r.nx r.l) now := by
        unfold Rcv.tick
        have h1 : r.l.isEmpty = false := by simpa using he
        rw [h1, decide_eq_false hlt]; rfl
      have CT := Lib.hid (skip_any B q _ r now w HR.out hB OK.out he hlen)
      rw [ht]
      clear he ht
      have hpos' : ((r.l.length : Int) == 0) = false := beq_eq_false_iff_ne.2 (by omega)
      go_enter Try.func24, Try.ntmps24
      go_wp2_with fail
      refine CT.out.mono ?_
      rintro e' w' ⟨o, v, rfl, h1, h2, h3⟩
      have H1 := Lib.hid h1
      have H2 := Lib.hid h2
      have H3 := Lib.hid h3
      clear h1 h2 h3 CT
      go_wp2_with fail
      go_ret
      exact ⟨o, v, rfl, H1.out, H2.out, H3.out⟩

theorem pk_vals {r : Rcv Value} {now seq : Int} {a : Option Addr} {n c : Nat} (hv : Vals r.l) : Vals (r.more now seq (.slice a n c)).l := by
  intro q hq
  rcases List.mem_append.1 hq with hq | hq
  · exact hv q hq
  · simp at hq; subst hq; exact ⟨_, _, _, rfl⟩

set_option maxRecDepth 100000 in
set_option maxHeartbeats 2000000 in
theorem rput_any (B q : Nat) (v0 : Value) (r : Rcv Value) (now seq : Int) (da : Option Addr) (dn dc : Nat) (w : World) (hr : RefAt w B q v0 r) (hB : B ≤ w.heap.size) (ok : r.Ok) (hlen : r.l.length ≤ 900) (hs0 : 0 ≤ seq) (hs1 : seq < 4294967296)
    (ht0 : 0 ≤ r.twice) (ht1 : r.twice < 1000000) :
    Calls Try.prog 25 #[.pointer (some ⟨q, 0, none⟩), .int .i64 now, .int .u32 seq, .slice da dn dc] w (RefPost B q (r.put now seq (.slice da dn dc)).1 (r.put now seq (.slice da dn dc)).2 v0 w) := by
  have HR := Lib.hid hr
  have OK := Lib.hid ok
  have CF := Lib.hid (find_any B q v0 r seq w hr (by omega))
  have hnx0 := ok.nx0
  have hnx1 := ok.nx1
  have CL := Lib.hid (less02_any r.nx seq w hnx0 hnx1 hs0 hs1)
  obtain ⟨a, cap, rfl, hcap, hcell⟩ := hr.cells
  obtain ⟨c0, c1, c2, c3, f0, f1, f2, f3⟩ := hr.1.four
  clear hr ok hcell
  by_cases hdup : r.dup seq = true
  · have hput : r.put now seq (.slice da dn dc) = (⟨r.nx, r.l, r.since, r.twice + 1⟩, []) := by unfold Rcv.put; rw [if_pos hdup]
    have hcs : Chg [q] w (w.setCell ⟨q, 3, none⟩ (.int .i64 (r.twice + 1))) := (Chg.refl _ _).set (by simp) _
    have hfin : RefPost B q (r.put now seq (.slice da dn dc)).1 (r.put now seq (.slice da dn dc)).2 (.slice a r.l.length cap) w (.returned (.slice none 0 0)) (w.setCell ⟨q, 3, none⟩ (.int .i64 (r.twice + 1))) := by
      rw [hput]
      exact ⟨_, _, rfl, Own.nil _ _ _ _, ⟨HR.out.1.set 3 _, HR.out.2.1.chg hcs (fun x hx => by simp at hx; subst hx; exact HR.out.2.1.ne HR.out.1 (by decide)), HR.out.2.2⟩, hcs.mono (fun x hx => by simp at hx; subst hx; left; simp)⟩
    have HF := Lib.hid hfin
    rcases find_cases r.l seq with ⟨hlk, hf⟩ | ⟨i, d, hli, hlk, hf⟩
    · rw [findI_none hf] at CF
      have hne : seq ≠ r.nx := by
        intro e
        rw [Rcv.dup, hlk, e] at hdup
        simp at hdup
      have hle : lessB r.nx seq = false := by
        simp [Rcv.dup, hlk] at hdup
        exact hdup.2
      rw [hle] at CL
      clear hdup hput hcs hfin hlk hf hle
      go_enter Try.func25, Try.ntmps25
      go_wp2_with fail
      refine CF.out.mono ?_; rintro e' w' ⟨rfl, rfl⟩
      clear CF
      go_wp2_with fail
      refine CL.out.mono ?_; rintro e' w' ⟨rfl, rfl⟩
      clear CL
      go_wp2_with fail
      go_ret
      exact HF.out
    · rw [findI_some hf] at CF
      clear hdup hput hcs hfin hlk hf hli
      go_enter Try.func25, Try.ntmps25
      go_wp2_with fail
      refine CF.out.mono ?_; rintro e' w' ⟨rfl, rfl⟩
      clear CF
      go_wp2_with fail
      go_ret
      exact HF.out
  · have hdup : r.dup seq = false := by simpa using hdup
    have hlk : lk r.l seq = none := by
      cases h : lk r.l seq with
      | none => rfl
      | some x => simp [Rcv.dup, h] at hdup
    have hle : seq ≠ r.nx → lessB r.nx seq = true := fun hne => by
      have h : (seq != r.nx && !lessB r.nx seq) = false := by simpa [Rcv.dup, hlk] using hdup
      simpa [hne] using h
    have hf : findN r.l seq = none := by
      rcases find_cases r.l seq with ⟨_, hf⟩ | ⟨i, d, _, h2, _⟩
      · exact hf
      · rw [hlk] at h2; cases h2
    rw [findI_none hf] at CF
    have HLE := Lib.hid hle
    have HLK := Lib.hid hlk
    have HDUP := Lib.hid hdup
    clear hf hlk hle hdup
    go_enter Try.func25, Try.ntmps25
    go_upto_region 1 with (fail)
    go_cut [29] (fun s29 wx => s29 = .bool false ∧ wx = w)
    case first =>
      by_cases hne : seq = r.nx
      · subst hne
        go_wp2_with fail
        refine CF.out.mono ?_; rintro e' w' ⟨rfl, rfl⟩
        clear CF
        go_wp2_with fail
        go_meet
        exact ⟨by simp, rfl⟩
      · rw [HLE.out hne] at CL
        go_wp2_with fail
        refine CF.out.mono ?_; rintro e' w' ⟨rfl, rfl⟩
        clear CF
        go_wp2_with fail
        refine CL.out.mono ?_; rintro e' w' ⟨rfl, rfl⟩
        go_wp2_with fail
        go_meet
        exact ⟨by simp [hne], rfl⟩
    case rest =>
      obtain ⟨rfl, hw⟩ := hcut
      obtain rfl : w = wc := hw.symm
      clear CF CL
      go_upto_if 42 with (fail)
      go_cut [] (fun wx => RefAt wx B q (.slice a r.l.length cap) ⟨r.nx, r.l, if r.l.isEmpty then now else r.since, r.twice⟩ ∧ Chg [q] w wx)
      case first =>
        by_cases he : r.l = []
        · have hl0 : r.l.length = 0 := by rw [he]; rfl
          have hs : (if r.l.isEmpty then now else r.since) = now := by rw [he]; rfl
          have HS := Lib.hid hs
          have HL0 := Lib.hid hl0
          rw [hl0]
          clear he hs hl0
          go_wp2_with fail
          go_meet
          have hcs : Chg [q] w (w.setCell ⟨q, 2, none⟩ (.int .i64 now)) := (Chg.refl _ _).set (by simp) _
          rw [HS.out]
          exact ⟨⟨HR.out.1.set 2 _, HR.out.2.1.chg hcs (fun x hx => by simp at hx; subst hx; exact HR.out.2.1.ne HR.out.1 (by decide)), HR.out.2.2⟩, hcs⟩
        · have hpos : 0 < r.l.length := List.length_pos_iff.2 he
          have hpos' : ((r.l.length : Int) == 0) = false := beq_eq_false_iff_ne.2 (by omega)
          have hs : (if r.l.isEmpty then now else r.since) = r.since := by
            have h1 : r.l.isEmpty = false := by simpa using he
            rw [h1]; rfl
          have HS := Lib.hid hs
          clear he hs
          go_wp2_with fail
          go_meet
          rw [HS.out]
          exact ⟨HR.out, Chg.refl _ _⟩
      case rest =>
        obtain ⟨hr1, hc1⟩ := hcut
        clear c0 c1 c2 c3 f0 f1 f2 f3
        obtain ⟨c0, c1, c2, c3, f0, f1, f2, f3⟩ := hr1.1.four
        obtain ⟨S, hS⟩ : ∃ S, S = (if r.l.isEmpty then now else r.since) := ⟨_, rfl⟩
        rw [← hS] at c2
        have hO1 : Own 31 2 wc B (.slice a r.l.length cap) (pk r.l) := hr1.2.1
        obtain ⟨v', w1, happ, hown1, hch1, hob1⟩ := own_push elem31 27 hO1 (Nat.le_trans hB hc1.size) (x := [.int .u32 seq, .slice da dn dc]) (c := 1) rfl (by intro u hu; simp at hu; rcases hu with rfl | rfl <;> rfl) (by rw [pk_len]; omega)
        obtain ⟨v2a, v2c, hv2⟩ := hown1.slice
        have hplen : (pk r.l ++ [[Value.int .u32 seq, Value.slice da dn dc]]).length = r.l.length + 1 := by simp [pk]
        rw [hplen] at hv2
        subst hv2
        have hq1 : q ∉ (Value.slice a r.l.length cap).ownBlock.toList := fun hx => hO1.ne hr1.1 (by decide) (by simpa using hx)
        have hA1 := hr1.1.chg hch1 hq1
        simp only at hA1
        obtain ⟨d0, d1, d2, d3, x0, x1, x2, x3⟩ := hA1.four
        have hcs : Chg [q] w1 (w1.setCell ⟨q, 1, none⟩ (.slice v2a (r.l.length + 1) v2c)) := (Chg.refl _ _).set (by simp) _
        have hpkm : pk r.l ++ [[Value.int .u32 seq, Value.slice da dn dc]] = pk (r.more now seq (.slice da dn dc)).l := by rw [Rcv.more, pk_app]; rfl
        have hr2 : RefAt (w1.setCell ⟨q, 1, none⟩ (.slice v2a (r.l.length + 1) v2c)) B q (.slice v2a (r.l.length + 1) v2c) (r.more now seq (.slice da dn dc)) := by
          refine ⟨hA1.set 1 _, ?_, ?_, pk_vals HR.out.2.2.2⟩
          · rw [← hpkm]
            exact hown1.chg hcs (fun x hx => by simp at hx; subst hx; exact hown1.ne hA1 (by decide))
          · simp only [Rcv.more, List.map_append, List.map_cons, List.map_nil]
            rw [List.nodup_append]
            refine ⟨HR.out.2.2.1, by simp, fun x hx y hy => ?_⟩
            simp at hy
            subst hy
            obtain ⟨p, hp, rfl⟩ := List.mem_map.1 hx
            exact lk_none HLK.out p hp
        obtain ⟨wf, hwf⟩ : ∃ wf, wf = w1.setCell ⟨q, 1, none⟩ (.slice v2a (r.l.length + 1) v2c) := ⟨_, rfl⟩
        have hcf : Chg (q :: (Value.slice a r.l.length cap).ownBlock.toList) w wf := by
          rw [hwf]
          exact ((hc1.mono (fun x hx => by simp at hx; subst hx; left; simp)).trans (hch1.mono (fun x hx => by left; exact List.mem_cons_of_mem _ hx))).trans (hcs.mono (fun x hx => by simp at hx; subst hx; left; simp))
        rw [← hwf] at hr2
        have hml : (r.more now seq (.slice da dn dc)).l.length ≤ 1000 := by rw [Rcv.more_len]; omega
        have okm := Rcv.more_ok (d := Value.slice da dn dc) (now := now) OK.out hs0 hs1 HDUP.out
        have hBf : B ≤ wf.heap.size := Nat.le_trans hB hcf.size
        have CH := Lib.hid (hand_any B q _ _ now wf hr2 hBf okm.nx0 okm.nx1 hml)
        have CS := Lib.hid (skip_any B q _ _ now wf hr2 hBf okm (by simp [Rcv.more]) hml)
        have hA2 := hr2.1
        simp only [Rcv.more] at hA2
        obtain ⟨y0, y1, y2, y3, z0, z1, z2, z3⟩ := hA2.four
        have R2 := Lib.hid hr2
        have HCF := Lib.hid hcf
        have HWF := Lib.hid hwf
        have HSZ := hcf.size
        have hll := HR.out.2.1
        have HOB : Hid (∀ b, (Value.slice v2a (r.l.length + 1) v2c).ownBlock = some b → (Value.slice a r.l.length cap).ownBlock = some b ∨ w.heap.size ≤ b) := Lib.hid (fun b hb => (hob1 b hb).imp id (fun h => Nat.le_trans hc1.size h))
        have MK := Lib.hid (Rcv.more_len r now seq (Value.slice da dn dc))
        clear hr1 hO1 hc1 hS hown1 hob1 hq1 hA1 hcs hpkm hr2 hwf hcf hml hA2 hplen hch1 hll okm
        have HH := Lib.hid happ
        clear happ
        by_cases hne : seq = r.nx
        · subst hne
          have happ := HH.out
          go_wp2_with (at_builtin; refine wpList_app_eq rfl _ _ 27 rfl rfl rfl happ ?_)
          rw [← HWF.out]
          refine CH.out.mono ?_
          rintro e' w' hp
          obtain ⟨o, v, rfl, h1, h2, h3⟩ := hp.ref
          have H1 := Lib.hid h1
          have H2 := Lib.hid h2
          have H3 := Lib.hid (hp.choose_spec.choose_spec.2.2.2.1)
          clear h1 h2 h3 hp CH CS happ d0 d1 d2 d3 x0 x1 x2 x3 y0 y1 y2 y3 z0 z1 z2 z3
          go_wp2_with fail
          go_ret
          have hput : r.put now r.nx (.slice da dn dc) = (r.more now r.nx (.slice da dn dc)).run r.nx now := by
            unfold Rcv.put
            rw [HDUP.out, if_neg (by simp), if_pos rfl]
          rw [hput]
          exact ⟨o, v, rfl, H1.out.mono HSZ, H2.out, HCF.out.trans (H3.out.mono (fun x hx => by simp at hx; subst hx; left; simp))⟩
        · by_cases hlt : r.l.length < 8
          · have hput : r.put now seq (.slice da dn dc) = (r.more now seq (.slice da dn dc), []) := by
              unfold Rcv.put
              rw [HDUP.out, if_neg (by simp), if_neg hne, if_pos hlt]
            have hfin : RefPost B q (r.put now seq (.slice da dn dc)).1 (r.put now seq (.slice da dn dc)).2 (.slice a r.l.length cap) w (.returned (.slice none 0 0)) wf := by
              rw [hput]
              exact ⟨_, _, rfl, Own.nil _ _ _ _, R2.out, HCF.out⟩
            have HF := Lib.hid hfin
            have happ := HH.out
            clear hput hfin CH CS
            go_wp2_with (at_builtin; refine wpList_app_eq rfl _ _ 27 rfl rfl rfl happ ?_)
            rw [← HWF.out]
            go_ret
            exact HF.out
          · have hput : r.put now seq (.slice da dn dc) = (r.more now seq (.slice da dn dc)).run (leastK r.nx (r.more now seq (.slice da dn dc)).l) now := by
              unfold Rcv.put
              rw [HDUP.out, if_neg (by simp), if_neg hne, if_neg hlt]
            have happ := HH.out
            have HP := Lib.hid hput
            clear hput
            go_wp2_with (at_builtin; refine wpList_app_eq rfl _ _ 27 rfl rfl rfl happ ?_)
            rw [← HWF.out]
            refine CS.out.mono ?_
            rintro e' w' ⟨o, v, rfl, h1, h2, h3⟩
            have H1 := Lib.hid h1
            have H2 := Lib.hid h2
            have H3 := Lib.hid h3
            clear h1 h2 h3 CH CS happ d0 d1 d2 d3 x0 x1 x2 x3 y0 y1 y2 y3 z0 z1 z2 z3
            go_wp2_with fail
            go_ret
            rw [HP.out]
            exact ⟨o, v, rfl, H1.out.mono HSZ, H2.out, HCF.out.trans' H3.out (fun x hx => by
              rcases List.mem_cons.1 hx with rfl | hx
              · left; simp
              · rcases HOB.out x (by simpa using hx) with h | h
                · left; exact List.mem_cons_of_mem _ (by simpa using h)
                · exact .inr h)⟩
end Go.Proofs.Ytkmjpphmciaklaa
namespace Go.Proofs.Ytkmjpphmciaklaa
open Go.RowKit
set_option linter.unusedVariables false
set_option linter.unusedSimpArgs false
attribute [local go_sem ↓] Go.wp_at_zero Go.wp_at_succ

/-- Block x is one of elements of this type. -/
def IsT (w : World) (x T : Nat) : Prop := ∃ cs fz, w.heap[x]? = some (.cells cs T fz)
theorem At.isT {w : World} {b T : Nat} {cs : List Value} (h : At w b T cs) : IsT w b T := ⟨_, _, h⟩
theorem IsT.ne {w : World} {x y T U : Nat} (h : IsT w x T) (k : IsT w y U) (hT : T ≠ U) : x ≠ y := by
  rintro rfl
  obtain ⟨cs, fz, e⟩ := h
  obtain ⟨cs', fz', e'⟩ := k
  rw [e] at e'
  simp at e'
  exact hT e'.2.1
theorem Own.isT {E sz : Nat} {w : World} {base : Nat} {v : Value} {xs : List (List Value)} (h : Own E sz w base v xs) {x : Nat} (hx : v.ownBlock = some x) : IsT w x E := by
  rcases h.2.2 with ⟨rfl, _⟩ | ⟨g, cap, cur, rfl, hg, hb, r⟩
  · cases hx
  · simp [Value.ownBlock] at hx
    subst hx
    exact ⟨_, _, hb⟩

/-- The reference's receiver holds a; its row of those that wait is v; its data lie below B. -/
def RefIs (w : World) (B q : Nat) (v : Value) (a : Rcv (List Int)) : Prop := ∃ r, RefAt w B q v r ∧ RelR (BytS (· < B) w) r a
def OutR (w : World) (B base : Nat) (v : Value) (out : List (Int × List Int)) : Prop := ∃ o, Own 31 2 w base v (pk o) ∧ RelL (BytS (· < B) w) o out
/-- What the reference's receiver writes. -/
def refF (q : Nat) (v : Value) : List Nat := q :: v.ownBlock.toList
theorem RefIs.kind {w : World} {B q : Nat} {v : Value} {a : Rcv (List Int)} (h : RefIs w B q v a) (hq : B ≤ q) : ∀ x ∈ refF q v, B ≤ x ∧ x < w.heap.size ∧ (IsT w x 55 ∨ IsT w x 31) := by
  obtain ⟨r, h1, _⟩ := h
  intro x hx
  rcases List.mem_cons.1 hx with rfl | hx
  · exact ⟨hq, h1.1.lt, .inl h1.1.isT⟩
  · have hx' : v.ownBlock = some x := by simpa using hx
    exact ⟨(h1.2.1.lt x hx').1, (h1.2.1.lt x hx').2, .inr (h1.2.1.isT hx')⟩
theorem RefIs.chg {F : List Nat} {w w' : World} {B q : Nat} {v : Value} {a : Rcv (List Int)} (h : RefIs w B q v a) (c : Chg F w w') (hB : ∀ x ∈ F, B ≤ x) (hF : ∀ x ∈ F, ¬ IsT w x 55 ∧ ¬ IsT w x 31) : RefIs w' B q v a := by
  obtain ⟨r, h1, h2⟩ := h
  exact ⟨r, h1.chg c (fun hm => (hF q hm).1 h1.1.isT) (fun x hx e => (hF x hx).2 (h1.2.1.isT e)), h2.mono fun _ _ hb => hb.chg c fun g _ hs hm => by have := hB g hm; omega⟩
theorem OutR.chg {F : List Nat} {w w' : World} {B base : Nat} {v : Value} {out : List (Int × List Int)} (h : OutR w B base v out) (c : Chg F w w') (hB : ∀ x ∈ F, B ≤ x) (h31 : ∀ x ∈ F, ¬ IsT w x 31) : OutR w' B base v out := by
  obtain ⟨o, h1, h2⟩ := h
  exact ⟨o, h1.chg c (fun x hx e => h31 x hx (h1.isT e)), h2.mono fun _ _ hb => hb.chg c fun g _ hs hm => by have := hB g hm; omega⟩
theorem OutIs.chg {F : List Nat} {w w' : World} {base : Nat} {v : Value} {out : List (Int × List Int)} (h : OutIs w base v out) (c : Chg F w w') (hF : ∀ x ∈ F, x < base ∧ NoB w x) : OutIs w' base v out := by
  obtain ⟨o, h1, h2⟩ := h
  exact ⟨o, ownsRow_chg h1 c fun x hx => (hF x hx).1, h2.mono fun _ _ hb => hb.chg c fun b hb => (hF b hb).2⟩
theorem IsT.noB {w : World} {x T : Nat} (h : IsT w x T) (hT : T ≠ 5) : NoB w x := fun cs fz e => by
  obtain ⟨cs', fz', e'⟩ := h
  rw [e] at e'
  simp at e'
  exact hT e'.2.1.symm
theorem RcvIs.kind {w : World} {p m : Nat} {a : Rcv (List Int)} (h : RcvIs w p m a) : IsT w p 99 ∧ ∀ T, ¬ IsT w m T := by
  obtain ⟨r, h1, _⟩ := h
  refine ⟨h1.1.isT, fun T hT => ?_⟩
  obtain ⟨cs, fz, e⟩ := hT
  obtain ⟨es, clock, e', _⟩ := h1.2
  rw [e] at e'
  cases e'

def RIs (B q : Nat) (v : Value) (a' : Rcv (List Int)) (out : List (Int × List Int)) (w : World) (e : Ending) (w' : World) : Prop :=
  ∃ o v', e = .returned o ∧ OutR w' B w.heap.size o out ∧ RefIs w' B q v' a' ∧ Chg (refF q v) w w'
theorem RefPost.is {B q : Nat} {r' : Rcv Value} {out : List (Int × Value)} {v0 : Value} {w w' : World} {e : Ending} {a' : Rcv (List Int)} {aout : List (Int × List Int)} {r : Rcv Value} (hr : RefAt w B q v0 r) (hq : B ≤ q)
    (h : RefPost B q r' out v0 w e w') (h1 : RelR (BytS (· < B) w) r' a') (h2 : RelL (BytS (· < B) w) out aout) : RIs B q v0 a' aout w e w' := by
  obtain ⟨o, v, he, ho, hR, hc⟩ := h
  have hF : ∀ x ∈ q :: v0.ownBlock.toList, B ≤ x := fun x hx => by
    rcases List.mem_cons.1 hx with rfl | hx
    · exact hq
    · exact (hr.2.1.lt x (by simpa using hx)).1
  have hm : ∀ x y, BytS (· < B) w x y → BytS (· < B) w' x y := fun x y hb => hb.chg hc fun g _ hs hm => by have := hF g hm; omega
  exact ⟨o, v, he, ⟨_, ho, h2.mono hm⟩, ⟨r', hR, h1.mono hm⟩, hc⟩

theorem rtick_is (B q : Nat) (v : Value) (a : Rcv (List Int)) (now : Int) (w : World) (hr : RefIs w B q v a) (hB : B ≤ w.heap.size) (hq : B ≤ q) (ok : a.Ok) (hlen : a.l.length ≤ 900) (hn0 : 0 ≤ now) (hn1 : now ≤ 1000000000) (hs0 : 0 ≤ a.since) (hs1 : a.since ≤ 1000000000) :
    Calls Try.prog 24 #[.pointer (some ⟨q, 0, none⟩), .int .i64 now] w (RIs B q v (a.tick now).1 (a.tick now).2 w) := by
  obtain ⟨r, h1, h2⟩ := hr
  have h3 := h2.tick now
  exact (rtick_any B q v r now w h1 hB (h2.ok ok) (by rw [h2.2.1.len]; omega) hn0 hn1 (by rw [h2.2.2.1]; exact hs0) (by rw [h2.2.2.1]; exact hs1)).mono fun e w' h => h.is h1 hq h3.1 h3.2
theorem rput_is (B q : Nat) (v : Value) (a : Rcv (List Int)) (now seq : Int) (u : Value) (d : List Int) (w : World) (hr : RefIs w B q v a) (hB : B ≤ w.heap.size) (hq : B ≤ q) (ok : a.Ok) (hlen : a.l.length ≤ 900) (hd : BytS (· < B) w u d)
    (hs0 : 0 ≤ seq) (hs1 : seq < 4294967296) (ht0 : 0 ≤ a.twice) (ht1 : a.twice < 1000000) :
    Calls Try.prog 25 #[.pointer (some ⟨q, 0, none⟩), .int .i64 now, .int .u32 seq, u] w (RIs B q v (a.put now seq d).1 (a.put now seq d).2 w) := by
  obtain ⟨r, h1, h2⟩ := hr
  have h3 := h2.put now seq hd
  obtain ⟨da, dn, dc, rfl⟩ := hd.slice
  exact (rput_any B q v r now seq da dn dc w h1 hB (h2.ok ok) (by rw [h2.2.1.len]; omega) hs0 hs1 (by rw [h2.2.2.2]; exact ht0) (by rw [h2.2.2.2]; exact ht1)).mono fun e w' h => h.is h1 hq h3.1 h3.2

/-! ### Of all that waits, and is handed on -/
section
variable {α : Type} {D : α → Prop}
theorem runF_all : ∀ (f : Nat) (nx : Int) (l : List (Int × α)), (∀ p ∈ l, D p.2) → (∀ p ∈ (runF f nx l).1, D p.2) ∧ ∀ p ∈ (runF f nx l).2.2, D p.2
  | 0, nx, l, h => ⟨fun p hp => by simp [runF] at hp, h⟩
  | f + 1, nx, l, h => by
    unfold runF
    split
    · exact ⟨fun p hp => by simp at hp, h⟩
    · rename_i v hv
      have ih := runF_all f ((nx + 1) % 4294967296) (l.filter (fun p => p.1 != nx)) (fun p hp => h p (List.mem_filter.1 hp).1)
      refine ⟨fun p hp => ?_, ih.2⟩
      rcases List.mem_cons.1 hp with rfl | hp
      · exact h _ (lk_some hv)
      · exact ih.1 p hp
theorem Rcv.run_all {r : Rcv α} {nx now : Int} (h : ∀ p ∈ r.l, D p.2) : (∀ p ∈ (r.run nx now).2, D p.2) ∧ ∀ p ∈ (r.run nx now).1.l, D p.2 := runF_all _ _ _ h
theorem Rcv.put_all {r : Rcv α} {now seq : Int} {d : α} (h : ∀ p ∈ r.l, D p.2) (hd : D d) : (∀ p ∈ (r.put now seq d).2, D p.2) ∧ ∀ p ∈ (r.put now seq d).1.l, D p.2 := by
  have hm : ∀ p ∈ (r.more now seq d).l, D p.2 := fun p hp => by
    rcases List.mem_append.1 hp with hp | hp
    · exact h p hp
    · simp at hp; subst hp; exact hd
  unfold Rcv.put
  split
  · exact ⟨fun p hp => by simp at hp, h⟩
  · split
    · exact Rcv.run_all hm
    · split
      · exact ⟨fun p hp => by simp at hp, hm⟩
      · exact Rcv.run_all hm
theorem Rcv.tick_all {r : Rcv α} {now : Int} (h : ∀ p ∈ r.l, D p.2) : (∀ p ∈ (r.tick now).2, D p.2) ∧ ∀ p ∈ (r.tick now).1.l, D p.2 := by
  unfold Rcv.tick
  split
  · exact ⟨fun p hp => by simp at hp, h⟩
  · exact Rcv.run_all h
theorem Rcv.run_out {r : Rcv α} {nx now : Int} : (r.run nx now).2.length ≤ r.l.length := by
  have := run_shrinks r.l.length nx r.l
  show (runF r.l.length nx r.l).1.length ≤ _
  omega
theorem Rcv.put_out {r : Rcv α} {now seq : Int} {d : α} : (r.put now seq d).2.length ≤ r.l.length + 1 := by
  have hm := Rcv.more_len r now seq d
  unfold Rcv.put
  split
  · simp
  · split
    · have := Rcv.run_out (r := r.more now seq d) (nx := r.nx) (now := now); omega
    · split
      · simp
      · have := Rcv.run_out (r := r.more now seq d) (nx := leastK r.nx (r.more now seq d).l) (now := now); omega
theorem Rcv.tick_out {r : Rcv α} {now : Int} : (r.tick now).2.length ≤ r.l.length := by
  unfold Rcv.tick
  split
  · simp
  · exact Rcv.run_out
end

/-- A slice of packets: how it looks. -/
def SeqAt (S : Nat → Prop) (w : World) (v : Value) (out : List (Int × List Int)) : Prop :=
  ∃ a c, v = .slice a out.length c ∧ ∀ k (hk : k < out.length), ∃ g d, a = some ⟨g, 0, none⟩ ∧ w.cell? ⟨g, k * 2, none⟩ = some (.int .u32 (out[k]'hk).1) ∧ w.cell? ⟨g, k * 2 + 1, none⟩ = some d ∧ BytS S w d (out[k]'hk).2
theorem OutIs.seq {w : World} {base : Nat} {v : Value} {out : List (Int × List Int)} (h : OutIs w base v out) : SeqAt (fun _ => True) w v out := by
  obtain ⟨a, c, hv, hk⟩ := h.at
  exact ⟨a, c, hv, fun k hl => by
    obtain ⟨g, d, h1, _, _, _, h2, h3, h4⟩ := hk k hl
    exact ⟨g, d, h1, h2, h3, h4.wide.mono fun _ _ _ => trivial⟩⟩
theorem OutR.seq {w : World} {B base : Nat} {v : Value} {out : List (Int × List Int)} (h : OutR w B base v out) : SeqAt (fun _ => True) w v out := by
  obtain ⟨o, h1, h2⟩ := h
  have hlen := h2.len
  obtain ⟨a, c, rfl⟩ := h1.slice
  rw [pk_len, hlen] at h1 ⊢
  refine ⟨a, c, rfl, fun k hk => ?_⟩
  have hk' : k < o.length := by omega
  obtain ⟨g, cap, he, _, _, _, _, hcell⟩ := h1.form (by intro e; have : (pk o).length = 0 := by rw [e]; rfl
                                                        rw [pk_len] at this; omega)
  simp only [Value.slice.injEq] at he
  obtain ⟨r1, r2⟩ := h2.at hk' hk
  refine ⟨g, o[k].2, he.1, ?_, hcell k 1 _ _ (pk_at (List.getElem?_eq_getElem hk')) rfl, r2.mono fun _ _ _ => trivial⟩
  rw [← r1]
  exact hcell k 0 _ _ (pk_at (List.getElem?_eq_getElem hk')) rfl
theorem SeqAt.chg {S : Nat → Prop} {w w' : World} {v : Value} {out : List (Int × List Int)} (h : SeqAt S w v out) (c : Chg [] w w') : SeqAt S w' v out := by
  obtain ⟨a, n, hv, hk⟩ := h
  refine ⟨a, n, hv, fun k hl => ?_⟩
  obtain ⟨g, d, h1, h2, h3, h4⟩ := hk k hl
  have hb := World.block_lt_of_cell? w _ h2
  exact ⟨g, d, h1, (c.cell (p := ⟨g, k * 2, none⟩) hb (by simp)).trans h2, (c.cell (p := ⟨g, k * 2 + 1, none⟩) hb (by simp)).trans h3, h4.chg c (fun _ _ _ => by simp)⟩

set_option maxRecDepth 100000 in
set_option maxHeartbeats 2000000 in
theorem same_any {S1 S2 : Nat → Prop} (v1 v2 : Value) (out : List (Int × List Int)) (w : World) (h1 : SeqAt S1 w v1 out) (h2 : SeqAt S2 w v2 out) (hd : ∀ k (hk : k < out.length), (out[k]'hk).2.length ≤ 1000000) (hl : out.length ≤ 1000000) :
    Calls Try.prog 26 #[v1, v2] w fun e w' => e = .returned (.bool true) ∧ ∃ n, w' = w.drewN n := by
  obtain ⟨a1, c1, rfl, r1⟩ := h1
  obtain ⟨a2, c2, rfl, r2⟩ := h2
  have R1 := Lib.hid r1
  have R2 := Lib.hid r2
  have HD := Lib.hid hd
  clear r1 r2 hd
  go_enter Try.func26, Try.ntmps26
  go_wp2_with fail
  go_loopg [5] out.length (fun g s5 wr => ∃ k : Nat, k ≤ out.length ∧ g = out.length - k ∧ s5 = .int .i64 k ∧ Drawn w wr)
  case atStart => exact ⟨0, by omega, by omega, rfl, Drawn.refl _⟩
  case round =>
    obtain ⟨k, hk, rfl, rfl, hc⟩ := hrel
    have HC := Lib.hid hc
    clear hc
    by_cases hkl : k < out.length
    · obtain ⟨g1, d1, rfl, e1, e2, e3⟩ := R1.out k hkl
      obtain ⟨g2, d2, rfl, e4, e5, e6⟩ := R2.out k hkl
      have x1 : wr.cell? ⟨g1, k * 2, none⟩ = _ := HC.out.cell.trans e1
      have x2 : wr.cell? ⟨g1, k * 2 + 1, none⟩ = _ := HC.out.cell.trans e2
      have x4 : wr.cell? ⟨g2, k * 2, none⟩ = _ := HC.out.cell.trans e4
      have x5 : wr.cell? ⟨g2, k * 2 + 1, none⟩ = _ := HC.out.cell.trans e5
      have hb1 := e3.chg (HC.out.chg []) (fun _ _ _ => by simp)
      have hb2 := e6.chg (HC.out.chg []) (fun _ _ _ => by simp)
      have hdl := HD.out k hkl
      obtain ⟨x, hx⟩ : ∃ x, x = out[k].1 := ⟨_, rfl⟩
      obtain ⟨d, hdd⟩ : ∃ d, d = out[k].2 := ⟨_, rfl⟩
      rw [← hx] at x1 x4
      rw [← hdd] at hb1 hb2 hdl
      obtain ⟨da1, dc1, rfl⟩ := hb1.slice'
      obtain ⟨da2, dc2, rfl⟩ := hb2.slice'
      have CE : ∀ n, Calls Try.prog 14 #[.slice da1 d.length dc1, .slice da2 d.length dc2] (wr.drewN n) fun e w' => e = .returned (.bool true) ∧ ∃ m, w' = (wr.drewN n).drewN m := fun n =>
        (equal_q _ _ d d (wr.drewN n) (hb1.chg ((Chg.refl [] _).drewN n) (fun _ _ _ => by simp)) (hb2.chg ((Chg.refl [] _).drewN n) (fun _ _ _ => by simp)) hdl hdl).mono fun e w' ⟨h1, h2⟩ => ⟨h1.trans (by rw [decide_eq_true rfl]), h2⟩
      have HCE := Lib.hid CE
      have hk0 : (0 : Int) ≤ (k : Nat) := by omega
      have hk1 : ((k : Nat) : Int) < (out.length : Nat) := by omega
      clear e1 e2 e3 e4 e5 e6 hb1 hb2 hdl hx hdd CE
      go_wp2_with fail
      go_quiet ((go_at_call 14; exact Calls.quiet_of (HCE.out _)))
      go_wp2_with fail
      go_roundg (out.length - (k + 1))
      case measure => omega
      case rel => exact ⟨k + 1, by omega, rfl, rfl, HC.out.drewN _⟩
    · obtain rfl : k = out.length := by omega
      go_wp2_with fail
      go_ret
      exact ⟨rfl, HC.out⟩
end Go.Proofs.Ytkmjpphmciaklaa
