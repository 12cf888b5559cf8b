/- Contracts of catwalk/recv over this seat's translation: Put, Tick; what they do as plain functions. Contracts of catwalk/recv over this seat's translation: Put, when the packet counts. Contracts of catwalk/recv over this seat's translation: Tick; and both, said of lists of bytes. -/
import Derived.Test.YtkmjpphmciaklaaJ5
namespace Go.Proofs.Ytkmjpphmciaklaa
open Go.RowKit
set_option linter.unusedVariables false
set_option linter.unusedSimpArgs false
attribute [local go_sem ↓] Go.wp_at_zero Go.wp_at_succ

/-- The least number of those that wait, as steps on from the next one. -/
def leastK {α : Type} (nx : Int) : List (Int × α) → Int
  | [] => 0
  | [p] => p.1
  | p :: q :: l => if off nx p.1 ≤ off nx (leastK nx (q :: l)) then p.1 else leastK nx (q :: l)
theorem leastK_spec {α : Type} (nx : Int) : ∀ (l : List (Int × α)), l ≠ [] → (∃ q ∈ l, leastK nx l = q.1) ∧ ∀ q ∈ l, off nx (leastK nx l) ≤ off nx q.1
  | [], h => absurd rfl h
  | [p], _ => ⟨⟨p, by simp, rfl⟩, fun q hq => by simp at hq; subst hq; exact Int.le_refl _⟩
  | p :: q :: l, _ => by
    obtain ⟨⟨x, hx, e⟩, h2⟩ := leastK_spec nx (q :: l) (by simp)
    unfold leastK
    split
    · rename_i hle
      exact ⟨⟨p, by simp, rfl⟩, fun y hy => by
        rcases List.mem_cons.1 hy with rfl | hy
        · exact Int.le_refl _
        · exact Int.le_trans hle (h2 y hy)⟩
    · rename_i hle
      exact ⟨⟨x, List.mem_cons_of_mem _ hx, e⟩, fun y hy => by
        rcases List.mem_cons.1 hy with rfl | hy
        · omega
        · exact h2 y hy⟩
/-- Those that are next go, from a number on. -/
def Rcv.run {α : Type} (r : Rcv α) (nx now : Int) : Rcv α × List (Int × α) :=
  (⟨(runF r.l.length nx r.l).2.1, (runF r.l.length nx r.l).2.2, now, r.twice⟩, (runF r.l.length nx r.l).1)
def Rcv.dup {α : Type} (r : Rcv α) (seq : Int) : Bool := (lk r.l seq).isSome || (seq != r.nx && !lessB r.nx seq)
/-- One more waits. -/
def Rcv.more {α : Type} (r : Rcv α) (now seq : Int) (d : α) : Rcv α := ⟨r.nx, r.l ++ [(seq, d)], if r.l.isEmpty then now else r.since, r.twice⟩
def Rcv.put {α : Type} (r : Rcv α) (now seq : Int) (d : α) : Rcv α × List (Int × α) :=
  if r.dup seq then (⟨r.nx, r.l, r.since, r.twice + 1⟩, [])
  else if seq = r.nx then (r.more now seq d).run r.nx now
  else if r.l.length < 8 then (r.more now seq d, [])
  else (r.more now seq d).run (leastK r.nx (r.more now seq d).l) now
def Rcv.tick {α : Type} (r : Rcv α) (now : Int) : Rcv α × List (Int × α) :=
  if r.l.isEmpty || decide (now - r.since < 4) then (r, []) else r.run (leastK r.nx r.l) now

theorem owns_mono {w : World} {a b : Nat} {e size n : Nat} {v : Value} {xs : List Value} (h : w.ownsRow b e size v n xs) (hab : a ≤ b) : w.ownsRow a e size v n xs := by
  obtain ⟨h1, h2⟩ := h
  refine ⟨h1, ?_⟩
  rcases h2 with h2 | ⟨g, cap, cur, hv, hg, r⟩
  · exact .inl h2
  · exact .inr ⟨g, cap, cur, hv, by omega, r⟩
theorem MapIs.noB {w : World} {m : Nat} {l : List (Int × Value)} (h : MapIs w m l) : NoB w m := by
  obtain ⟨es, clock, hb, _⟩ := h
  intro cs fz he
  rw [hb] at he
  cases he
theorem RcvAt.noB {w : World} {p m : Nat} {r : Rcv Value} (h : RcvAt w p m r) : ∀ b ∈ [p, m], NoB w b := by
  intro b hb
  simp at hb
  rcases hb with rfl | rfl
  · exact h.1.noB (by decide)
  · exact h.2.noB

/-- What Put leaves. -/
def PutPost (p m : Nat) (r : Rcv Value) (now seq : Int) (d : List Int) (w : World) (e : Ending) (w' : World) : Prop :=
  ∃ v o, Bytes w' v d ∧ e = .returned o ∧ w'.ownsRow w.heap.size 31 2 o (r.put now seq v).2.length (cellsOf (r.put now seq v).2) ∧ RcvAt w' p m (r.put now seq v).1 ∧ Chg [p, m] w w'

theorem Try.info5 : (Try.prog.info? 5).map (fun i => (i.zero, i.size, i.bytes)) = some (some (.int .u8 0), 1, 1) := by kernel_rfl

set_option maxRecDepth 100000 in
set_option maxHeartbeats 2000000 in
theorem put_twice (p m : Nat) (r : Rcv Value) (now seq : Int) (v : Value) (w : World) (hr : RcvAt w p m r) (hv : Vals r.l) (hd : ∃ a n c, v = .slice a n c) (h0 : 0 ≤ r.twice) (h1 : r.twice < 1000000) (hdup : r.dup seq = true) :
    Calls Try.prog 13 #[.pointer (some ⟨p, 0, none⟩), .int .i64 now, .int .u32 seq, v] w (PutPost p m r now seq [] w) := by
  obtain ⟨va, vn, vc, rfl⟩ := hd
  have HR := Lib.hid hr
  have HV := Lib.hid hv
  obtain ⟨c0, c1, c2, c3, f0, f1, f2, f3⟩ := hr.1.four
  have HDUP := Lib.hid hdup
  have hfin : PutPost p m r now seq [] w (.returned (.slice none 0 0)) (w.setCell ⟨p, 3, none⟩ (.int .i64 (r.twice + 1))) := by
    have hc : Chg [p, m] w (w.setCell ⟨p, 3, none⟩ (.int .i64 (r.twice + 1))) := (Chg.refl _ _).set (by simp) _
    refine ⟨.slice none 0 0, _, Bytes.nil _, rfl, ?_, ?_, hc⟩
    · simp only [Rcv.put, hdup, if_true]; exact ⟨rfl, .inl ⟨rfl, rfl⟩⟩
    · simp only [Rcv.put, hdup, if_true]
      exact ⟨hr.1.set 3 _, hr.2.chg ((Chg.refl [p] w).set (by simp) _) (by simp; exact fun e => Rcv.ne hr e.symm)⟩
  have HF := Lib.hid hfin
  clear hr hv hdup hfin
  cases hlk : lk r.l seq with
  | some x =>
    obtain ⟨xa, xn, xc, hx⟩ := HV.out _ (lk_some hlk)
    simp only at hx
    subst hx
    have hlook : ∀ n, (Instr.lookup 97 (.map (some m)) (.int .u32 seq) true).run Try.prog (w.drewN n) = .ok (.tuple #[.slice xa xn xc, .bool true]) (w.drewN n) := fun n =>
      look_some Try.underlying97 Try.underlying22 (HR.out.2.chg ((Chg.refl [] w).drewN n) (by simp)) (lk_some hlk)
    have HLK := Lib.hid hlk
    clear hlk
    have hlook0 := hlook 0
    simp only [World.drewN_zero] at hlook0
    go_enter Try.func13, Try.ntmps13
    go_wp2_with fail
    go_ret
    exact HF.out
  | none =>
    have hlook : ∀ n, (Instr.lookup 97 (.map (some m)) (.int .u32 seq) true).run Try.prog (w.drewN n) = .ok (.tuple #[.slice none 0 0, .bool false]) (w.drewN n) := fun n =>
      look_none (z := .slice none 0 0) Try.underlying97 Try.underlying22 (by kernel_rfl) (HR.out.2.chg ((Chg.refl [] w).drewN n) (by simp)) (lk_none hlk)
    have hlook0 := hlook 0
    simp only [World.drewN_zero] at hlook0
    have hne : seq ≠ r.nx := by
      intro e
      have h := HDUP.out
      rw [Rcv.dup, hlk, e] at h
      simp at h
    have hle : lessB r.nx seq = false := by
      have h := HDUP.out
      simp [Rcv.dup, hlk] at h
      exact h.2
    have HLE := Lib.hid hle
    clear hlk hle
    go_enter Try.func13, Try.ntmps13
    go_wp2_with fail
    refine (less_any _ _ _).mono ?_; rintro e' w' ⟨rfl, rfl⟩
    rw [HLE.out]
    go_wp2_with fail
    go_ret
    exact HF.out

/-- Ahead of the new one's coming in. -/
def PutPre (p m : Nat) (r : Rcv Value) (now : Int) (w w' : World) : Prop :=
  RcvAt w' p m ⟨r.nx, r.l, if r.l.isEmpty then now else r.since, r.twice⟩ ∧ Chg [p, m] w w'

theorem Rcv.more_ok {α : Type} {r : Rcv α} {now seq : Int} {d : α} (ok : r.Ok) (hs0 : 0 ≤ seq) (hs1 : seq < 4294967296) (hdup : r.dup seq = false) : (r.more now seq d).Ok := by
  refine ⟨ok.nx0, ok.nx1, fun q hq => ?_⟩
  rcases List.mem_append.1 hq with hq | hq
  · exact ok.keys q hq
  · simp at hq
    subst hq
    refine ⟨hs0, hs1, ?_⟩
    have h : (seq != r.nx && !lessB r.nx seq) = false := by
      unfold Rcv.dup at hdup
      rw [Bool.or_eq_false_iff] at hdup
      exact hdup.2
    have h0 := ok.nx0
    have h1 := ok.nx1
    unfold lessB at h
    simp at h
    show (seq - r.nx) % 4294967296 < 2147483648
    by_cases e : seq = r.nx
    · subst e; simp
    · exact (h e).2
theorem Rcv.more_len {α : Type} (r : Rcv α) (now seq : Int) (d : α) : (r.more now seq d).l.length = r.l.length + 1 := by simp [Rcv.more]
theorem Rcv.more_vals {r : Rcv Value} {now seq : Int} {v : Value} {d : List Int} {w : World} (hv : Vals r.l) (hb : Bytes w v d) : Vals (r.more now seq v).l := by
  intro q hq
  rcases List.mem_append.1 hq with hq | hq
  · exact hv q hq
  · simp at hq; subst hq; exact hb.slice

end Go.Proofs.Ytkmjpphmciaklaa
namespace Go.Proofs.Ytkmjpphmciaklaa
open Go.RowKit
set_option linter.unusedVariables false
set_option linter.unusedSimpArgs false
attribute [local go_sem ↓] Go.wp_at_zero Go.wp_at_succ

set_option maxRecDepth 100000 in
set_option maxHeartbeats 2000000 in
theorem put_new (p m : Nat) (r : Rcv Value) (now seq : Int) (v : Value) (d : List Int) (w : World) (hr : RcvAt w p m r) (ok : r.Ok) (hv : Vals r.l) (hd : BytS (fun g => g ∉ [p, m]) w v d) (hl : d.length ≤ 100000) (hs0 : 0 ≤ seq) (hs1 : seq < 4294967296) (hlen : r.l.length ≤ 1000) (hdup : r.dup seq = false) :
    Calls Try.prog 13 #[.pointer (some ⟨p, 0, none⟩), .int .i64 now, .int .u32 seq, v] w (PutPost p m r now seq d w) := by
  obtain ⟨va, vn, vc, rfl⟩ := hd.slice
  obtain ⟨i0, hi, hz0, hz1, hz2⟩ := info_parts Try.info5
  have HR := Lib.hid hr
  have HD := Lib.hid hd
  have HV := Lib.hid hv
  have OK := Lib.hid ok
  have HDUP := Lib.hid hdup
  obtain ⟨c0, c1, c2, c3, f0, f1, f2, f3⟩ := hr.1.four
  have hlk : lk r.l seq = none := by
    cases h : lk r.l seq with
    | none => rfl
    | some x => simp [Rcv.dup, h] at hdup
  have hle : seq ≠ r.nx → lessB r.nx seq = true := fun hne => by
    have h : (seq != r.nx && !lessB r.nx seq) = false := by simpa [Rcv.dup, hlk] using hdup
    simpa [hne] using h
  have hlook0 : (Instr.lookup 97 (.map (some m)) (.int .u32 seq) true).run Try.prog w = .ok (.tuple #[.slice none 0 0, .bool false]) w :=
    look_none (z := .slice none 0 0) Try.underlying97 Try.underlying22 (by kernel_rfl) HR.out.2 (lk_none hlk)
  have HLK := Lib.hid hlk
  have HLE := Lib.hid hle
  have hlen1 := len_map (P := Try.prog) Try.underlying97 3 hr.2
  have HL1 := Lib.hid hlen1
  clear hr hd hv ok hdup hlk hle hlen1
  go_enter Try.func13, Try.ntmps13
  go_upto_region 2 with (fail)
  go_cut [37] (fun s37 wx => s37 = .bool false ∧ wx = w)
  case first =>
    by_cases hne : seq = r.nx
    · subst hne
      go_wp2_with fail
      go_meet
      exact ⟨by simp, rfl⟩
    · go_wp2_with fail
      refine (less_any _ _ _).mono ?_; rintro e' w' ⟨rfl, rfl⟩
      rw [HLE.out hne]
      go_wp2_with fail
      go_meet
      exact ⟨by simp [hne], rfl⟩
  case rest =>
    obtain ⟨rfl, hw⟩ := hcut
    obtain rfl : w = wc := hw.symm
    clear hlook0
    have hlen1 := HL1.out
    go_upto_if 50 with (fail)
    go_cut [] (fun wx => PutPre p m r now w wx)
    case first =>
      clear hlen1
      by_cases he : r.l = []
      · have hz : r.l.length = 0 := by rw [he]; rfl
        have HE := Lib.hid he
        clear he
        rw [hz]
        clear hz
        go_wp2_with fail
        go_meet
        refine ⟨⟨?_, HR.out.2.chg ((Chg.refl [p] w).set (by simp) _) (by simp; exact fun e => Rcv.ne HR.out e.symm)⟩, (Chg.refl _ _).set (by simp) _⟩
        rw [HE.out]
        exact HR.out.1.set 2 _
      · have hz : 0 < r.l.length := List.length_pos_iff.2 he
        have HE := Lib.hid he
        clear he
        go_wp2_with fail
        go_meet
        refine ⟨⟨?_, HR.out.2⟩, Chg.refl _ _⟩
        have : r.l.isEmpty = false := by simpa using HE.out
        rw [this]
        exact HR.out.1
    case rest =>
      obtain ⟨hp1, hc1⟩ := hcut
      have hnb := hp1.noB
      have hd1 := HD.out.chg hc1 (fun g _ hs => hs)
      obtain ⟨v', wa, happ, hba, hca⟩ := bytes_copy (P := Try.prog) (t := 29) (ty := 29) (w := wc.drew) Try.underlying29 hi hz0 hz1 hz2 (hd1.chg ((Chg.refl [] wc).drew) (fun _ _ _ => by simp)) (by omega)
      have hpa : RcvAt wa p m _ := (hp1.chg ((Chg.refl [] wc).drew) (by simp) (by simp)).chg hca (by simp) (by simp)
      obtain ⟨wb, hupd, hmb, hcb⟩ := store_new (P := Try.prog) (w := wa) Try.underlying97 Try.underlying22 hpa.2 (lk_none HLK.out) v'
      have hbb := hba.chg hcb (by intro b hb; exact hpa.noB b (by simp at hb; simp [hb]))
      have hpb : RcvAt wb p m (r.more now seq v') := ⟨hpa.1.chg hcb (by simp; exact Rcv.ne hpa), hmb⟩
      have hwb : Chg [p, m] w wb := ((hc1.drew.trans' hca (by simp)).trans' hcb (by intro x hx; left; simp at hx; simp [hx]))
      have HB := Lib.hid hbb
      have HP := Lib.hid hpb
      have HW := Lib.hid hwb
      have HUPD := Lib.hid hupd
      have HAPP := Lib.hid happ
      have HP1 := Lib.hid hp1
      have ca : wa.cell? ⟨p, 1, none⟩ = some (.map (some m)) := hpa.1.four.2.1
      have hsz : w.heap.size ≤ wb.heap.size := hwb.size
      clear hp1 hc1 hnb hd1 happ hba hca hpa hupd hmb hcb hbb hpb hwb c0 c1 c2 c3 f0 f1 f2 f3 hi hz0 hz1 hz2 HL1 hlen1
      obtain ⟨c0, c1, c2, c3, f0, f1, f2, f3⟩ := HP1.out.1.four
      have happ := HAPP.out
      have hupd := HUPD.out
      go_upto_region 7 with (fail)
      refine wp_region_phase 7 (fun w' => w'.cell? ⟨p, 1, none⟩ = some (.map (some m))) (by kernel_rfl) ?_
      refine wpAnyP_with (by exact c1) (fun hSw => ?_)
      refine wpAnyP_take 0 [] (v := ?_) rfl (by kernel_rfl) (fun _ _ _ h => h) (by assumption) (Or.inl ⟨by rfl, ?_⟩) ?_
      rotate_left
      · (intro w hSw; (try dsimp only at hSw); go_simp; try with_reducible rfl)
      simp only [Act.put, List.setIfInBounds_toArray, List.set_cons_zero, List.set_cons_succ]
      refine wpAnyP_take 1 [] (v := ?_) rfl (by kernel_rfl) (fun _ _ _ h => h) (by assumption) (Or.inl ⟨by rfl, ?_⟩) ?_
      rotate_left
      · (intro w hSw; (try dsimp only at hSw); go_simp; try with_reducible rfl)
      simp only [Act.put, List.setIfInBounds_toArray, List.set_cons_zero, List.set_cons_succ]
      refine wpAnyP_take 2 [] (v := ?_) rfl (by kernel_rfl) (fun _ _ _ h => h) (by assumption) (Or.inl ⟨by rfl, ?_⟩) ?_
      rotate_left
      · (intro w hSw; (try dsimp only at hSw); go_simp; try with_reducible rfl)
      simp only [Act.put, List.setIfInBounds_toArray, List.set_cons_zero, List.set_cons_succ]
      refine wpAnyP_take 3 [] (v := ?_) rfl (by kernel_rfl) (fun _ _ _ h => h) (by assumption) (Or.inl ⟨by rfl, ?_⟩) ?_
      rotate_left
      · (intro w hSw; (try dsimp only at hSw); go_simp; try with_reducible rfl)
      simp only [Act.put, List.setIfInBounds_toArray, List.set_cons_zero, List.set_cons_succ]
      refine wpAnyP_take 4 [] (v := ?_) rfl (by kernel_rfl) (fun _ _ _ h => h) (by assumption) (Or.inl ⟨by rfl, ?_⟩) ?_
      rotate_left
      · (intro w hSw; (try dsimp only at hSw); go_simp; try with_reducible rfl)
      simp only [Act.put, List.setIfInBounds_toArray, List.set_cons_zero, List.set_cons_succ]
      refine wpAnyP_take 5 [] (v := ?_) rfl (by kernel_rfl) (fun _ _ _ h => h) (by assumption) (Or.inl ⟨by rfl, ?_⟩) ?_
      rotate_left
      · (intro w hSw; (try dsimp only at hSw); go_simp; try with_reducible rfl)
      simp only [Act.put, List.setIfInBounds_toArray, List.set_cons_zero, List.set_cons_succ]
      refine wpAnyP_one 6 rfl (by kernel_rfl) (fun K hK => ?_)
      rw [if_pos (by rfl)]
      (refine wp_append_eq _ _ 29 rfl rfl rfl happ ?_; go_wp2_with (fail))
      refine hold_with (by (try dsimp only at hSw); exact ca) (fun hSn => ?_)
      clear hSw; have hSw := hSn; clear hSn
      refine wpAnyP_one 7 rfl (by kernel_rfl) (fun K hK => ?_)
      rw [if_pos (by rfl)]
      go_wp2_with (fail)
      refine ⟨fun hz => (by simp at hz), ?_⟩
      refine wpAnyP_done (by kernel_rfl) ?_ _
      skip
      obtain ⟨S, hS⟩ : ∃ S, S = (if r.l.isEmpty then now else r.since) := ⟨_, rfl⟩
      have hAt : At wb p 99 [.int .u32 r.nx, .map (some m), .int .i64 S, .int .i64 r.twice] := by rw [hS]; exact HP.out.1
      have HS := Lib.hid hS
      have HAT := Lib.hid hAt
      have hmo := Rcv.more_len r now seq v'
      have hln := len_map (P := Try.prog) (w := wb) Try.underlying97 3 HP.out.2
      rw [hmo] at hln
      have HMO := Lib.hid hmo
      clear hSw hupd happ ca c0 c1 c2 c3 f0 f1 f2 f3 HUPD HAPP HP1 hS hAt hmo
      obtain ⟨c0, c1, c2, c3, f0, f1, f2, f3⟩ := HAT.out.four
      by_cases hne : seq = r.nx
      · have HNE := Lib.hid hne
        have CT := Lib.hid (run_any p m (r.more now seq v') now wb HP.out (Rcv.more_vals HV.out HB.out) OK.out.nx0 OK.out.nx1 (by rw [HMO.out]; omega))
        go_wp2_with fail
        refine CT.out.mono ?_
        rintro e w' ⟨o, rfl, ho, hrc, hch⟩
        have HO := Lib.hid ho
        have HRC := Lib.hid hrc
        have HCH := Lib.hid hch
        clear ho hrc hch CT
        go_wp2_with fail
        go_ret
        refine ⟨v', o, HB.out.chg HCH.out HP.out.noB, rfl, ?_, ?_, HW.out.trans HCH.out⟩
        · simp only [Rcv.put, HDUP.out, if_pos HNE.out, Bool.false_eq_true, if_false]
          exact owns_mono HO.out hsz
        · simp only [Rcv.put, HDUP.out, if_pos HNE.out, Bool.false_eq_true, if_false]
          exact HRC.out
      · by_cases hlt : r.l.length < 8
        · have HLT := Lib.hid hlt
          have HNE := Lib.hid hne
          clear hlt
          have hle8 : ((r.l.length + 1 : Nat) : Int) ≤ 8 := by have := HLT.out; omega
          go_wp2_with fail
          go_ret
          refine ⟨v', _, HB.out, rfl, ?_, ?_, HW.out⟩
          · simp only [Rcv.put, HDUP.out, if_neg HNE.out, if_pos HLT.out, Bool.false_eq_true, if_false]
            exact ⟨rfl, .inl ⟨rfl, rfl⟩⟩
          · simp only [Rcv.put, HDUP.out, if_neg HNE.out, if_pos HLT.out, Bool.false_eq_true, if_false]
            exact HP.out
        · have HLT := Lib.hid hlt
          have HNE := Lib.hid hne
          clear hlt
          have hle8 : ¬ ((r.l.length + 1 : Nat) : Int) ≤ 8 := by have := HLT.out; omega
          have okm : (r.more now seq v').Ok := Rcv.more_ok OK.out hs0 hs1 HDUP.out
          have OKM := Lib.hid okm
          have CT := Lib.hid (least_any p m (r.more now seq v') wb HP.out okm (by simp [Rcv.more]))
          clear okm
          go_wp2_with fail
          refine CT.out.mono ?_
          rintro e w' ⟨k, kv, hk, hmin, rfl, hch⟩
          have hkk : k = leastK r.nx (r.more now seq v').l := by
            obtain ⟨⟨q, hq, e1⟩, e2⟩ := leastK_spec r.nx (r.more now seq v').l (by simp [Rcv.more])
            have h1 := OKM.out.keys _ hk
            have h2 := OKM.out.keys _ hq
            have h3 := e2 _ hk
            have h4 := hmin _ hq
            rw [e1] at h3 ⊢
            exact off_inj r.nx k q.1 h1.1 h1.2.1 h2.1 h2.2.1 (by
              have h4' : off r.nx k ≤ off r.nx q.1 := h4
              have h3' : off r.nx q.1 ≤ off r.nx k := h3
              omega)
          have hk0 := (OKM.out.keys _ hk).1
          have hk1 := (OKM.out.keys _ hk).2.1
          have HK := Lib.hid hkk
          have HP2 := Lib.hid (HAT.out.chg hch (by simp))
          have HM2 := Lib.hid (HP.out.2.chg hch (by simp))
          have HB2 := Lib.hid (HB.out.chg hch (by simp))
          have HW2 := Lib.hid (HW.out.trans' hch (by simp))
          have hs2 : wb.heap.size ≤ w'.heap.size := hch.size
          have hpl := HAT.out.lt
          clear hch hkk hk hmin CT hln c0 c1 c2 c3 f0 f1 f2 f3
          obtain ⟨c0, c1, c2, c3, f0, f1, f2, f3⟩ := HP2.out.four
          go_upto_region 13 with (fail)
          have hc3 : Chg [p] w' (w'.setCell ⟨p, 0, none⟩ (.int .u32 k)) := (Chg.refl [p] w').set (by simp) _
          have hx : RcvAt (w'.setCell ⟨p, 0, none⟩ (.int .u32 k)) p m ⟨k, (r.more now seq v').l, (r.more now seq v').since, r.twice⟩ := by
            refine ⟨?_, HM2.out.chg hc3 (by simp; exact fun e => Rcv.ne HP.out e.symm)⟩
            have h := HP2.out.set 0 (.int .u32 k)
            rw [HS.out] at h
            exact h
          have HX := Lib.hid hx
          have HB3 := Lib.hid (HB2.out.chg hc3 (by intro b hb; simp at hb; subst hb; exact HP2.out.noB (by decide)))
          have HW3 := Lib.hid (HW2.out.trans' hc3 (by intro x hx; simp at hx; simp [hx]))
          have hs3 := hc3.size
          clear hx hc3 c0 c1 c2 c3 f0 f1 f2 f3
          generalize w'.setCell ⟨p, 0, none⟩ (.int .u32 k) = wx at *
          have CT := Lib.hid (run_any p m _ now wx HX.out (Rcv.more_vals (now := now) HV.out HB.out) hk0 hk1 (by show (r.more now seq v').l.length ≤ _; rw [HMO.out]; omega))
          go_wp2_with fail
          refine CT.out.mono ?_
          rintro e w2 ⟨o, rfl, ho, hrc, hch⟩
          have HO := Lib.hid ho
          have HRC := Lib.hid hrc
          have HCH := Lib.hid hch
          clear ho hrc hch CT
          go_wp2_with fail
          go_ret
          refine ⟨v', o, HB3.out.chg HCH.out HX.out.noB, rfl, ?_, ?_, HW3.out.trans HCH.out⟩
          · simp only [Rcv.put, HDUP.out, if_neg HNE.out, if_neg HLT.out, Bool.false_eq_true, if_false, ← HK.out]
            exact owns_mono HO.out (by omega)
          · simp only [Rcv.put, HDUP.out, if_neg HNE.out, if_neg HLT.out, Bool.false_eq_true, if_false, ← HK.out]
            exact HRC.out
end Go.Proofs.Ytkmjpphmciaklaa
namespace Go.Proofs.Ytkmjpphmciaklaa
open Go.RowKit
set_option linter.unusedVariables false
set_option linter.unusedSimpArgs false
attribute [local go_sem ↓] Go.wp_at_zero Go.wp_at_succ

/-- What Tick leaves. -/
def TickPost (p m : Nat) (r : Rcv Value) (now : Int) (w : World) (e : Ending) (w' : World) : Prop :=
  ∃ o, e = .returned o ∧ w'.ownsRow w.heap.size 31 2 o (r.tick now).2.length (cellsOf (r.tick now).2) ∧ RcvAt w' p m (r.tick now).1 ∧ Chg [p, m] w w'

set_option maxRecDepth 100000 in
set_option maxHeartbeats 2000000 in
theorem tick_any (p m : Nat) (r : Rcv Value) (now : Int) (w : World) (hr : RcvAt w p m r) (ok : r.Ok) (hv : Vals r.l) (hlen : r.l.length ≤ 1000) (hn0 : 0 ≤ now) (hn1 : now ≤ 1000000000) (hs0 : 0 ≤ r.since) (hs1 : r.since ≤ 1000000000) :
    Calls Try.prog 23 #[.pointer (some ⟨p, 0, none⟩), .int .i64 now] w (TickPost p m r now w) := by
  have HR := Lib.hid hr
  have HV := Lib.hid hv
  have OK := Lib.hid ok
  obtain ⟨c0, c1, c2, c3, f0, f1, f2, f3⟩ := hr.1.four
  have hln := len_map (P := Try.prog) (w := w) Try.underlying97 3 hr.2
  clear hr hv ok
  by_cases he : r.l = []
  · have hz : r.l.length = 0 := by rw [he]; rfl
    rw [hz] at hln
    have HE := Lib.hid he
    clear he hz
    go_enter Try.func23, Try.ntmps23
    go_wp2_with fail
    go_ret
    have ht : r.tick now = (r, []) := by unfold Rcv.tick; rw [HE.out]; rfl
    refine ⟨_, rfl, ?_, ?_, Chg.refl _ _⟩
    · rw [ht]; exact ⟨rfl, .inl ⟨rfl, rfl⟩⟩
    · rw [ht]; exact HR.out
  · have hz : 0 < r.l.length := List.length_pos_iff.2 he
    have HE := Lib.hid he
    clear he
    by_cases hd : now - r.since < 4
    · go_enter Try.func23, Try.ntmps23
      go_wp2_with fail
      go_ret
      have ht : r.tick now = (r, []) := by unfold Rcv.tick; simp [hd]
      refine ⟨_, rfl, ?_, ?_, Chg.refl _ _⟩
      · rw [ht]; exact ⟨rfl, .inl ⟨rfl, rfl⟩⟩
      · rw [ht]; exact HR.out
    · have HD := Lib.hid hd
      have CT := Lib.hid (least_any p m r w HR.out OK.out HE.out)
      have hpl := HR.out.1.lt
      go_enter Try.func23, Try.ntmps23
      go_wp2_with fail
      refine CT.out.mono ?_
      rintro e w' ⟨k, kv, hk, hmin, rfl, hch⟩
      have hkk : k = leastK r.nx r.l := by
        obtain ⟨⟨q, hq, e1⟩, e2⟩ := leastK_spec r.nx r.l HE.out
        have h1 := OK.out.keys _ hk
        have h2 := OK.out.keys _ hq
        have h3 := e2 _ hk
        have h4 := hmin _ hq
        rw [e1] at h3 ⊢
        exact off_inj r.nx k q.1 h1.1 h1.2.1 h2.1 h2.2.1 (by
          have h4' : off r.nx k ≤ off r.nx q.1 := h4
          have h3' : off r.nx q.1 ≤ off r.nx k := h3
          omega)
      have hk0 := (OK.out.keys _ hk).1
      have hk1 := (OK.out.keys _ hk).2.1
      have HK := Lib.hid hkk
      have HP2 := Lib.hid (HR.out.1.chg hch (by simp))
      have HM2 := Lib.hid (HR.out.2.chg hch (by simp))
      have HW2 := Lib.hid ((Chg.refl [p, m] w).trans' hch (by simp))
      have hs2 : w.heap.size ≤ w'.heap.size := hch.size
      clear hch hkk hk hmin CT hln c0 c1 c2 c3 f0 f1 f2 f3
      obtain ⟨c0, c1, c2, c3, f0, f1, f2, f3⟩ := HP2.out.four
      go_upto_region 4 with (fail)
      have hc3 : Chg [p] w' (w'.setCell ⟨p, 0, none⟩ (.int .u32 k)) := (Chg.refl [p] w').set (by simp) _
      have hx : RcvAt (w'.setCell ⟨p, 0, none⟩ (.int .u32 k)) p m ⟨k, r.l, r.since, r.twice⟩ :=
        ⟨HP2.out.set 0 (.int .u32 k), HM2.out.chg hc3 (by simp; exact fun e => Rcv.ne HR.out e.symm)⟩
      have HX := Lib.hid hx
      have HW3 := Lib.hid (HW2.out.trans' hc3 (by intro x hx; simp at hx; simp [hx]))
      have hs3 := hc3.size
      clear hx hc3 c0 c1 c2 c3 f0 f1 f2 f3
      generalize w'.setCell ⟨p, 0, none⟩ (.int .u32 k) = wx at *
      have CT := Lib.hid (run_any p m _ now wx HX.out HV.out hk0 hk1 (by show r.l.length ≤ _; omega))
      go_wp2_with fail
      refine CT.out.mono ?_
      rintro e w2 ⟨o, rfl, ho, hrc, hch⟩
      have HO := Lib.hid ho
      have HRC := Lib.hid hrc
      have HCH := Lib.hid hch
      clear ho hrc hch CT
      go_wp2_with fail
      go_ret
      have ht : r.tick now = r.run k now := by
        unfold Rcv.tick
        have h1 : r.l.isEmpty = false := by simpa using HE.out
        rw [h1, decide_eq_false (show ¬ (now - r.since < 4) by have := HD.out; omega), ← HK.out]
        rfl
      refine ⟨o, rfl, ?_, ?_, HW3.out.trans HCH.out⟩
      · rw [ht]; exact owns_mono HO.out (by omega)
      · rw [ht]; exact HRC.out
end Go.Proofs.Ytkmjpphmciaklaa
