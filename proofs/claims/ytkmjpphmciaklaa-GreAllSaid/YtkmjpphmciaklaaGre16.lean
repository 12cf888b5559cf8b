/- Two ends: all that is under way arrives. -/
import Derived.Test.YtkmjpphmciaklaaGre15
namespace Go.Proofs.Ytkmjpphmciaklaa
open Go.RowKit
set_option linter.unusedVariables false
set_option linter.unusedSimpArgs false
attribute [local go_sem ↓] Go.wp_at_zero Go.wp_at_succ

theorem PairIs.keep {w w' : World} {B pp : Nat} {P : Pair} (h : PairIs w B pp P) (c : Chg [] w w') : PairIs w' B pp P := by
  obtain ⟨q, F, wv, hP⟩ := h
  exact ⟨q, F, wv, hP.keep c⟩
theorem PairIs.ways {w : World} {B pp : Nat} {P : Pair} (h : PairIs w B pp P) : ∃ a0 c0 a1 c1, w.cell? ⟨pp, 2, none⟩ = some (.slice a0 (P.way 0).length c0) ∧ w.cell? ⟨pp, 3, none⟩ = some (.slice a1 (P.way 1).length c1) := by
  obtain ⟨q, F, wv, hP⟩ := h
  obtain ⟨a0, c0, h0⟩ := (hP.way 0 (by decide)).slice
  obtain ⟨a1, c1, h1⟩ := (hP.way 1 (by decide)).slice
  have k2 := hP.str.cell 2
  have k3 := hP.str.cell 3
  exact ⟨a0, c0, a1, c1, by rw [k2, ← h0]; rfl, by rw [k3, ← h1]; rfl⟩
set_option maxRecDepth 100000 in
set_option maxHeartbeats 2000000 in
theorem quiet_none (w : World) (B pp : Nat) (P : Pair) (h : PairIs w B pp P) (h0 : P.way 0 = []) (h1 : P.way 1 = []) : Calls Try.prog 42 #[.pointer (some ⟨pp, 0, none⟩)] w (PairPost B pp P w) := by
  obtain ⟨a0, c0, a1, c1, k0, k1⟩ := h.ways
  rw [h0] at k0
  rw [h1] at k1
  simp only [List.length_nil] at k0 k1
  have hB := h.lt
  have H := Lib.hid h
  clear h h0 h1
  go_enter Try.func42, Try.ntmps42
  go_wp2_with fail
  go_loopg [3] 0 (fun n s3 wr => n = 0 ∧ s3 = .int .i64 0 ∧ wr = w)
  case atStart => exact ⟨rfl, rfl, rfl⟩
  case round =>
    obtain ⟨rfl, rfl, rfl⟩ := hrel
    go_upto_region 2 with (fail)
    go_quiet (fail)
    clear k0 k1
    go_wp2_with fail
    go_ret
    exact ⟨rfl, H.out.keep ((Chg.refl [] _).drewN _), ((Chg.refl [] _).drewN _).below hB (by simp)⟩
set_option maxRecDepth 100000 in
set_option maxHeartbeats 2000000 in
theorem quiet_one_0 (w : World) (B pp lo m : Nat) (P P2 : Pair) (h : PairIs w B pp P) (h0 : (P.way 0).length = 1) (h1 : P.way 1 = []) (ok : P.Ok) (hds : (P.taken 0 1 0).2.map (·.2) = says 0 lo m ∧ P.got 1 ≤ lo ∧ lo + m ≤ P.sent 0)
    (h2 : P2 = { P.arrived 0 1 0 false with got := upd P.got 1 (gotTo (P.got 1) lo m) }) (e0 : P2.way 0 = []) (e1 : P2.way 1 = []) : Calls Try.prog 42 #[.pointer (some ⟨pp, 0, none⟩)] w (PairPost B pp P2 w) := by
  have hB := h.lt
  have CA : ∀ w', PairIs w' B pp P → Calls Try.prog 71 #[.pointer (some ⟨pp, 0, none⟩), .int .i64 0, .int .i64 0, .bool false] w' (PairPost B pp P2 w') := fun w' hP => by
    have hB' := hP.lt
    obtain ⟨q, F, wv, hP⟩ := hP
    have hne : P.way 0 ≠ [] := by intro e; rw [e] at h0; simp at h0
    have hz : 0 % (P.way 0).length = 0 := Nat.zero_mod _
    have h := arrive_0 w' B pp 0 lo m q F wv P false hP ok hB' (by decide) (fun _ => by rw [hz]; exact hds)
    rw [if_neg hne, hz, ← h2] at h
    exact h
  have HCA := Lib.hid CA
  have H := Lib.hid h
  have HE := Lib.hid (And.intro h0 (And.intro h1 (And.intro e0 e1)))
  clear h h0 h1 ok hds h2 e0 e1 CA
  go_enter Try.func42, Try.ntmps42
  go_wp2_with fail
  go_loopg [3, 4] 1 (fun n s3 s4 wr => (n = 1 ∧ s3 = .int .i64 0 ∧ PairIs wr B pp P ∧ Below B w wr) ∨ (n = 0 ∧ s3 = .int .i64 1 ∧ PairIs wr B pp P2 ∧ Below B w wr))
  case atStart => exact .inl ⟨rfl, rfl, H.out, Below.refl _ _⟩
  case round =>
    obtain ⟨w9, hw9⟩ : ∃ w9, w9 = wr := ⟨_, rfl⟩
    subst hw9
    rcases hrel with ⟨rfl, rfl, hP, hbl⟩ | ⟨rfl, rfl, hP, hbl⟩
    · obtain ⟨a0, c0, a1, c1, k0, k1⟩ := hP.ways
      rw [HE.out.1] at k0
      rw [HE.out.2.1] at k1
      simp only [List.length_nil] at k0 k1
      have HP := Lib.hid hP
      have HBL := Lib.hid hbl
      clear hP hbl
      go_upto_region 2 with (fail)
      go_quiet (fail)
      have HPD := Lib.hid (HP.out.keep ((Chg.refl [] w9).drewN nq))
      go_wp2_with fail
      refine (HCA.out _ HPD.out).mono ?_
      rintro e w3 ⟨rfl, hP3, hb3⟩
      have HF := Lib.hid (And.intro hP3 ((HBL.out.trans (((Chg.refl [] w9).drewN nq).below HP.out.lt (by simp))).trans hb3))
      clear hP3 hb3 k0 k1
      go_wp2_with fail
      go_roundg 0
      case measure => decide
      case rel => exact .inr ⟨rfl, rfl, HF.out⟩
    · obtain ⟨a0, c0, a1, c1, k0, k1⟩ := hP.ways
      rw [HE.out.2.2.1] at k0
      rw [HE.out.2.2.2] at k1
      simp only [List.length_nil] at k0 k1
      have HP := Lib.hid hP
      have HBL := Lib.hid hbl
      clear hP hbl
      go_upto_region 2 with (fail)
      go_quiet (fail)
      clear k0 k1
      go_wp2_with fail
      go_ret
      exact ⟨rfl, HP.out.keep ((Chg.refl [] _).drewN _), HBL.out.trans (((Chg.refl [] _).drewN _).below HP.out.lt (by simp))⟩
set_option maxRecDepth 100000 in
set_option maxHeartbeats 2000000 in
theorem quiet_one_1 (w : World) (B pp lo m : Nat) (P P2 : Pair) (h : PairIs w B pp P) (h0 : (P.way 1).length = 1) (h1 : P.way 0 = []) (ok : P.Ok) (hds : (P.taken 1 0 0).2.map (·.2) = says 1 lo m ∧ P.got 0 ≤ lo ∧ lo + m ≤ P.sent 1)
    (h2 : P2 = { P.arrived 1 0 0 false with got := upd P.got 0 (gotTo (P.got 0) lo m) }) (e0 : P2.way 0 = []) (e1 : P2.way 1 = []) : Calls Try.prog 42 #[.pointer (some ⟨pp, 0, none⟩)] w (PairPost B pp P2 w) := by
  have hB := h.lt
  have CA : ∀ w', PairIs w' B pp P → Calls Try.prog 71 #[.pointer (some ⟨pp, 0, none⟩), .int .i64 1, .int .i64 0, .bool false] w' (PairPost B pp P2 w') := fun w' hP => by
    have hB' := hP.lt
    obtain ⟨q, F, wv, hP⟩ := hP
    have hne : P.way 1 ≠ [] := by intro e; rw [e] at h0; simp at h0
    have hz : 0 % (P.way 1).length = 0 := Nat.zero_mod _
    have h := arrive_1 w' B pp 0 lo m q F wv P false hP ok hB' (by decide) (fun _ => by rw [hz]; exact hds)
    rw [if_neg hne, hz, ← h2] at h
    exact h
  have HCA := Lib.hid CA
  have H := Lib.hid h
  have HE := Lib.hid (And.intro h0 (And.intro h1 (And.intro e0 e1)))
  clear h h0 h1 ok hds h2 e0 e1 CA
  go_enter Try.func42, Try.ntmps42
  go_wp2_with fail
  go_loopg [3, 4] 1 (fun n s3 s4 wr => (n = 1 ∧ s3 = .int .i64 0 ∧ PairIs wr B pp P ∧ Below B w wr) ∨ (n = 0 ∧ s3 = .int .i64 1 ∧ PairIs wr B pp P2 ∧ Below B w wr))
  case atStart => exact .inl ⟨rfl, rfl, H.out, Below.refl _ _⟩
  case round =>
    obtain ⟨w9, hw9⟩ : ∃ w9, w9 = wr := ⟨_, rfl⟩
    subst hw9
    rcases hrel with ⟨rfl, rfl, hP, hbl⟩ | ⟨rfl, rfl, hP, hbl⟩
    · obtain ⟨a0, c0, a1, c1, k0, k1⟩ := hP.ways
      rw [HE.out.2.1] at k0
      rw [HE.out.1] at k1
      simp only [List.length_nil] at k0 k1
      have HP := Lib.hid hP
      have HBL := Lib.hid hbl
      clear hP hbl
      go_upto_region 2 with (fail)
      go_quiet (fail)
      have HPD := Lib.hid (HP.out.keep ((Chg.refl [] w9).drewN nq))
      go_wp2_with fail
      refine (HCA.out _ HPD.out).mono ?_
      rintro e w3 ⟨rfl, hP3, hb3⟩
      have HF := Lib.hid (And.intro hP3 ((HBL.out.trans (((Chg.refl [] w9).drewN nq).below HP.out.lt (by simp))).trans hb3))
      clear hP3 hb3 k0 k1
      go_wp2_with fail
      go_roundg 0
      case measure => decide
      case rel => exact .inr ⟨rfl, rfl, HF.out⟩
    · obtain ⟨a0, c0, a1, c1, k0, k1⟩ := hP.ways
      rw [HE.out.2.2.1] at k0
      rw [HE.out.2.2.2] at k1
      simp only [List.length_nil] at k0 k1
      have HP := Lib.hid hP
      have HBL := Lib.hid hbl
      clear hP hbl
      go_upto_region 2 with (fail)
      go_quiet (fail)
      clear k0 k1
      go_wp2_with fail
      go_ret
      exact ⟨rfl, HP.out.keep ((Chg.refl [] _).drewN _), HBL.out.trans (((Chg.refl [] _).drewN _).below HP.out.lt (by simp))⟩
theorem quiet_any (w : World) (B pp : Nat) (P P2 : Pair) (h : PairIs w B pp P) (hq : QuietTo P P2) : Calls Try.prog 42 #[.pointer (some ⟨pp, 0, none⟩)] w (PairPost B pp P2 w) := by
  rcases hq with ⟨h0, h1, rfl⟩ | ⟨f, t, lo, m, hft, h0, h1, ok, hds, h2, e0, e1⟩
  · exact quiet_none w B pp P2 h h0 h1
  · rcases hft with ⟨rfl, rfl⟩ | ⟨rfl, rfl⟩
    · exact quiet_one_0 w B pp lo m P P2 h h0 h1 ok hds h2 e0 e1
    · exact quiet_one_1 w B pp lo m P P2 h h0 h1 ok hds h2 e0 e1
/-- A turn that sends, a turn that ticks, where nothing is lost. -/
theorem turn_sends (w : World) (B pp : Nat) (n : Int) (fb : Bool) (P : Pair) (h : PairIs w B pp P) (ok : P.Ok) (hs : ∀ i, i < 2 → P.sent i < 10000) :
    Calls Try.prog 40 #[.pointer (some ⟨pp, 0, none⟩), .agg #[.int .i64 0, .int .i64 n, .bool fb]] w (PairPost B pp (P.sends (if fb then 1 else 0)) w) := by
  have hB := h.lt
  obtain ⟨q, F, wv, hP⟩ := h
  cases fb with
  | false => exact turn_send_0 w B pp 0 n q F wv P hP ok hB (.inl rfl) (by decide) (hs 0 (by decide))
  | true => exact turn_send_1 w B pp 0 n q F wv P hP ok hB (.inl rfl) (by decide) (hs 1 (by decide))
theorem turn_ticks (w : World) (B pp k : Nat) (n : Int) (fb : Bool) (P : Pair) (h : PairIs w B pp P) (hi : AInv k P) (hk : k ≤ 8000) :
    Calls Try.prog 40 #[.pointer (some ⟨pp, 0, none⟩), .agg #[.int .i64 5, .int .i64 n, .bool fb]] w (PairPost B pp P.ticked2 w) := by
  have hB := h.lt
  have ok := hi.ok (by omega)
  obtain ⟨q, F, wv, hP⟩ := h
  exact turn_tick w B pp (P.got 0) 0 (P.got 1) 0 5 n fb q F wv P hP ok hB (by decide) (by decide) hi.tick_in.1 hi.tick_in.2
end Go.Proofs.Ytkmjpphmciaklaa
