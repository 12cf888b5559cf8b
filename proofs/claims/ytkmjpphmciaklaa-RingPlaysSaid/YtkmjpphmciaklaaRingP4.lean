/- RingPlays: a call of both, whole; two rows of ints are the same; the chapter's example. -/
import Derived.Test.YtkmjpphmciaklaaRingP3
import Derived.Test.YtkmjpphmciaklaaRecv7
namespace Go.Proofs.Ytkmjpphmciaklaa
open Go.RowKit
set_option linter.unusedVariables false
set_option linter.unusedSimpArgs false
attribute [local go_sem ↓] Go.wp_at_zero Go.wp_at_succ

theorem IntS.below {S : Nat → Prop} {w w' : World} {v : Value} {d : List Int} (h : IntS S w v d) (c : Below w.heap.size w w') : IntS S w' v d := h.chg (Chg.of_below c) (by simp)
theorem ints_of_row {w : World} {base : Nat} {v : Value} {xs : List Int} (h : w.ownsRow base 3 1 v xs.length (ints xs)) : IntS (fun b => base ≤ b) w v xs := by
  rcases h.2 with ⟨rfl, h0⟩ | ⟨g, cap, cur, rfl, hg, hh, hn, hm, hs, ht⟩
  · obtain rfl := List.eq_nil_of_length_eq_zero h0
    exact IntS.nil _ _
  · refine ⟨_, cap, rfl, hn, fun e => by (cases e), fun _ => ⟨g, 0, rfl, hg, (Array.getElem?_eq_some_iff.1 hh).1, fun j u hj => ?_⟩, fun y hy => by (cases hy; rfl)⟩
    have hjl : j < xs.length := (List.getElem?_eq_some_iff.1 hj).1
    have e1 : (ints xs)[j]? = some (.int .i64 u) := by simp [ints, hj]
    rw [← ht, List.getElem?_take_of_lt (by omega)] at e1
    simp only [World.cell?, hh, Nat.zero_add]
    simpa using e1

set_option maxRecDepth 100000 in
set_option maxHeartbeats 2000000 in
/-- Two rows that read alike are the same. -/
theorem same20 {S1 S2 : Nat → Prop} (v1 v2 : Value) (d : List Int) (w : World) (h1 : IntS S1 w v1 d) (h2 : IntS S2 w v2 d) (hl : d.length ≤ 1000000) :
    Calls Try.prog 20 #[v1, v2] w fun e w' => e = .returned (.bool true) ∧ Drawn w w' := by
  obtain ⟨a1, c1, rfl, hc1⟩ := h1.form
  obtain ⟨a2, c2, rfl, hc2⟩ := h2.form
  have R1 := Lib.hid h1
  have R2 := Lib.hid h2
  clear h1 h2
  go_enter Try.func20, Try.ntmps20
  go_wp2_with fail
  go_loopg [5, 13] d.length (fun g s5 s13 wr => ∃ k : Nat, k ≤ d.length ∧ g = d.length - k ∧ s13 = .int .i64 k ∧ Drawn w wr)
  case atStart => exact ⟨0, by omega, by omega, rfl, Drawn.refl _⟩
  case round =>
    obtain ⟨k, hk, rfl, rfl, hc⟩ := hrel
    have HC := Lib.hid hc
    clear hc
    by_cases hkl : k < d.length
    · obtain ⟨x, hx⟩ : ∃ x, d[k]? = some x := ⟨_, List.getElem?_eq_getElem hkl⟩
      obtain ⟨_, g1, o1, rfl, _, hb1, e1⟩ := R1.out.at hx
      obtain ⟨_, g2, o2, rfl, _, hb2, e2⟩ := R2.out.at hx
      have y1 : wr.cell? ⟨g1, o1 + k, none⟩ = some (.int .i64 x) := by rw [HC.out.cell]; exact e1
      have y2 : wr.cell? ⟨g2, o2 + k, none⟩ = some (.int .i64 x) := by rw [HC.out.cell]; exact e2
      clear e1 e2 hx
      go_wp2_with fail
      go_quiet (fail)
      go_wp2_with fail
      go_roundg (d.length - (k + 1))
      case measure => omega
      case rel => exact ⟨k + 1, by omega, rfl, rfl, HC.out.drewN _⟩
    · obtain rfl : k = d.length := by omega
      go_wp2_with fail
      go_ret
      exact ⟨rfl, HC.out⟩

theorem step_any (w : World) (p g N fr : Nat) (l : List Int) (v : Value) (kind n : Int) (h : RI.Ring w p g N fr (ints l)) (hv : IntS (fun b => b ≠ p ∧ b ≠ g) w v l) (hk0 : 0 ≤ kind) :
    Calls Try.prog 17 #[.pointer (some ⟨p, 0, none⟩), v, .agg #[.int .i64 kind, .int .i64 n], .int .i64 (N : Int)] w (StepPost p g N (stepF N kind n l) w) := by
  obtain ⟨A, c, rfl, _⟩ := hv.form
  unfold stepF
  split
  next hk => exact step_pop w p g N fr l A c kind n N h hv hk0 hk
  next h1 =>
  split
  next hk => exact step_get w p g N fr l A c kind n N h hv hk0 hk
  next h2 =>
  split
  next hk => exact step_clear w p g N fr l A c kind n N h hv hk0 hk
  next h3 => exact step_push w p g N fr l A c kind n h hv hk0 (by omega)

set_option maxRecDepth 100000 in
set_option maxHeartbeats 2000000 in
/-- The chapter's example. -/
theorem alive07_any (w : World) : Calls Try.prog 22 #[] w fun e w' => e = .returned (.bool true) ∧ Chg [] w w' := by
  have CT := Lib.hid (RI.new_any 2 w)
  go_enter Try.func22, Try.ntmps22
  go_wp2_with fail
  refine CT.out.mono ?_
  rintro e w1 ⟨p, g, rfl, hp, hg, hr, hc⟩
  have CT1 := Lib.hid (RI.push_ok w1 p g 2 0 [] 1 hr (by simp))
  have HC := Lib.hid hc
  clear hr hc CT
  go_wp2_with fail
  refine CT1.out.mono ?_
  rintro e w2 ⟨rfl, hr2, hc2⟩
  have CT2 := Lib.hid (RI.push_ok w2 p g 2 0 _ 2 hr2 (by simp))
  have HC2 := Lib.hid (HC.out.trans' hc2 (by simp; omega))
  clear hr2 hc2 CT1
  go_wp2_with fail
  refine CT2.out.mono ?_
  rintro e w3 ⟨rfl, hr3, hc3⟩
  have CT3 := Lib.hid (RI.push_full w3 p g 2 0 _ (.int .i64 3) hr3 (by simp))
  have HC3 := Lib.hid (HC2.out.trans' hc3 (by simp; omega))
  have HR3 := Lib.hid hr3
  clear hr3 hc3 CT2
  go_wp2_with fail
  refine CT3.out.mono ?_
  rintro e w4 ⟨rfl, n, rfl⟩
  have CT4 := Lib.hid (RI.pop_some (w3.drewN n) p g 2 0 (.int .i64 1) [.int .i64 2] (HR3.out.keep ((Chg.refl [] w3).drewN n)))
  go_wp2_with fail
  refine CT4.out.mono ?_
  rintro e w5 ⟨rfl, hr5, hc5⟩
  have CT5 := Lib.hid (RI.len_any w5 p g 2 _ _ hr5)
  have CT6 := Lib.hid (RI.room_any w5 p g 2 _ _ hr5)
  have HC5 := Lib.hid ((HC3.out.drewN n).trans' hc5 (by simp; omega))
  clear hr5 hc5 CT4 CT3
  go_wp2_with fail
  refine CT5.out.mono ?_
  rintro e w6 ⟨rfl, rfl⟩
  go_wp2_with fail
  refine CT6.out.mono ?_
  rintro e w7 ⟨rfl, m, rfl⟩
  go_wp2_with fail
  go_ret
  exact ⟨rfl, HC5.out.drewN m⟩
end Go.Proofs.Ytkmjpphmciaklaa
