/- Contracts of the methods of serial.Wide and of catwalkref02.Wide over this seat's translation. -/
import Derived.Test.YtnmjfeeogphlcaaSerialRefs
import Derived.Test.YtnmjfeeogphlcaaHeap
import Derived.Deep.QuietTactic
import Derived.BigQuiet
namespace Go.Proofs.Ytnmjfeeogphlcaa
open Go.RowKit
set_option linter.unusedVariables false

/-- The number ahead of the look whether it is below 0. -/
def wraw (top n : Int) : Int := top + wrap32 ((n - top % 4294967296) % 4294967296)
def wof (top n : Int) : Int := if wraw top n < 0 then wraw top n + 4294967296 else wraw top n
theorem wraw_bd (top n : Int) : top - 2147483648 ≤ wraw top n ∧ wraw top n ≤ top + 2147483647 := by unfold wraw wrap32; omega

set_option maxHeartbeats 400000 in
theorem wide_first (b : Nat) (top n : Int) (w : World) (hn : 0 ≤ n) (hn' : n ≤ 4294967295) (hA : At w b 34 [.int .i64 top, .bool false]) :
    Calls Try.prog 21 #[.pointer (some ⟨b, 0, none⟩), .int .u32 n] w fun e w' => e = .returned (.int .i64 n) ∧ At w' b 34 [.int .i64 n, .bool true] ∧ Chg [b] w w' := by
  have c0 := hA.cell 0
  have c1 := hA.cell 1
  have f0 := hA.frozen 0
  have f1 := hA.frozen 1
  simp at c0 c1
  have HA := Lib.hid hA; clear hA
  go_enter Try.func21, Try.ntmps21
  go_wp2
  go_ret
  exact ⟨rfl, (HA.out.set 1 _).set 0 _, ((Chg.refl _ _).set (by simp) _).set (by simp) _⟩

set_option maxHeartbeats 400000 in
theorem wide_next (b : Nat) (top n : Int) (w : World) (ht : 0 ≤ top) (ht' : top ≤ 1099511627776) (hn : 0 ≤ n) (hn' : n ≤ 4294967295) (hA : At w b 34 [.int .i64 top, .bool true]) :
    Calls Try.prog 21 #[.pointer (some ⟨b, 0, none⟩), .int .u32 n] w fun e w' => e = .returned (.int .i64 (wof top n)) ∧ At w' b 34 [.int .i64 (max top (wof top n)), .bool true] ∧ Chg [b] w w' := by
  have c0 := hA.cell 0
  have c1 := hA.cell 1
  have f0 := hA.frozen 0
  have f1 := hA.frozen 1
  simp at c0 c1
  have HA := Lib.hid hA; clear hA
  have hr := wraw_bd top n
  have K : wrap64 (top + wrap64 (wrap32 ((n - top) % 4294967296))) = wraw top n := by unfold wraw wrap64 wrap32; omega
  by_cases hneg : wraw top n < 0
  · have e : wof top n = wraw top n + 4294967296 := if_pos hneg
    have E := Lib.hid e; clear e
    go_enter Try.func21, Try.ntmps21
    go_wp2_with fail
    go_quiet (fail)
    go_wp2
    all_goals
      go_ret
      exact ⟨by rw [E.out]; rfl, (HA.out.drewN.set 0 _).to (by rw [E.out]; simp; omega), ((Chg.refl _ _).drewN _).set (by simp) _⟩
  · have e : wof top n = wraw top n := if_neg hneg
    have E := Lib.hid e; clear e
    go_enter Try.func21, Try.ntmps21
    go_wp2_with fail
    go_quiet (fail)
    go_wp2
    all_goals
      go_ret
      exact ⟨by rw [E.out]; rfl, (HA.out.drewN.set 0 _).to (by rw [E.out]; simp; omega), ((Chg.refl _ _).drewN _).set (by simp) _⟩

set_option maxHeartbeats 400000 in
theorem wide_top (b : Nat) (top : Int) (s : Bool) (w : World) (hA : At w b 34 [.int .i64 top, .bool s]) :
    Calls Try.prog 23 #[.pointer (some ⟨b, 0, none⟩)] w fun e w' => e = .returned (.int .i64 top) ∧ w = w' := by
  have c0 := hA.cell 0
  simp at c0
  have HA := Lib.hid hA; clear hA
  go_enter Try.func23, Try.ntmps23
  go_wp2
  go_ret
  exact ⟨rfl, rfl⟩

theorem dist_quiet (a b : Int) (w : World) (ha : 0 ≤ a) (ha' : a ≤ 4294967295) (hb : 0 ≤ b) (hb' : b ≤ 4294967295) :
    Calls Try.prog 17 #[.int .u32 a, .int .u32 b] w fun e w' => e = .returned (.int .i64 (distZ a b)) ∧ w' = w :=
  (rdist_any a b w ha ha' hb hb').mono fun _ _ ⟨he, hw⟩ => ⟨he, hw.symm⟩

set_option maxHeartbeats 400000 in
theorem rwide_first (b : Nat) (top n : Int) (w : World) (hn : 0 ≤ n) (hn' : n ≤ 4294967295) (hA : At w b 37 [.int .i64 top, .bool false]) :
    Calls Try.prog 22 #[.pointer (some ⟨b, 0, none⟩), .int .u32 n] w fun e w' => e = .returned (.int .i64 n) ∧ At w' b 37 [.int .i64 n, .bool true] ∧ Chg [b] w w' := by
  have c0 := hA.cell 0
  have c1 := hA.cell 1
  have f0 := hA.frozen 0
  have f1 := hA.frozen 1
  simp at c0 c1
  have HA := Lib.hid hA; clear hA
  go_enter Try.func22, Try.ntmps22
  go_wp2
  go_ret
  exact ⟨rfl, (HA.out.set 0 _).set 1 _, ((Chg.refl _ _).set (by simp) _).set (by simp) _⟩

set_option maxHeartbeats 400000 in
theorem rwide_next (b : Nat) (top n : Int) (w : World) (ht : 0 ≤ top) (ht' : top ≤ 1099511627776) (hn : 0 ≤ n) (hn' : n ≤ 4294967295) (hA : At w b 37 [.int .i64 top, .bool true]) :
    Calls Try.prog 22 #[.pointer (some ⟨b, 0, none⟩), .int .u32 n] w fun e w' => e = .returned (.int .i64 (wof top n)) ∧ At w' b 37 [.int .i64 (max top (wof top n)), .bool true] ∧ Chg [b] w w' := by
  have c0 := hA.cell 0
  have c1 := hA.cell 1
  have f0 := hA.frozen 0
  have f1 := hA.frozen 1
  simp at c0 c1
  have HA := Lib.hid hA; clear hA
  have hr := wraw_bd top n
  have K : top + distZ (top % 4294967296) n = wraw top n := rfl
  have hd : -2147483648 ≤ distZ (top % 4294967296) n ∧ distZ (top % 4294967296) n ≤ 2147483647 := by unfold distZ wrap32; omega
  by_cases hneg : wraw top n < 0
  · have e : wof top n = wraw top n + 4294967296 := if_pos hneg
    have E := Lib.hid e; clear e
    go_enter Try.func22, Try.ntmps22
    go_wp2_with fail
    go_quiet ((go_at_call 17; exact Calls.quiet_of_same (dist_quiet _ _ _ (by omega) (by omega) (by omega) (by omega))))
    go_wp2
    all_goals
      go_ret
      first
        | exact ⟨by rw [E.out]; rfl, ((HA.out.drewN.set 0 _).set 1 _).to (by rw [E.out]; simp; omega), (((Chg.refl _ _).drewN _).set (by simp) _).set (by simp) _⟩
        | exact ⟨by rw [E.out]; rfl, (HA.out.drewN.set 1 _).to (by rw [E.out]; simp; omega), ((Chg.refl _ _).drewN _).set (by simp) _⟩
  · have e : wof top n = wraw top n := if_neg hneg
    have E := Lib.hid e; clear e
    go_enter Try.func22, Try.ntmps22
    go_wp2_with fail
    go_quiet ((go_at_call 17; exact Calls.quiet_of_same (dist_quiet _ _ _ (by omega) (by omega) (by omega) (by omega))))
    go_wp2
    all_goals
      go_ret
      first
        | exact ⟨by rw [E.out]; rfl, ((HA.out.drewN.set 0 _).set 1 _).to (by rw [E.out]; simp; omega), (((Chg.refl _ _).drewN _).set (by simp) _).set (by simp) _⟩
        | exact ⟨by rw [E.out]; rfl, (HA.out.drewN.set 1 _).to (by rw [E.out]; simp; omega), ((Chg.refl _ _).drewN _).set (by simp) _⟩

/-- Both methods in one form: s: has a number been seen? -/
def wofS (s : Bool) (top n : Int) : Int := if s then wof top n else n
def wtopS (s : Bool) (top n : Int) : Int := if s then max top (wof top n) else n
theorem wof_bd (top n : Int) (h : 0 ≤ top) : 0 ≤ wof top n ∧ (wof top n ≤ top + 2147483647 ∨ wof top n ≤ 4294967296) := by
  have := wraw_bd top n; unfold wof; split <;> omega
theorem wtopS_bd (s : Bool) (top n : Int) (h : 0 ≤ top) (hn : 0 ≤ n) (hn' : n ≤ 4294967295) (B : Int) (hB : top ≤ B) (h32 : 4294967296 ≤ B) : 0 ≤ wtopS s top n ∧ wtopS s top n ≤ B + 2147483648 := by
  have := wof_bd top n h; unfold wtopS; split <;> omega

theorem wide_any (b : Nat) (top n : Int) (s : Bool) (w : World) (ht : 0 ≤ top) (ht' : top ≤ 1099511627776) (hn : 0 ≤ n) (hn' : n ≤ 4294967295) (hA : At w b 34 [.int .i64 top, .bool s]) :
    Calls Try.prog 21 #[.pointer (some ⟨b, 0, none⟩), .int .u32 n] w fun e w' => e = .returned (.int .i64 (wofS s top n)) ∧ At w' b 34 [.int .i64 (wtopS s top n), .bool true] ∧ Chg [b] w w' := by
  cases s
  · exact wide_first b top n w hn hn' hA
  · exact wide_next b top n w ht ht' hn hn' hA
theorem rwide_any (b : Nat) (top n : Int) (s : Bool) (w : World) (ht : 0 ≤ top) (ht' : top ≤ 1099511627776) (hn : 0 ≤ n) (hn' : n ≤ 4294967295) (hA : At w b 37 [.int .i64 top, .bool s]) :
    Calls Try.prog 22 #[.pointer (some ⟨b, 0, none⟩), .int .u32 n] w fun e w' => e = .returned (.int .i64 (wofS s top n)) ∧ At w' b 37 [.int .i64 (wtopS s top n), .bool true] ∧ Chg [b] w w' := by
  cases s
  · exact rwide_first b top n w hn hn' hA
  · exact rwide_next b top n w ht ht' hn hn' hA
end Go.Proofs.Ytnmjfeeogphlcaa
