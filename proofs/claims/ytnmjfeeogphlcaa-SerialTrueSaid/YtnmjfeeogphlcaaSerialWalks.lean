/- Contracts of the functions of catwalk/serial over this seat's translation: each returns what a plain Lean function gives, and leaves the world alone. -/
import Derived.Test.YtnmjfeeogphlcaaRows
import Derived.WalkKit
import Derived.WalkSpells
import Derived.Lib.Hide
import Derived.WalkLawsBesides
namespace Go.Proofs.Ytnmjfeeogphlcaa
open Go.RowKit

def lessB (a b : Int) : Bool := a != b && decide ((b - a) % 4294967296 < 2147483648)
def distZ (a b : Int) : Int := wrap32 ((b - a) % 4294967296)
def addZ (a n : Int) : Int := (a + n % 4294967296) % 4294967296

theorem lessB_alive : lessB 4294967295 0 = true ∧ lessB 0 4294967295 = false := by decide

set_option maxHeartbeats 400000 in
theorem less_any (a b : Int) (w : World) :
    Calls Try.prog 13 #[.int .u32 a, .int .u32 b] w fun e w' => e = .returned (.bool (lessB a b)) ∧ w = w' := by
  go_enter Try.func13, Try.ntmps13
  go_wp2
  · have h' : a = b := by assumption
    have h : lessB a b = false := by simp [lessB, h']
    go_ret
    exact ⟨by rw [h]; rfl, rfl⟩
  · go_ret
    exact ⟨rfl, rfl⟩

theorem less_t (a b : Int) (w : World) (h : lessB a b = true) :
    Calls Try.prog 13 #[.int .u32 a, .int .u32 b] w fun e w' => e = .returned (.bool true) ∧ w = w' :=
  (less_any a b w).mono fun _ _ ⟨he, hw⟩ => ⟨by rw [he, h], hw⟩
theorem less_f (a b : Int) (w : World) (h : lessB a b = false) :
    Calls Try.prog 13 #[.int .u32 a, .int .u32 b] w fun e w' => e = .returned (.bool false) ∧ w = w' :=
  (less_any a b w).mono fun _ _ ⟨he, hw⟩ => ⟨by rw [he, h], hw⟩

set_option maxHeartbeats 400000 in
theorem dist_any (a b : Int) (w : World) :
    Calls Try.prog 14 #[.int .u32 a, .int .u32 b] w fun e w' => e = .returned (.int .i64 (wrap64 (distZ a b))) ∧ w = w' := by
  go_enter Try.func14, Try.ntmps14
  go_wp2
  go_ret
  exact ⟨rfl, rfl⟩

set_option maxHeartbeats 400000 in
theorem add_any (a b : Int) (w : World) :
    Calls Try.prog 12 #[.int .u32 a, .int .i64 b] w fun e w' => e = .returned (.int .u32 (addZ a b)) ∧ w = w' := by
  go_enter Try.func12, Try.ntmps12
  go_wp2
  go_ret
  exact ⟨rfl, rfl⟩

set_option maxHeartbeats 400000 in
theorem alive_any (w : World) :
    Calls Try.prog 15 #[] w fun e w' => e = .returned (.bool true) ∧ w = w' := by
  go_enter Try.func15, Try.ntmps15
  go_wp2_with fail
  refine (less_t _ _ _ lessB_alive.1).mono ?_; rintro e w' ⟨rfl, rfl⟩
  go_wp2_with fail
  refine (less_f _ _ _ lessB_alive.2).mono ?_; rintro e w' ⟨rfl, rfl⟩
  go_wp2_with fail
  go_ret
  exact ⟨rfl, rfl⟩
end Go.Proofs.Ytnmjfeeogphlcaa
