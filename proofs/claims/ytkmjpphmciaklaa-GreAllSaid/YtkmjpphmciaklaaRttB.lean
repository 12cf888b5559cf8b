/- Contracts of catwalk/rtt and of catwalkref19 over this seat's translation. -/
import Derived.Test.YtkmjpphmciaklaaRows
import Derived.Test.YtkmjpphmciaklaaHeap
import Derived.Deep.RegionHeld3
import Derived.Deep.DrawnRows
import Derived.IntWalk
namespace Go.Proofs.Ytkmjpphmciaklaa
open Go.RowKit
set_option linter.unusedVariables false
set_option linter.unusedSimpArgs false
attribute [local go_sem ↓] Go.wp_at_zero Go.wp_at_succ

def cutZ (n lo hi : Int) : Int := min (max n lo) hi
def rx (m t : Int) : Int := cutZ t 0 64 - m / 8
def rm (m t : Int) : Int := max (m + rx m t) 8
def rd (m d t : Int) : Int := d + ((max (rx m t) (-(rx m t))) - d / 4)
def lm (m : Int) : Int := min (2 * m) 512
def rwait (m d : Int) : Int := cutZ (m / 8 + d) 1 64

set_option maxHeartbeats 400000 in
theorem rtt_new (t : Int) (w : World) :
    Calls Try.prog 60 #[.int .i64 t] w fun e w' => e = .returned (.agg #[.int .i64 (8 * cutZ t 1 64), .int .i64 0]) ∧ Chg [] w w' := by
  go_enter Try.func60, Try.ntmps60
  go_wp2
  all_goals
    refine bodyPost_ret (v := .agg #[.int .i64 (8 * cutZ t 1 64), .int .i64 0]) ?_ rfl ⟨rfl, (Chg.refl _ _).alloc _⟩
    simp [results, Try.results60, go_sem]
    unfold cutZ
    omega

set_option maxHeartbeats 400000 in
theorem rtt_sample (m d t : Int) (w : World) (hm : 8 ≤ m) (hm' : m ≤ 512) (hd : 0 ≤ d) (hd' : d ≤ 259) :
    Calls Try.prog 63 #[.agg #[.int .i64 m, .int .i64 d], .int .i64 t] w fun e w' => e = .returned (.agg #[.int .i64 (rm m t), .int .i64 (rd m d t)]) ∧ Chg [] w w' := by
  go_enter Try.func63, Try.ntmps63
  go_wp2
  all_goals
    refine bodyPost_ret (v := .agg #[.int .i64 (rm m t), .int .i64 (rd m d t)]) ?_ rfl ⟨rfl, ((Chg.refl _ _).alloc _).alloc _⟩
    simp [results, Try.results63, go_sem]
    unfold rd rm rx cutZ
    refine ⟨?_, ?_⟩ <;> omega

set_option maxHeartbeats 400000 in
theorem rtt_late (m d : Int) (w : World) (hm : 8 ≤ m) (hm' : m ≤ 512) :
    Calls Try.prog 67 #[.agg #[.int .i64 m, .int .i64 d]] w fun e w' => e = .returned (.agg #[.int .i64 (lm m), .int .i64 d]) ∧ Chg [] w w' := by
  go_enter Try.func67, Try.ntmps67
  go_wp2
  all_goals
    refine bodyPost_ret (v := .agg #[.int .i64 (lm m), .int .i64 d]) ?_ rfl ⟨rfl, ((Chg.refl _ _).alloc _).alloc _⟩
    simp [results, Try.results67, go_sem]
    unfold lm
    omega

theorem ret_int {k : IntKind} {a b : Int} (h : a = b) : Ending.returned (.int k a) = .returned (.int k b) := by rw [h]

set_option maxHeartbeats 400000 in
theorem rtt_wait (m d : Int) (w : World) (hm : 8 ≤ m) (hm' : m ≤ 512) (hd : 0 ≤ d) (hd' : d ≤ 259) :
    Calls Try.prog 65 #[.agg #[.int .i64 m, .int .i64 d]] w fun e w' => e = .returned (.int .i64 (rwait m d)) ∧ Chg [] w w' := by
  go_enter Try.func65, Try.ntmps65
  go_wp2
  all_goals
    go_ret
    exact ⟨ret_int (by unfold rwait cutZ; omega), (Chg.refl _ _).alloc _⟩

/-! The references. -/
set_option maxHeartbeats 400000 in
theorem cut19 (n lo hi : Int) (w : World) (h : lo ≤ hi) :
    Calls Try.prog 108 #[.int .i64 n, .int .i64 lo, .int .i64 hi] w fun e w' => e = .returned (.int .i64 (cutZ n lo hi)) ∧ w = w' := by
  go_enter Try.func108, Try.ntmps108
  go_wp2
  all_goals
    go_ret
    exact ⟨ret_int (by unfold cutZ; omega), rfl⟩

set_option maxHeartbeats 400000 in
theorem rrtt_new (t : Int) (w : World) :
    Calls Try.prog 96 #[.int .i64 t] w fun e w' => e = .returned (.agg #[.int .i64 (8 * cutZ t 1 64), .int .i64 0]) ∧ Chg [] w w' := by
  have hb : 1 ≤ cutZ t 1 64 ∧ cutZ t 1 64 ≤ 64 := by unfold cutZ; omega
  go_enter Try.func96, Try.ntmps96
  go_wp2_with fail
  refine (cut19 _ _ _ _ (by omega)).mono ?_; rintro e w1 ⟨rfl, rfl⟩
  go_wp2_with fail
  refine bodyPost_ret (v := .agg #[.int .i64 (8 * cutZ t 1 64), .int .i64 0]) ?_ rfl ⟨rfl, (Chg.refl _ _).alloc _⟩
  simp [results, Try.results96, go_sem]

set_option maxHeartbeats 800000 in
theorem rrtt_sample (m d t : Int) (w : World) (hm : 8 ≤ m) (hm' : m ≤ 512) (hd : 0 ≤ d) (hd' : d ≤ 259) :
    Calls Try.prog 110 #[.agg #[.int .i64 m, .int .i64 d], .int .i64 t] w fun e w' => e = .returned (.agg #[.int .i64 (rm m t), .int .i64 (rd m d t)]) ∧ Chg [] w w' := by
  have hb : 0 ≤ cutZ t 0 64 ∧ cutZ t 0 64 ≤ 64 := by unfold cutZ; omega
  go_enter Try.func110, Try.ntmps110
  go_wp2_with fail
  go_region_with (go_at_call 108; refine (cut19 _ _ _ _ (by omega)).mono ?_; rintro e w1 ⟨rfl, rfl⟩)
  go_wp2
  all_goals
    refine bodyPost_ret (v := .agg #[.int .i64 (rm m t), .int .i64 (rd m d t)]) ?_ rfl ⟨rfl, (((Chg.refl _ _).alloc _).alloc _).drew⟩
    simp [results, Try.results110, go_sem]
    unfold rd rm rx
    refine ⟨?_, ?_⟩ <;> omega

set_option maxHeartbeats 400000 in
theorem rrtt_late (m d : Int) (w : World) (hm : 8 ≤ m) (hm' : m ≤ 512) :
    Calls Try.prog 115 #[.agg #[.int .i64 m, .int .i64 d]] w fun e w' => e = .returned (.agg #[.int .i64 (lm m), .int .i64 d]) ∧ Chg [] w w' := by
  have hw : IntKind.i64.wrap (2 * m) = 2 * m := IntWalk.i64_in _ (by omega)
  go_enter Try.func115, Try.ntmps115
  go_wp2_with fail
  go_region_with (go_at_call 108; refine (cut19 _ _ _ _ (by omega)).mono ?_; rintro e w1 ⟨rfl, rfl⟩)
  clear hw
  go_wp2
  all_goals
    refine bodyPost_ret (v := .agg #[.int .i64 (lm m), .int .i64 d]) ?_ rfl ⟨rfl, (((Chg.refl _ _).alloc _).alloc _).drew⟩
    simp [results, Try.results115, go_sem]
    unfold lm cutZ
    omega

set_option maxHeartbeats 400000 in
theorem rrtt_wait (m d : Int) (w : World) (hm : 8 ≤ m) (hm' : m ≤ 512) (hd : 0 ≤ d) (hd' : d ≤ 259) :
    Calls Try.prog 113 #[.agg #[.int .i64 m, .int .i64 d]] w fun e w' => e = .returned (.int .i64 (rwait m d)) ∧ Chg [] w w' := by
  go_enter Try.func113, Try.ntmps113
  go_wp2_with fail
  refine (cut19 _ _ _ _ (by omega)).mono ?_; rintro e w1 ⟨rfl, rfl⟩
  go_wp2_with fail
  go_ret
  exact ⟨rfl, (Chg.refl _ _).alloc _⟩
end Go.Proofs.Ytkmjpphmciaklaa
