/- Contracts of catwalk/rtt and of catwalkref19 over this seat's translation. -/
import Derived.Test.YtnmjfeeogphlcaaRows
import Derived.Test.YtnmjfeeogphlcaaHeap
import Derived.Deep.RegionHeld3
import Derived.Deep.DrawnRows
import Derived.IntWalk
namespace Go.Proofs.Ytnmjfeeogphlcaa
open Go.RowKit
set_option linter.unusedVariables false
attribute [local go_sem ↓] Go.wp_at_zero Go.wp_at_succ

def cutZ (n lo hi : Int) : Int := min (max n lo) hi
def rx (m t : Int) : Int := cutZ t 0 64 - m / 8
def rm (m t : Int) : Int := max (m + rx m t) 8
def rd (m d t : Int) : Int := d + ((max (rx m t) (-(rx m t))) - d / 4)
def lm (m : Int) : Int := min (2 * m) 512
def rwait (m d : Int) : Int := cutZ (m / 8 + d) 1 64

set_option maxHeartbeats 400000 in
theorem rtt_new (t : Int) (w : World) :
    Calls Try.prog 24 #[.int .i64 t] w fun e w' => e = .returned (.agg #[.int .i64 (8 * cutZ t 1 64), .int .i64 0]) ∧ Chg [] w w' := by
  go_enter Try.func24, Try.ntmps24
  go_wp2
  all_goals
    refine bodyPost_ret (v := .agg #[.int .i64 (8 * cutZ t 1 64), .int .i64 0]) ?_ rfl ⟨rfl, (Chg.refl _ _).alloc _⟩
    simp [results, Try.results24, go_sem]
    unfold cutZ
    omega

set_option maxHeartbeats 400000 in
theorem rtt_sample (m d t : Int) (w : World) (hm : 8 ≤ m) (hm' : m ≤ 512) (hd : 0 ≤ d) (hd' : d ≤ 259) :
    Calls Try.prog 28 #[.agg #[.int .i64 m, .int .i64 d], .int .i64 t] w fun e w' => e = .returned (.agg #[.int .i64 (rm m t), .int .i64 (rd m d t)]) ∧ Chg [] w w' := by
  go_enter Try.func28, Try.ntmps28
  go_wp2
  all_goals
    refine bodyPost_ret (v := .agg #[.int .i64 (rm m t), .int .i64 (rd m d t)]) ?_ rfl ⟨rfl, ((Chg.refl _ _).alloc _).alloc _⟩
    simp [results, Try.results28, go_sem]
    unfold rd rm rx cutZ
    refine ⟨?_, ?_⟩ <;> omega

set_option maxHeartbeats 400000 in
theorem rtt_late (m d : Int) (w : World) (hm : 8 ≤ m) (hm' : m ≤ 512) :
    Calls Try.prog 26 #[.agg #[.int .i64 m, .int .i64 d]] w fun e w' => e = .returned (.agg #[.int .i64 (lm m), .int .i64 d]) ∧ Chg [] w w' := by
  go_enter Try.func26, Try.ntmps26
  go_wp2
  all_goals
    refine bodyPost_ret (v := .agg #[.int .i64 (lm m), .int .i64 d]) ?_ rfl ⟨rfl, ((Chg.refl _ _).alloc _).alloc _⟩
    simp [results, Try.results26, go_sem]
    unfold lm
    omega

set_option maxHeartbeats 400000 in
theorem rtt_mean (m d : Int) (w : World) (hm : 8 ≤ m) (hm' : m ≤ 512) :
    Calls Try.prog 30 #[.agg #[.int .i64 m, .int .i64 d]] w fun e w' => e = .returned (.int .i64 (m / 8)) ∧ Chg [] w w' := by
  go_enter Try.func30, Try.ntmps30
  go_wp2
  go_ret
  exact ⟨rfl, (Chg.refl _ _).alloc _⟩

set_option maxHeartbeats 400000 in
theorem rtt_off (m d : Int) (w : World) (hd : 0 ≤ d) (hd' : d ≤ 259) :
    Calls Try.prog 31 #[.agg #[.int .i64 m, .int .i64 d]] w fun e w' => e = .returned (.int .i64 (d / 4)) ∧ Chg [] w w' := by
  go_enter Try.func31, Try.ntmps31
  go_wp2
  go_ret
  exact ⟨rfl, (Chg.refl _ _).alloc _⟩

theorem ret_int {k : IntKind} {a b : Int} (h : a = b) : Ending.returned (.int k a) = .returned (.int k b) := by rw [h]

set_option maxHeartbeats 400000 in
theorem rtt_wait (m d : Int) (w : World) (hm : 8 ≤ m) (hm' : m ≤ 512) (hd : 0 ≤ d) (hd' : d ≤ 259) :
    Calls Try.prog 32 #[.agg #[.int .i64 m, .int .i64 d]] w fun e w' => e = .returned (.int .i64 (rwait m d)) ∧ Chg [] w w' := by
  go_enter Try.func32, Try.ntmps32
  go_wp2
  all_goals
    go_ret
    exact ⟨ret_int (by unfold rwait cutZ; omega), (Chg.refl _ _).alloc _⟩

/-! The references. -/
set_option maxHeartbeats 400000 in
theorem cut19 (n lo hi : Int) (w : World) (h : lo ≤ hi) :
    Calls Try.prog 48 #[.int .i64 n, .int .i64 lo, .int .i64 hi] w fun e w' => e = .returned (.int .i64 (cutZ n lo hi)) ∧ w = w' := by
  go_enter Try.func48, Try.ntmps48
  go_wp2
  all_goals
    go_ret
    exact ⟨ret_int (by unfold cutZ; omega), rfl⟩

set_option maxHeartbeats 400000 in
theorem rrtt_new (t : Int) (w : World) :
    Calls Try.prog 25 #[.int .i64 t] w fun e w' => e = .returned (.agg #[.int .i64 (8 * cutZ t 1 64), .int .i64 0]) ∧ Chg [] w w' := by
  have hb : 1 ≤ cutZ t 1 64 ∧ cutZ t 1 64 ≤ 64 := by unfold cutZ; omega
  go_enter Try.func25, Try.ntmps25
  go_wp2_with fail
  refine (cut19 _ _ _ _ (by omega)).mono ?_; rintro e w1 ⟨rfl, rfl⟩
  go_wp2_with fail
  refine bodyPost_ret (v := .agg #[.int .i64 (8 * cutZ t 1 64), .int .i64 0]) ?_ rfl ⟨rfl, (Chg.refl _ _).alloc _⟩
  simp [results, Try.results25, go_sem]

set_option maxHeartbeats 800000 in
theorem rrtt_sample (m d t : Int) (w : World) (hm : 8 ≤ m) (hm' : m ≤ 512) (hd : 0 ≤ d) (hd' : d ≤ 259) :
    Calls Try.prog 29 #[.agg #[.int .i64 m, .int .i64 d], .int .i64 t] w fun e w' => e = .returned (.agg #[.int .i64 (rm m t), .int .i64 (rd m d t)]) ∧ Chg [] w w' := by
  have hb : 0 ≤ cutZ t 0 64 ∧ cutZ t 0 64 ≤ 64 := by unfold cutZ; omega
  go_enter Try.func29, Try.ntmps29
  go_wp2_with fail
  go_region_with (go_at_call 48; refine (cut19 _ _ _ _ (by omega)).mono ?_; rintro e w1 ⟨rfl, rfl⟩)
  go_wp2
  all_goals
    refine bodyPost_ret (v := .agg #[.int .i64 (rm m t), .int .i64 (rd m d t)]) ?_ rfl ⟨rfl, (((Chg.refl _ _).alloc _).alloc _).drew⟩
    simp [results, Try.results29, go_sem]
    unfold rd rm rx
    refine ⟨?_, ?_⟩ <;> omega

set_option maxHeartbeats 400000 in
theorem rrtt_late (m d : Int) (w : World) (hm : 8 ≤ m) (hm' : m ≤ 512) :
    Calls Try.prog 27 #[.agg #[.int .i64 m, .int .i64 d]] w fun e w' => e = .returned (.agg #[.int .i64 (lm m), .int .i64 d]) ∧ Chg [] w w' := by
  have hw : IntKind.i64.wrap (2 * m) = 2 * m := IntWalk.i64_in _ (by omega)
  go_enter Try.func27, Try.ntmps27
  go_wp2_with fail
  go_region_with (go_at_call 48; refine (cut19 _ _ _ _ (by omega)).mono ?_; rintro e w1 ⟨rfl, rfl⟩)
  clear hw
  go_wp2
  all_goals
    refine bodyPost_ret (v := .agg #[.int .i64 (lm m), .int .i64 d]) ?_ rfl ⟨rfl, (((Chg.refl _ _).alloc _).alloc _).drew⟩
    simp [results, Try.results27, go_sem]
    unfold lm cutZ
    omega

set_option maxHeartbeats 400000 in
theorem rrtt_wait (m d : Int) (w : World) (hm : 8 ≤ m) (hm' : m ≤ 512) (hd : 0 ≤ d) (hd' : d ≤ 259) :
    Calls Try.prog 33 #[.agg #[.int .i64 m, .int .i64 d]] w fun e w' => e = .returned (.int .i64 (rwait m d)) ∧ Chg [] w w' := by
  go_enter Try.func33, Try.ntmps33
  go_wp2_with fail
  refine (cut19 _ _ _ _ (by omega)).mono ?_; rintro e w1 ⟨rfl, rfl⟩
  go_wp2_with fail
  go_ret
  exact ⟨rfl, (Chg.refl _ _).alloc _⟩

set_option maxHeartbeats 400000 in
theorem alive19_any (w : World) : Calls Try.prog 34 #[] w fun e w' => e = .returned (.bool true) ∧ Chg [] w w' := by
  have h1 : 8 * cutZ 2 1 64 = 16 := by decide
  have h2 : (rwait 16 0 == 2) = true := by decide
  have H1 := Lib.hid h1; have H2 := Lib.hid h2; clear h1 h2
  go_enter Try.func34, Try.ntmps34
  go_wp2_with fail
  refine (rtt_new _ _).mono ?_; rintro e w1 ⟨rfl, hq1⟩
  rw [H1.out]
  go_wp2_with fail
  refine (rtt_wait 16 0 _ (by omega) (by omega) (by omega) (by omega)).mono ?_; rintro e w2 ⟨rfl, hq2⟩
  have h2 := H2.out
  go_wp2_with fail
  go_ret
  exact ⟨rfl, hq1.trans hq2⟩
end Go.Proofs.Ytnmjfeeogphlcaa
