/- Contracts of the functions of catwalk/catwalkref02, and of serial.Max and serial.Between, over this seat's translation. -/
import Derived.Test.YtnmjfeeogphlcaaSerialWalks
import Derived.IntWalk
namespace Go.Proofs.Ytnmjfeeogphlcaa
open Go.RowKit

def stepsZ (a b : Int) : Int := (b - a) % 4294967296
theorem stepsZ_bd (a b : Int) : 0 ≤ stepsZ a b ∧ stepsZ a b < 4294967296 := by unfold stepsZ; omega

set_option maxHeartbeats 400000 in
theorem rsteps_any (a b : Int) (w : World) (ha : 0 ≤ a) (ha' : a ≤ 4294967295) (hb : 0 ≤ b) (hb' : b ≤ 4294967295) :
    Calls Try.prog 20 #[.int .u32 a, .int .u32 b] w fun e w' => e = .returned (.int .i64 (stepsZ a b)) ∧ w = w' := by
  by_cases h : b - a < 0
  · have e : stepsZ a b = b - a + 4294967296 := by unfold stepsZ; omega
    have E := Lib.hid e; clear e
    go_enter Try.func20, Try.ntmps20
    go_wp2
    go_ret
    exact ⟨by rw [E.out]; rfl, rfl⟩
  · have e : stepsZ a b = b - a := by unfold stepsZ; omega
    have E := Lib.hid e; clear e
    go_enter Try.func20, Try.ntmps20
    go_wp2
    go_ret
    exact ⟨by rw [E.out]; rfl, rfl⟩

theorem lessB_steps (a b : Int) (ha : 0 ≤ a) (ha' : a ≤ 4294967295) (hb : 0 ≤ b) (hb' : b ≤ 4294967295) :
    lessB a b = (decide (0 < stepsZ a b) && decide (stepsZ a b < 2147483648)) := by
  unfold lessB stepsZ
  rw [Bool.eq_iff_iff]; simp; omega
theorem distZ_steps (a b : Int) : distZ a b = if 2147483648 ≤ stepsZ a b then stepsZ a b - 4294967296 else stepsZ a b := by
  have := stepsZ_bd a b
  unfold distZ; rw [show (b - a) % 4294967296 = stepsZ a b from rfl]
  unfold wrap32; split <;> omega

set_option maxHeartbeats 400000 in
theorem rless_any (a b : Int) (w : World) (ha : 0 ≤ a) (ha' : a ≤ 4294967295) (hb : 0 ≤ b) (hb' : b ≤ 4294967295) :
    Calls Try.prog 16 #[.int .u32 a, .int .u32 b] w fun e w' => e = .returned (.bool (lessB a b)) ∧ w = w' := by
  have E := Lib.hid (lessB_steps a b ha ha' hb hb')
  have C := rsteps_any a b w ha ha' hb hb'
  have C' := Lib.hid C; clear C
  have hs := stepsZ_bd a b
  obtain ⟨s, hse⟩ : ∃ s, s = stepsZ a b := ⟨_, rfl⟩
  rw [← hse] at hs
  have HS := Lib.hid hse; clear hse
  go_enter Try.func16, Try.ntmps16
  go_wp2_with fail
  refine C'.out.mono ?_; rintro e w' ⟨rfl, rfl⟩
  rw [← HS.out]
  by_cases h : 0 < s
  · go_wp2_with fail
    go_ret
    exact ⟨by rw [E.out, ← HS.out]; simp [h], rfl⟩
  · go_wp2_with fail
    go_ret
    exact ⟨by rw [E.out, ← HS.out]; simp; omega, rfl⟩

set_option maxHeartbeats 400000 in
theorem rdist_any (a b : Int) (w : World) (ha : 0 ≤ a) (ha' : a ≤ 4294967295) (hb : 0 ≤ b) (hb' : b ≤ 4294967295) :
    Calls Try.prog 17 #[.int .u32 a, .int .u32 b] w fun e w' => e = .returned (.int .i64 (distZ a b)) ∧ w = w' := by
  have E := Lib.hid (distZ_steps a b)
  have C := rsteps_any a b w ha ha' hb hb'
  have C' := Lib.hid C; clear C
  have hs := stepsZ_bd a b
  obtain ⟨s, hse⟩ : ∃ s, s = stepsZ a b := ⟨_, rfl⟩
  rw [← hse] at hs
  have HS := Lib.hid hse; clear hse
  go_enter Try.func17, Try.ntmps17
  go_wp2_with fail
  refine C'.out.mono ?_; rintro e w' ⟨rfl, rfl⟩
  rw [← HS.out]
  by_cases h : 2147483648 ≤ s
  · go_wp2_with fail
    go_ret
    exact ⟨by rw [E.out, ← HS.out, if_pos h]; rfl, rfl⟩
  · go_wp2_with fail
    go_ret
    exact ⟨by rw [E.out, ← HS.out, if_neg (by omega)]; rfl, rfl⟩

set_option maxHeartbeats 400000 in
theorem max_any (a b : Int) (w : World) :
    Calls Try.prog 18 #[.int .u32 a, .int .u32 b] w fun e w' => e = .returned (.int .u32 (if lessB a b then b else a)) ∧ w = w' := by
  cases h : lessB a b
  · have H := Lib.hid h; clear h
    go_enter Try.func18, Try.ntmps18
    go_wp2_with fail
    refine (less_f _ _ _ H.out).mono ?_; rintro e w' ⟨rfl, rfl⟩
    go_wp2_with fail
    go_ret
    exact ⟨rfl, rfl⟩
  · have H := Lib.hid h; clear h
    go_enter Try.func18, Try.ntmps18
    go_wp2_with fail
    refine (less_t _ _ _ H.out).mono ?_; rintro e w' ⟨rfl, rfl⟩
    go_wp2_with fail
    go_ret
    exact ⟨rfl, rfl⟩

set_option maxHeartbeats 400000 in
theorem between_any (a b c : Int) (w : World) :
    Calls Try.prog 19 #[.int .u32 a, .int .u32 b, .int .u32 c] w fun e w' => e = .returned (.bool (decide (stepsZ a b ≤ stepsZ a c))) ∧ w = w' := by
  go_enter Try.func19, Try.ntmps19
  go_wp2
  go_ret
  exact ⟨rfl, rfl⟩
end Go.Proofs.Ytnmjfeeogphlcaa
