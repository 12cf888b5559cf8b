/- The plain law behind RttSettles: samples of one number settle. No program in sight. -/
import Derived.Test.YtnmjfeeogphlcaaRttWalks
namespace Go.Proofs.Ytnmjfeeogphlcaa
set_option linter.unusedVariables false

/-- How far the mean may be off behind n samples; how far the deviation behind n more. -/
def farF : Nat → Int
  | 0 => 511
  | n + 1 => farF n - farF n / 8
def farG : Nat → Int
  | 0 => 259
  | n + 1 => farG n - farG n / 4
theorem farF_pos : ∀ n, 0 ≤ farF n
  | 0 => by decide
  | n + 1 => by have := farF_pos n; unfold farF; omega
theorem farG_pos : ∀ n, 0 ≤ farG n
  | 0 => by decide
  | n + 1 => by have := farG_pos n; unfold farG; omega
theorem farF_100 : farF 100 ≤ 7 := by decide +kernel
theorem farG_100 : farG 100 ≤ 3 := by decide +kernel
theorem farF_late (n : Nat) : farF (100 + n) ≤ 7 := by
  induction n with
  | zero => exact farF_100
  | succ n ih => show farF (100 + n) - farF (100 + n) / 8 ≤ 7; have := farF_pos (100 + n); omega
theorem farG_late (n : Nat) : farG (100 + n) ≤ 3 := by
  induction n with
  | zero => exact farG_100
  | succ n ih => show farG (100 + n) - farG (100 + n) / 4 ≤ 3; have := farG_pos (100 + n); omega

/-- What holds behind n samples of t. -/
def Sett (t : Int) (n : Nat) (m d : Int) : Prop :=
  8 ≤ m ∧ m ≤ 512 ∧ 0 ≤ d ∧ d ≤ 259 ∧ ((0 ≤ m - 8 * t ∧ m - 8 * t ≤ farF n) ∨ (0 ≤ 8 * t + 7 - m ∧ 8 * t + 7 - m ≤ farF n)) ∧ (100 ≤ n → d ≤ farG (n - 100))

theorem sett_start (t m d : Int) (h1 : 1 ≤ t) (h2 : t ≤ 64) (hm : 8 ≤ m) (hm' : m ≤ 512) (hd : 0 ≤ d) (hd' : d ≤ 259) : Sett t 0 m d :=
  ⟨hm, hm', hd, hd', by show (0 ≤ m - 8 * t ∧ m - 8 * t ≤ 511) ∨ (0 ≤ 8 * t + 7 - m ∧ 8 * t + 7 - m ≤ 511); omega, by omega⟩

theorem sett_step (t m d : Int) (n : Nat) (h1 : 1 ≤ t) (h2 : t ≤ 64) (h : Sett t n m d) : Sett t (n + 1) (rm m t) (rd m d t) := by
  obtain ⟨hm, hm', hd, hd', hf, hg⟩ := h
  have e1 : rx m t = t - m / 8 := by unfold rx cutZ; omega
  have e2 : rm m t = m + (t - m / 8) := by unfold rm; rw [e1]; omega
  have hp := farF_pos n
  refine ⟨by rw [e2]; omega, by rw [e2]; omega, by unfold rd; rw [e1]; omega, by unfold rd; rw [e1]; omega, ?_, fun hn => ?_⟩
  · rw [e2]
    show (0 ≤ _ ∧ _ ≤ farF n - farF n / 8) ∨ (0 ≤ _ ∧ _ ≤ farF n - farF n / 8)
    omega
  · rcases Nat.lt_or_ge n 100 with hlt | hge
    · obtain rfl : n = 99 := by omega
      show _ ≤ farG 0
      show _ ≤ (259 : Int)
      unfold rd; rw [e1]; omega
    · have hl := farF_late (n - 100)
      rw [show 100 + (n - 100) = n by omega] at hl
      have hx : t - m / 8 = 0 := by omega
      have hg' := hg hge
      have e3 : rd m d t = d - d / 4 := by unfold rd; rw [e1, hx]; omega
      rw [e3, show n + 1 - 100 = (n - 100) + 1 by omega]
      show _ ≤ farG (n - 100) - farG (n - 100) / 4
      omega

theorem sett_end (t m d : Int) (n : Nat) (hn : 300 ≤ n) (h : Sett t n m d) : m / 8 = t ∧ d / 4 = 0 := by
  obtain ⟨hm, hm', hd, hd', hf, hg⟩ := h
  have hl := farF_late (n - 100)
  rw [show 100 + (n - 100) = n by omega] at hl
  have hg' := hg (by omega)
  have hl' := farG_late (n - 200)
  rw [show 100 + (n - 200) = n - 100 by omega] at hl'
  omega
end Go.Proofs.Ytnmjfeeogphlcaa
