/- Proved: for every uint32 a and every int n the Go law catwalklaw02.SerialSteps returns true, and its arguments read behind the call as they read before.
Conditions: none. The frame of this text was written by the kit's proof-skeleton program; the walk and the lemmas f1 to f4 are ours. -/
import Derived.Test.YtnmjfeeogphlcaaSerialWalks
import Derived.WalkKit
import Derived.ProofKit
import Derived.OpenShut
import Derived.ShutString
namespace Go.Proofs.Ytnmjfeeogphlcaa.serialSteps
open Go.ChangeShapes Go.WideShapes Go.ChangeAt Go.RowKit
open Go.ChangeMaps (open_string shut_string)
set_option linter.unusedVariables false      -- a walk need not use every 'w<i>' (that an integer argument fits its kind)

theorem own : ownKnob Try.prog.godebug = none := by kernel_rfl

/-! ### STEP 1: THE WALK: the Go text returns true. 'Grown w w'': the world has at most new blocks (Derived/RowKit3.lean). Part the cases AHEAD of 'go_enter' where a test parts the walk; take each callee by a contract of your own. -/
theorem f1 (a n : Int) (h : 0 ≤ a ∧ a ≤ 4294967295) : ((n % 4294967296) != (addZ a n - a) % 4294967296) = false := by
  simp [addZ]; omega
theorem f2 (a n : Int) (ha : 0 ≤ a ∧ a ≤ 4294967295) (h : lessB a (addZ a n) = true) : lessB (addZ a n) a = false := by
  have hb : 0 ≤ addZ a n ∧ addZ a n < 4294967296 := by unfold addZ; omega
  generalize addZ a n = b at *
  simp [lessB] at h ⊢; omega
theorem f3 (a : Int) : lessB a a = false := by simp [lessB]
theorem f4 (a n : Int) (h : 0 ≤ a ∧ a ≤ 4294967295) (h1 : 1 ≤ n) (h2 : n < 2147483648) : lessB a (addZ a n) = true ∧ wrap64 (distZ a (addZ a n)) = n := by
  have e : (addZ a n - a) % 4294967296 = n := by unfold addZ; omega
  refine ⟨?_, ?_⟩
  · unfold lessB; rw [e]; simp [addZ]; omega
  · unfold distZ; rw [e]; unfold wrap64 wrap32; omega

set_option maxHeartbeats 400000 in
theorem walk (a0 : Int) (a1 : Int) (w0 : (Lit.int .u32 a0).wf = true) (w1 : (Lit.int .i64 a1).wf = true) (w : World) :
    Calls Try.prog 3 #[.int .u32 a0, .int .i64 a1] w fun e w' => e = .returned (.bool true) ∧ Grown w w' := by
  have ha := bounds_u32 w0
  have hb := bounds_i64 w1
  have H1 := f1 a0 a1 ha
  clear w0 w1
  have H4 := Lib.hid (f4 a0 a1 ha)
  cases hl : lessB a0 (addZ a0 a1)
  · have hr : ¬ (1 ≤ a1 ∧ a1 < 2147483648) := fun ⟨x, y⟩ => by have := (H4.out x y).1; rw [hl] at this; cases this
    have HL := Lib.hid hl; clear hl
    go_enter Try.func3, Try.ntmps3
    go_wp2_with fail
    refine (add_any _ _ _).mono ?_; rintro e w' ⟨rfl, rfl⟩
    go_wp2_with fail
    refine (less_f _ _ _ HL.out).mono ?_; rintro e w' ⟨rfl, rfl⟩
    go_wp2_with fail
    refine (less_f _ _ _ (f3 _)).mono ?_; rintro e w' ⟨rfl, rfl⟩
    by_cases hx : 1 ≤ a1
    · have hy : ¬ a1 < 2147483648 := fun y => hr ⟨hx, y⟩
      clear hr
      go_wp2_with fail
      refine (alive_any _).mono ?_; rintro e w' ⟨rfl, rfl⟩
      go_wp2_with fail
      go_ret
      exact ⟨rfl, Grown.refl _⟩
    · clear hr
      go_wp2_with fail
      refine (alive_any _).mono ?_; rintro e w' ⟨rfl, rfl⟩
      go_wp2_with fail
      go_ret
      exact ⟨rfl, Grown.refl _⟩
  · have H2 := Lib.hid (f2 _ _ ha hl)
    have HL := Lib.hid hl; clear hl
    go_enter Try.func3, Try.ntmps3
    go_wp2_with fail
    refine (add_any _ _ _).mono ?_; rintro e w' ⟨rfl, rfl⟩
    go_wp2_with fail
    refine (less_t _ _ _ HL.out).mono ?_; rintro e w' ⟨rfl, rfl⟩
    go_wp2_with fail
    refine (less_f _ _ _ H2.out).mono ?_; rintro e w' ⟨rfl, rfl⟩
    go_wp2_with fail
    refine (less_f _ _ _ (f3 _)).mono ?_; rintro e w' ⟨rfl, rfl⟩
    by_cases hx : 1 ≤ a1
    · by_cases hy : a1 < 2147483648
      · have hd : (wrap64 (distZ a0 (addZ a0 a1)) == a1) = true := by rw [(H4.out hx hy).2]; simp
        go_wp2_with fail
        refine (less_t _ _ _ HL.out).mono ?_; rintro e w' ⟨rfl, rfl⟩
        go_wp2_with fail
        refine (dist_any _ _ _).mono ?_; rintro e w' ⟨rfl, rfl⟩
        go_wp2_with fail
        refine (alive_any _).mono ?_; rintro e w' ⟨rfl, rfl⟩
        go_wp2_with fail
        go_ret
        exact ⟨rfl, Grown.refl _⟩
      · go_wp2_with fail
        refine (alive_any _).mono ?_; rintro e w' ⟨rfl, rfl⟩
        go_wp2_with fail
        go_ret
        exact ⟨rfl, Grown.refl _⟩
    · go_wp2_with fail
      refine (alive_any _).mono ?_; rintro e w' ⟨rfl, rfl⟩
      go_wp2_with fail
      go_ret
      exact ⟨rfl, Grown.refl _⟩


/-! ### THE ROW's STEP: WRITTEN OUT: LEAVE IT -/
set_option maxRecDepth 100000 in
theorem lifted (os : Os) (started : os.Started) (H : Type) (enc : TypeId × Value → H) :
    ReturnsInHanded {} Try.checked os 3 .any (Rows.serialStepsSpec.pre6 enc Try.prog Try.f3 Rows.serialStepsRow.domain false) (Rows.serialStepsSpec.post enc Try.prog Try.f3 false true false false) := by
  refine returnsInHanded_of_change (C := Try.checked) own started (by kernel_rfl) Try.func3
    (ChangeSpec.witness6 (enc := enc) (C := Try.checked) false ⟨#[], #[.int .u32 0, .int .i64 0], []⟩ 8 (by kernel_rfl) (by kernel_rfl) (by kernel_rfl) (by kernel_rfl)) ?_
  intro W base args ds gs before hval0 hW hcnd _
  have hval : ∀ (j : Nat) t v, Try.f3.params[j]? = some t → args[j]? = some v → Value.okWide Try.prog W .any base t v := hval0
  have hW' := hW
  obtain ⟨p, q, hA0, hV, rfl, hfz, hnd⟩ := hW
  have hA : DataW.TrodAll enc Try.prog W 0 (fun _ => true) true Try.f3.params.toList args.toList ds p := hA0
  rw [Try.params3] at hA hval
  obtain ⟨v0, vs0, d0, ds0, p0, q0, hargs, rfl, rfl, h0, r0⟩ := trodAll_cons hA
  obtain ⟨v1, vs1, d1, ds1, p1, q1, rfl, rfl, rfl, h1, r1⟩ := trodAll_cons r0
  obtain ⟨rfl, rfl, rfl⟩ := trodAll_nil r1
  obtain rfl : args = #[v0, v1] := by cases args; simp_all
  obtain ⟨rfl, rfl⟩ := trodVars_none hV
  obtain ⟨a0, rfl, rfl, rfl, w0⟩ := open_int Try.underlying22 (hval 0 22 v0 rfl rfl) h0
  obtain ⟨a1, rfl, rfl, rfl, w1⟩ := open_int Try.underlying3 (hval 1 3 v1 rfl rfl) h1
  clear hA0 hval0
  simp only [List.append_nil] at hW'
  refine (walk a0 a1 w0 w1 W).mono fun e W' ⟨he, hg⟩ => ?_
  subst he
  exact ⟨_, rfl, post_of_same (pa := []) (pv := []) hW' (fun _ _ _ => (trodAll_cons_mk (shut_bool Try.underlying4 _) trodAll_mk0)) (fun sp _ => (trodAll_cons_mk (shut_int Try.underlying22 w0) (trodAll_cons_mk (shut_int Try.underlying3 w1) trodAll_mk0))) (fun _ _ => rfl) rfl
    (hg.frame _) hg.2.1 (ok_one (by kernel_rfl) rfl (okWide_bool_mk Try.underlying4 _))⟩

theorem over : Rows.serialStepsRow.holds Try.pinned (OpenSpec.ofChange Rows.serialStepsSpec) :=
  OpenClaim.holds_of_wide 3 Try.f3 rfl rfl rfl rfl rfl rfl rfl ⟨rfl, rfl, rfl, rfl, rfl⟩ rfl rfl rfl rfl rfl (by kernel_rfl) Try.func3 (by kernel_rfl)
    (of_decide_eq_true (by kernel_rfl)) (by unfold Func.isWrapper; first | (rw [if_pos (by decide +kernel)]; kernel_rfl) | (rw [if_neg (by decide +kernel)]; exact ⟨rfl, rfl⟩))
    (fun os started H enc _ => lifted os started H enc)

/-- ████ THE STATEMENT ████ -/
theorem proved : Rows.SerialStepsSaid :=
  over
#print axioms proved
end Go.Proofs.Ytnmjfeeogphlcaa.serialSteps
