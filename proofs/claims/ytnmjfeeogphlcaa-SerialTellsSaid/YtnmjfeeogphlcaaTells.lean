/- Proved: for every three uint32 numbers the Go law catwalklaw02.SerialTells returns true, and its arguments read behind the call as they read before. Conditions: none.
The frame of this text was written by the kit's proof-skeleton program; the walk and its lemmas are ours. -/
import Derived.Test.YtnmjfeeogphlcaaSerialRefs
import Derived.WalkKit
import Derived.ProofKit
import Derived.OpenShut
import Derived.ShutString
namespace Go.Proofs.Ytnmjfeeogphlcaa.serialTells
open Go.ChangeShapes Go.WideShapes Go.ChangeAt Go.RowKit
open Go.ChangeMaps (open_string shut_string)
set_option linter.unusedVariables false      -- a walk need not use every 'w<i>' (that an integer argument fits its kind)

theorem own : ownKnob Try.prog.godebug = none := by kernel_rfl

/-! ### STEP 1: THE WALK: the Go text returns true. 'Grown w w'': the world has at most new blocks (Derived/RowKit3.lean). Part the cases AHEAD of 'go_enter' where a test parts the walk; take each callee by a contract of your own. -/
theorem t1 (a b : Int) (ha : 0 ≤ a ∧ a ≤ 4294967295) (hb : 0 ≤ b ∧ b ≤ 4294967295) : addZ a (wrap64 (distZ a b)) = b := by
  unfold addZ distZ wrap64 wrap32; omega
theorem t2 (a b : Int) : wrap64 (distZ a b) = distZ a b := by unfold distZ wrap64 wrap32; omega

set_option maxHeartbeats 400000 in
theorem walk (a0 : Int) (a1 : Int) (a2 : Int) (w0 : (Lit.int .u32 a0).wf = true) (w1 : (Lit.int .u32 a1).wf = true) (w2 : (Lit.int .u32 a2).wf = true) (w : World) :
    Calls Try.prog 4 #[.int .u32 a0, .int .u32 a1, .int .u32 a2] w fun e w' => e = .returned (.bool true) ∧ Grown w w' := by
  obtain ⟨ha, ha'⟩ := bounds_u32 w0
  obtain ⟨hb, hb'⟩ := bounds_u32 w1
  obtain ⟨hc, hc'⟩ := bounds_u32 w2
  have T1 := Lib.hid (t1 a0 a1 ⟨ha, ha'⟩ ⟨hb, hb'⟩)
  have T2 := Lib.hid (t2 a0 a1)
  have CA : ∀ w, Calls Try.prog 20 #[.int .u32 a0, .int .u32 a1] w fun e w' => e = .returned (.int .i64 (stepsZ a0 a1)) ∧ w = w' := fun w => rsteps_any a0 a1 w ha ha' hb hb'
  have CB : ∀ w, Calls Try.prog 20 #[.int .u32 a0, .int .u32 a2] w fun e w' => e = .returned (.int .i64 (stepsZ a0 a2)) ∧ w = w' := fun w => rsteps_any a0 a2 w ha ha' hc hc'
  have CL : ∀ w, Calls Try.prog 16 #[.int .u32 a0, .int .u32 a1] w fun e w' => e = .returned (.bool (lessB a0 a1)) ∧ w = w' := fun w => rless_any a0 a1 w ha ha' hb hb'
  have CD : ∀ w, Calls Try.prog 17 #[.int .u32 a0, .int .u32 a1] w fun e w' => e = .returned (.int .i64 (distZ a0 a1)) ∧ w = w' := fun w => rdist_any a0 a1 w ha ha' hb hb'
  have KA := Lib.hid CA
  have KB := Lib.hid CB
  have KL := Lib.hid CL
  have KD := Lib.hid CD
  clear CA CB CL CD w0 w1 w2 ha ha' hb hb' hc hc'
  have hx : (distZ a0 a1 != distZ a0 a1) = false := by simp
  have hy : (a1 != a1) = false := by simp
  have hz : (a0 != a0) = false := by simp
  have hw : (decide (stepsZ a0 a1 ≤ stepsZ a0 a2) == decide (stepsZ a0 a1 ≤ stepsZ a0 a2)) = true := by simp
  cases h : lessB a0 a1
  all_goals
    have H := Lib.hid h; clear h
    go_enter Try.func4, Try.ntmps4
    go_wp2_with fail
    refine (KL.out _).mono ?_; rintro e w' ⟨rfl, rfl⟩
    rw [H.out]
    go_wp2_with fail
    refine (dist_any _ _ _).mono ?_; rintro e w' ⟨rfl, rfl⟩
    go_wp2_with fail
    refine (less_any _ _ _).mono ?_; rintro e w' ⟨rfl, rfl⟩
    rw [H.out]
    go_wp2_with fail
    refine (KL.out _).mono ?_; rintro e w' ⟨rfl, rfl⟩
    rw [H.out]
    rw [T2.out]
    go_wp2_with fail
    refine (KD.out _).mono ?_; rintro e w' ⟨rfl, rfl⟩
    go_wp2_with fail
    refine (max_any _ _ _).mono ?_; rintro e w' ⟨rfl, rfl⟩
    rw [H.out]
    go_wp2_with fail
    refine (add_any _ _ _).mono ?_; rintro e w' ⟨rfl, rfl⟩
    rw [← T2.out, T1.out]
    go_wp2_with fail
    refine (between_any _ _ _ _).mono ?_; rintro e w' ⟨rfl, rfl⟩
    go_wp2_with fail
    refine (KA.out _).mono ?_; rintro e w' ⟨rfl, rfl⟩
    go_wp2_with fail
    refine (KB.out _).mono ?_; rintro e w' ⟨rfl, rfl⟩
    go_wp2_with fail
    refine (alive_any _).mono ?_; rintro e w' ⟨rfl, rfl⟩
    go_wp2_with fail
    go_ret
    exact ⟨rfl, Grown.refl _⟩

/-! ### THE ROW's STEP: WRITTEN OUT: LEAVE IT -/
set_option maxRecDepth 100000 in
theorem lifted (os : Os) (started : os.Started) (H : Type) (enc : TypeId × Value → H) :
    ReturnsInHanded {} Try.checked os 4 .any (Rows.serialTellsSpec.pre6 enc Try.prog Try.f4 Rows.serialTellsRow.domain false) (Rows.serialTellsSpec.post enc Try.prog Try.f4 false true false false) := by
  refine returnsInHanded_of_change (C := Try.checked) own started (by kernel_rfl) Try.func4
    (ChangeSpec.witness6 (enc := enc) (C := Try.checked) false ⟨#[], #[.int .u32 0, .int .u32 0, .int .u32 0], []⟩ 8 (by kernel_rfl) (by kernel_rfl) (by kernel_rfl) (by kernel_rfl)) ?_
  intro W base args ds gs before hval0 hW hcnd _
  have hval : ∀ (j : Nat) t v, Try.f4.params[j]? = some t → args[j]? = some v → Value.okWide Try.prog W .any base t v := hval0
  have hW' := hW
  obtain ⟨p, q, hA0, hV, rfl, hfz, hnd⟩ := hW
  have hA : DataW.TrodAll enc Try.prog W 0 (fun _ => true) true Try.f4.params.toList args.toList ds p := hA0
  rw [Try.params4] at hA hval
  obtain ⟨v0, vs0, d0, ds0, p0, q0, hargs, rfl, rfl, h0, r0⟩ := trodAll_cons hA
  obtain ⟨v1, vs1, d1, ds1, p1, q1, rfl, rfl, rfl, h1, r1⟩ := trodAll_cons r0
  obtain ⟨v2, vs2, d2, ds2, p2, q2, rfl, rfl, rfl, h2, r2⟩ := trodAll_cons r1
  obtain ⟨rfl, rfl, rfl⟩ := trodAll_nil r2
  obtain rfl : args = #[v0, v1, v2] := by cases args; simp_all
  obtain ⟨rfl, rfl⟩ := trodVars_none hV
  obtain ⟨a0, rfl, rfl, rfl, w0⟩ := open_int Try.underlying22 (hval 0 22 v0 rfl rfl) h0
  obtain ⟨a1, rfl, rfl, rfl, w1⟩ := open_int Try.underlying22 (hval 1 22 v1 rfl rfl) h1
  obtain ⟨a2, rfl, rfl, rfl, w2⟩ := open_int Try.underlying22 (hval 2 22 v2 rfl rfl) h2
  clear hA0 hval0
  simp only [List.append_nil] at hW'
  refine (walk a0 a1 a2 w0 w1 w2 W).mono fun e W' ⟨he, hg⟩ => ?_
  subst he
  exact ⟨_, rfl, post_of_same (pa := []) (pv := []) hW' (fun _ _ _ => (trodAll_cons_mk (shut_bool Try.underlying4 _) trodAll_mk0)) (fun sp _ => (trodAll_cons_mk (shut_int Try.underlying22 w0) (trodAll_cons_mk (shut_int Try.underlying22 w1) (trodAll_cons_mk (shut_int Try.underlying22 w2) trodAll_mk0)))) (fun _ _ => rfl) rfl
    (hg.frame _) hg.2.1 (ok_one (by kernel_rfl) rfl (okWide_bool_mk Try.underlying4 _))⟩

theorem over : Rows.serialTellsRow.holds Try.pinned (OpenSpec.ofChange Rows.serialTellsSpec) :=
  OpenClaim.holds_of_wide 4 Try.f4 rfl rfl rfl rfl rfl rfl rfl ⟨rfl, rfl, rfl, rfl, rfl⟩ rfl rfl rfl rfl rfl (by kernel_rfl) Try.func4 (by kernel_rfl)
    (of_decide_eq_true (by kernel_rfl)) (by unfold Func.isWrapper; first | (rw [if_pos (by decide +kernel)]; kernel_rfl) | (rw [if_neg (by decide +kernel)]; exact ⟨rfl, rfl⟩))
    (fun os started H enc _ => lifted os started H enc)

/-- ████ THE STATEMENT ████ -/
theorem proved : Rows.SerialTellsSaid :=
  over
#print axioms proved
end Go.Proofs.Ytnmjfeeogphlcaa.serialTells
