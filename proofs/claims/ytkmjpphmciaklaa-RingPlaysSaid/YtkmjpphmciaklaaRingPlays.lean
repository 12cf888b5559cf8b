/- Proved: for every int and every slice of catwalklaw07.Op the Go law catwalklaw07.RingPlays returns true, and its arguments read behind the call as they read before. Conditions: none.
The frame of this text follows the kit's own shell of a law's proof; the walk and its lemmas are ours. -/
import Derived.Test.YtkmjpphmciaklaaRingP4
import Derived.Test.YtkmjpphmciaklaaStructs
import Derived.Deep.LoopGhost
import Derived.Deep.DeepCutAuto
import Derived.Deep.CutBlock
import Derived.WalkKit
import Derived.ProofKit
import Derived.OpenShut
import Derived.ShutString
import Derived.ChangeOld
import Derived.Below
import Derived.Lib.SmallJoins
namespace Go.Proofs.Ytkmjpphmciaklaa.ringPlays
open Go.ChangeShapes Go.WideShapes Go.ChangeAt Go.RowKit Go.Joins
open Go.ChangeMaps (open_string shut_string)
set_option linter.unusedVariables false
set_option linter.unusedSimpArgs false
attribute [local go_sem ↓] Go.wp_at_zero Go.wp_at_succ

theorem own : ownKnob Try.prog.godebug = none := by kernel_rfl
theorem laidOut : laidOutB Try.prog = true := by kernel_rfl

def IsRow (k : IntKind) (w : World) (a : Option Addr) (len cap : Nat) (zs : List Int) : Prop :=
  (a = none ∧ len = 0 ∧ cap = 0 ∧ zs = []) ∨
  ∃ x, a = some x ∧ len ≤ cap ∧ cap ≤ maxLen ∧ zs.length = cap ∧ (∀ i, i < zs.length → w.cell? (x.add i) = some (.int k (zs.getD i 0))) ∧ ∀ n ∈ zs, (Lit.int k n).wf = true

/-- The loop's relation: the ring and the row hold the same. -/
def PlayR (p g N : Nat) (k : Nat) (v : Value) (w wr : World) : Prop :=
  ∃ l fr, RI.Ring wr p g N fr (ints l) ∧ IntS (fun b => b ≠ p ∧ b ≠ g) wr v l ∧ Below w.heap.size w wr

set_option maxRecDepth 100000 in
set_option maxHeartbeats 4000000 in
theorem walk (a0 : Int) (a1 : Option Addr) (len1 cap1 : Nat) (w : World) (w0 : (Lit.int .i64 a0).wf = true) (w1 : Ops2 w a1 len1) :
    Calls Try.prog 4 #[.int .i64 a0, .slice a1 len1 cap1] w fun e w' => e = .returned (.bool true) ∧ Below w.heap.size w w' := by
  by_cases hlong : 200 < len1
  · clear w1
    go_enter Try.func4, Try.ntmps4
    go_wp2
    go_ret
    exact ⟨rfl, Below.refl _ _⟩
  have hlen : len1 ≤ 200 := by omega
  clear hlong w0
  have HW1 := Lib.hid w1
  clear w1
  go_enter Try.func4, Try.ntmps4
  go_wp2_with fail
  refine (RI.new_any a0 w).mono ?_
  obtain ⟨N, hN⟩ : ∃ N, N = (min (max a0 0) 4096).toNat := ⟨_, rfl⟩
  rw [← hN]
  have hNi : min (max a0 0) 4096 = (N : Int) := by omega
  have hN4 : N ≤ 4096 := by omega
  rintro e wa ⟨p, g, rfl, hp, hg, hrc, hch⟩
  have HS := Lib.hid (show PlayR p g N 0 (.slice none 0 0) w wa from ⟨[], 0, hrc, IntS.nil _ _, hch.below (Nat.le_refl _) (by simp)⟩)
  have hwp : w.heap.size ≤ p ∧ w.heap.size ≤ g := ⟨hp, hg⟩
  have hme : (a0 < 0 ∧ N = 0) ∨ (4096 < a0 ∧ N = 4096) ∨ (0 ≤ a0 ∧ a0 ≤ 4096 ∧ a0 = N) := by omega
  have HME := Lib.hid hme
  have HNI := Lib.hid hNi
  clear hrc hch hN hNi hme hp hg
  go_upto_region 6 with (fail)
  go_cut [0] (fun s0 wr => s0 = .int .i64 (N : Int) ∧ wr = wa)
  case first =>
    by_cases q0 : a0 < 0
    · go_wp2_with fail
      go_meet
      exact ⟨by have := HME.out; simp; omega, rfl⟩
    · by_cases q1 : 4096 < a0
      · go_wp2_with fail
        go_meet
        exact ⟨by have := HME.out; simp; omega, rfl⟩
      · go_wp2_with fail
        go_meet
        exact ⟨by have := HME.out; simp; omega, rfl⟩
  case rest =>
  obtain ⟨rfl, rfl⟩ := hcut
  go_wp2_with fail
  go_loopg [6, 7, 8, 9] len1 (fun x s6 s7 s8 s9 wr => ∃ k v6, x = len1 - k ∧ k ≤ len1 ∧ s7 = .int .i64 (k : Nat) ∧ v6 = s6 ∧ PlayR p g N k v6 w wr)
  case atStart => exact ⟨0, _, rfl, by omega, rfl, rfl, HS.out⟩
  case round =>
    obtain ⟨w9, hw9⟩ : ∃ w9, w9 = wr := ⟨_, rfl⟩
    subst hw9
    obtain ⟨k, v6, rfl, hk, rfl, hs6, hst⟩ := hrel
    subst hs6
    by_cases hkl : k < len1
    · obtain ⟨b, off, kd, n, rfl, hb, hc0, hc1, _, _⟩ := HW1.out k hkl
      obtain ⟨l, fr, hr, hv, hbl⟩ := hst
      have c0 := (hbl.cell (p := ⟨b, off + k * 2, none⟩) hb).trans hc0
      have c1 := (hbl.cell (p := ⟨b, off + k * 2 + 1, none⟩) hb).trans hc1
      have hi0 : (0 : Int) ≤ (k : Int) := by omega
      have hi1 : (k : Int) < (len1 : Int) := by omega
      have HBL := Lib.hid hbl
      by_cases q0 : kd < 0
      · clear hr hv hbl hc0 hc1 HS
        go_wp2_with fail
        go_ret
        exact ⟨rfl, HBL.out⟩
      · have CT := Lib.hid (step_any w9 p g N fr l v6 kd n hr hv (by omega))
        clear hr hv hbl hc0 hc1 HS
        go_wp2_with fail
        refine CT.out.mono ?_
        rintro e w2 ⟨v', rfl, ⟨fr', hr2⟩, hv2, hc2⟩
        have hb2 : Below w.heap.size w w2 := HBL.out.trans (hc2.below HBL.out.size (by simp; omega))
        obtain ⟨l2, hl2⟩ : ∃ l2, l2 = stepF N kd n l := ⟨_, rfl⟩
        rw [← hl2] at hr2 hv2
        obtain ⟨A2, cc2, rfl, hle2⟩ := hv2.form
        have hil : (ints l2).length = l2.length := by simp [ints]
        have hfit := hr2.fits
        rw [hil] at hfit
        have CT1 := RI.len_any w2 p g N fr' _ hr2
        have CT2 := RI.room_any w2 p g N fr' _ hr2
        rw [hil] at CT1 CT2
        rw [show ((N - l2.length : Nat) : Int) = (N : Int) - (l2.length : Nat) from by omega] at CT2
        have hwr : IntKind.i64.wrap ((N : Int) - (l2.length : Nat)) = (N : Int) - (l2.length : Nat) := IntWalk.i64_in _ (by omega)
        have HC1 := Lib.hid CT1
        have HC2 := Lib.hid CT2
        have HR2 := Lib.hid hr2
        have HV2 := Lib.hid hv2
        have HB2 := Lib.hid hb2
        have HFIT := Lib.hid hfit
        clear CT CT1 CT2 hr2 hv2 hc2 hb2 HBL hl2 c0 c1 hfit hil
        go_wp2_with fail
        refine HC1.out.mono ?_
        rintro e w3 ⟨rfl, rfl⟩
        go_wp2_with fail
        refine HC2.out.mono ?_
        rintro e w3 ⟨rfl, m, rfl⟩
        have hch3 : Chg [] w2 (w2.drewN m) := (Chg.refl [] w2).drewN m
        have CT3 := Lib.hid (all_in p g N fr' l2 (w2.drewN m) (HR2.out.keep hch3) (by have := HFIT.out; omega))
        have HV3 := Lib.hid (HV2.out.chg hch3 (by simp))
        have HR3 := Lib.hid (HR2.out.keep hch3)
        have HB3 := Lib.hid (HB2.out.trans (hch3.below HB2.out.size (by simp)))
        obtain ⟨w4, hw4⟩ : ∃ w4, w4 = w2.drewN m := ⟨_, rfl⟩
        rw [← hw4] at CT3 HV3 HR3 HB3 ⊢
        clear hch3 hw4 HC1 HC2 HV2 HR2 HB2
        go_wp2_with fail
        refine CT3.out.mono ?_
        rintro e w5 ⟨v5, rfl, hown, hbel⟩
        have hch5 := Chg.of_below hbel
        have HV5 := Lib.hid (HV3.out.chg hch5 (by simp))
        have HR5 := Lib.hid (HR3.out.keep hch5)
        have HB5 := Lib.hid (HB3.out.trans (hch5.below HB3.out.size (by simp)))
        have CT4 := Lib.hid (same20 v5 _ l2 w5 (ints_of_row hown) HV5.out (by have := HFIT.out; omega))
        clear hown hbel hch5 CT3 HV3 HR3 HB3
        go_wp2_with fail
        refine CT4.out.mono ?_
        rintro e w6 ⟨rfl, hdr⟩
        have hch6 := hdr.chg []
        have HST := Lib.hid (show PlayR p g N (k + 1) (.slice A2 l2.length cc2) w w6 from ⟨l2, fr', HR5.out.keep hch6, HV5.out.chg hch6 (by simp), HB5.out.trans (hch6.below HB5.out.size (by simp))⟩)
        clear hdr hch6 CT4 HV5 HR5 HB5
        go_wp2_with fail
        go_roundg (len1 - (k + 1))
        case measure => omega
        case rel => exact ⟨k + 1, _, rfl, by omega, rfl, rfl, HST.out⟩
    · obtain rfl : k = len1 := by omega
      obtain ⟨l, fr, hr, hv, hbl⟩ := hst
      have HBL := Lib.hid hbl
      clear hr hv hbl HS
      go_wp2_with fail
      refine (alive07_any _).mono ?_
      rintro e w5 ⟨rfl, hch5⟩
      have HC5 := Lib.hid (HBL.out.trans (hch5.below HBL.out.size (by simp)))
      clear hch5
      go_wp2_with fail
      go_ret
      exact ⟨rfl, HC5.out⟩

/-! ### The row's step -/
set_option maxRecDepth 100000 in
theorem lifted (os : Os) (started : os.Started) (H : Type) (enc : TypeId × Value → H) :
    ReturnsInHanded {} Try.checked os 4 .any (Rows.ringPlaysSpec.pre6 enc Try.prog Try.f4 Rows.ringPlaysRow.domain false) (Rows.ringPlaysSpec.post enc Try.prog Try.f4 false true false false) := by
  refine returnsInHanded_of_change (C := Try.checked) own started (by kernel_rfl) Try.func4
    (ChangeSpec.witness6 (enc := enc) (C := Try.checked) false ⟨#[], #[.int .i64 0, .slice none 0 0], []⟩ 8 (by kernel_rfl) (by kernel_rfl) (by kernel_rfl) (by kernel_rfl)) ?_
  intro W base args ds gs before hval0 hW hcnd _
  have hval : ∀ (j : Nat) t v, Try.f4.params[j]? = some t → args[j]? = some v → Value.okWide Try.prog W .any base t v := hval0
  have hW' := hW
  obtain ⟨p, q, hA0, hV, rfl, hfz, hnd⟩ := hW
  have hA : DataW.TrodAll enc Try.prog W 0 (fun _ => true) true Try.f4.params.toList args.toList ds p := hA0
  rw [Try.params4] at hA hval
  obtain ⟨v0, vs0, d0, ds0, p0, q0, hargs, rfl, rfl, h0, r0⟩ := trodAll_cons hA
  obtain ⟨v1, vs1, d1, ds1, p1, q1, rfl, rfl, rfl, h1, r1⟩ := trodAll_cons r0
  obtain ⟨rfl, rfl, rfl⟩ := trodAll_nil r1
  obtain rfl : args = #[v0, v1] := by cases args; simp_all
  obtain ⟨rfl, rfl⟩ := trodVars_none hV
  obtain ⟨a0, rfl, rfl, rfl, w0⟩ := open_int Try.underlying3 (hval 0 3 v0 rfl rfl) h0
  have k1 := h1
  have lt1 : ∀ x ∈ p1, x.block < W.heap.size := by obtain ⟨m, hm⟩ := k1; exact DataW.trod_lt m _ _ _ hm
  obtain ⟨a1, len1, cap1, rfl⟩ := okWide_slice Try.underlying35 (hval 1 35 v1 rfl rfl)
  have w1 : Ops2 W a1 len1 := by
    obtain ⟨fuel, hf⟩ := h1
    exact ops2_of Try.underlying35 Try.underlying39 (by kernel_rfl) (by kernel_rfl) Try.underlying3 Try.underlying3 hf
  clear hA0 hval0
  refine (walk a0 a1 len1 cap1 W w0 w1).mono fun e W' ⟨he, bel⟩ => ?_
  subst he
  exact ⟨_, rfl, _, _, _, [], _, [], hW', trodAll_mk1 (shut_bool Try.underlying4 _), (trodAll_cons_mk (shut_int Try.underlying3 w0) (trodAll_cons_mk (Below.trod laidOut (by kernel_rfl) (of_decide_eq_true (by kernel_rfl)) k1 bel lt1) trodAll_mk0)), rfl, bel.frame _, fun h => by cases h⟩

theorem over : Rows.ringPlaysRow.holds Try.pinned (OpenSpec.ofChange Rows.ringPlaysSpec) :=
  OpenClaim.holds_of_wide 4 Try.f4 rfl rfl rfl rfl rfl rfl rfl ⟨rfl, rfl, rfl, rfl, rfl⟩ rfl rfl rfl rfl rfl (by kernel_rfl) Try.func4 (by kernel_rfl)
    (of_decide_eq_true (by kernel_rfl)) (by unfold Func.isWrapper; first | (rw [if_pos (by decide +kernel)]; kernel_rfl) | (rw [if_neg (by decide +kernel)]; exact ⟨rfl, rfl⟩))
    (fun os started H enc _ => lifted os started H enc)

/-- The statement. -/
theorem proved : Rows.RingPlaysSaid := over
#print axioms proved
end Go.Proofs.Ytkmjpphmciaklaa.ringPlays
