/- Proved: for every [2]int and every slice of catwalklaw32.Turn the Go law catwalklaw32.GreCarries returns true, and its arguments read behind the call as they read before. Conditions: none.
The frame of this text follows the kit's own shell of a law's proof; the walk and its lemmas are ours. -/
import Derived.Test.YtkmjpphmciaklaaGre14
import Derived.Deep.LoopGhost
import Derived.Deep.DeepCutAuto
import Derived.Deep.CutBlock
import Derived.WalkKit
import Derived.ProofKit
import Derived.OpenShut
import Derived.ShutString
import Derived.ChangeOld
import Derived.Below
import Derived.Lib.SmallJoins
namespace Go.Proofs.Ytkmjpphmciaklaa.greCarries
open Go.ChangeShapes Go.WideShapes Go.ChangeAt Go.RowKit Go.Joins
open Go.ChangeMaps (open_string shut_string)
set_option linter.unusedVariables false
set_option linter.unusedSimpArgs false
attribute [local go_sem ↓] Go.wp_at_zero Go.wp_at_succ

theorem own : ownKnob Try.prog.godebug = none := by kernel_rfl
theorem laidOut : laidOutB Try.prog = true := by kernel_rfl

def IsRow (k : IntKind) (w : World) (a : Option Addr) (len cap : Nat) (zs : List Int) : Prop :=
  (a = none ∧ len = 0 ∧ cap = 0 ∧ zs = []) ∨
  ∃ x, a = some x ∧ len ≤ cap ∧ cap ≤ maxLen ∧ zs.length = cap ∧ (∀ i, i < zs.length → w.cell? (x.add i) = some (.int k (zs.getD i 0))) ∧ ∀ n ∈ zs, (Lit.int k n).wf = true

set_option maxRecDepth 100000 in
set_option maxHeartbeats 4000000 in
theorem walk (a0_0 : Int) (a0_1 : Int) (a1 : Option Addr) (len1 cap1 : Nat) (w : World) (w0_0 : (Lit.int .i64 a0_0).wf = true) (w0_1 : (Lit.int .i64 a0_1).wf = true) (w1 : OpsT w a1 len1) :
    Calls Try.prog 8 #[.agg #[.int .i64 a0_0, .int .i64 a0_1], .slice a1 len1 cap1] w fun e w' => e = .returned (.bool true) ∧ Below w.heap.size w w' := by
  by_cases hlong : 300 < len1
  · clear w1
    go_enter Try.func8, Try.ntmps8
    go_wp2
    go_ret
    exact ⟨rfl, (Below.refl _ _).alloc (Nat.le_refl _) _⟩
  have hlen : len1 ≤ 300 := by omega
  clear hlong w0_0 w0_1
  have HW1 := Lib.hid w1
  clear w1
  go_enter Try.func8, Try.ntmps8
  go_upto_region 3 with (fail)
  obtain ⟨wx, hwx⟩ : ∃ wx, wx = w.alloc (.cells #[.int .i64 a0_0, .int .i64 a0_1] 71) := ⟨_, rfl⟩
  have hcx : Chg [] w wx := by rw [hwx]; exact (Chg.refl _ _).alloc _
  have hAx : At wx w.heap.size 71 [.int .i64 a0_0, .int .i64 a0_1] := by rw [hwx]; exact At.new w 71 [_, _]
  obtain ⟨gb, hgb⟩ : ∃ gb, gb = w.heap.size := ⟨_, rfl⟩
  rw [← hgb] at hAx
  rw [← hwx, ← hgb]
  have HC := Lib.hid hcx
  have HG := Lib.hid hgb
  have hAd := hAx.drew
  clear hwx hcx hAx hgb
  refine wp_region_phase 9 (fun w' => At w' gb 71 [.int .i64 a0_0, .int .i64 a0_1]) (by kernel_rfl) ?_
  refine wpAnyP_with (by exact hAd) (fun hSw => ?_)
  refine wpAnyP_take 0 [] (v := ?_) rfl (by kernel_rfl) (fun _ _ _ h => h) (by assumption) (Or.inl ⟨by rfl, ?_⟩) ?_
  rotate_left
  · (intro w hSw; (try dsimp only at hSw); obtain ⟨s0, s1, _⟩ := hSw.two; go_simp; try with_reducible rfl)
  simp only [List.getElem_toArray, List.getElem_cons_succ, List.getElem_cons_zero, Act.put, List.setIfInBounds_toArray, List.set_cons_zero, List.set_cons_succ]
  refine wpAnyP_take 1 [] (v := ?_) rfl (by kernel_rfl) (fun _ _ _ h => h) (by assumption) (Or.inl ⟨by rfl, ?_⟩) ?_
  rotate_left
  · (intro w hSw; (try dsimp only at hSw); obtain ⟨s0, s1, _⟩ := hSw.two; go_simp; try with_reducible rfl)
  simp only [List.getElem_toArray, List.getElem_cons_succ, List.getElem_cons_zero, Act.put, List.setIfInBounds_toArray, List.set_cons_zero, List.set_cons_succ]
  refine wpAnyP_take 3 [] (v := ?_) rfl (by kernel_rfl) (fun _ _ _ h => h) (by assumption) (Or.inl ⟨by rfl, ?_⟩) ?_
  rotate_left
  · (intro w hSw; (try dsimp only at hSw); obtain ⟨s0, s1, _⟩ := hSw.two; go_simp; try with_reducible rfl)
  simp only [List.getElem_toArray, List.getElem_cons_succ, List.getElem_cons_zero, Act.put, List.setIfInBounds_toArray, List.set_cons_zero, List.set_cons_succ]
  refine wpAnyP_take 4 [] (v := ?_) rfl (by kernel_rfl) (fun _ _ _ h => h) (by assumption) (Or.inl ⟨by rfl, ?_⟩) ?_
  rotate_left
  · (intro w hSw; (try dsimp only at hSw); obtain ⟨s0, s1, _⟩ := hSw.two; go_simp; try with_reducible rfl)
  simp only [List.getElem_toArray, List.getElem_cons_succ, List.getElem_cons_zero, Act.put, List.setIfInBounds_toArray, List.set_cons_zero, List.set_cons_succ]
  refine wpAnyP_one 2 rfl (by kernel_rfl) (fun K hK => ?_)
  rw [if_pos (by rfl)]
  go_wp2_with ((refine (end_new _ _ _ _).mono ?_; rintro e w2 ⟨q0, F0, rfl, hE0, hc2⟩; have hA2 := hAd.chg hc2 (by simp); have HE0 := Lib.hid hE0; have HC2 := Lib.hid hc2; clear hE0 hc2))
  refine hold_with (by (try dsimp only at hSw); exact hA2) (fun hSn => ?_)
  clear hSw; have hSw := hSn; clear hSn
  refine wpAnyP_one 5 rfl (by kernel_rfl) (fun K hK => ?_)
  rw [if_pos (by rfl)]
  go_wp2_with ((refine (end_new _ _ _ _).mono ?_; rintro e w3 ⟨q1, F1, rfl, hE1, hc3⟩; have hA3 := hA2.chg hc3 (by simp); have HE1 := Lib.hid hE1; have HC3 := Lib.hid hc3; clear hE1 hc3))
  refine hold_with (by (try dsimp only at hSw); exact hA3) (fun hSn => ?_)
  clear hSw; have hSw := hSn; clear hSn
  refine wpAnyP_take 6 [] (v := ?_) rfl (by kernel_rfl) (fun _ _ _ h => h) (by assumption) (Or.inl ⟨by rfl, ?_⟩) ?_
  rotate_left
  · (intro w hSw; (try dsimp only at hSw); obtain ⟨s0, s1, _⟩ := hSw.two; go_simp; try with_reducible rfl)
  simp only [List.getElem_toArray, List.getElem_cons_succ, List.getElem_cons_zero, Act.put, List.setIfInBounds_toArray, List.set_cons_zero, List.set_cons_succ]
  refine wpAnyP_take 7 [] (v := ?_) rfl (by kernel_rfl) (fun _ _ _ h => h) (by assumption) (Or.inl ⟨by rfl, ?_⟩) ?_
  rotate_left
  · (intro w hSw; (try dsimp only at hSw); obtain ⟨s0, s1, _⟩ := hSw.two; go_simp; try with_reducible rfl)
  simp only [List.getElem_toArray, List.getElem_cons_succ, List.getElem_cons_zero, Act.put, List.setIfInBounds_toArray, List.set_cons_zero, List.set_cons_succ]
  refine wpAnyP_one 8 rfl (by kernel_rfl) (fun K hK => ?_)
  rw [if_pos (by rfl)]
  go_wp2_with (fail)
  refine hold_with (by (try dsimp only at hSw); exact hA3.alloc _) (fun hSn => ?_)
  clear hSw; have hSw := hSn; clear hSn
  refine wpAnyP_one 9 rfl (by kernel_rfl) (fun K hK => ?_)
  rw [if_pos (by rfl)]
  go_wp2_with (fail)
  refine ⟨fun hz => (by simp at hz), ?_⟩
  refine wpAnyP_done (by kernel_rfl) ?_ _
  skip
  clear hSw hAd hA2
  have hw1 : w.heap.size ≤ wx.drew.heap.size := HC.out.size
  have hw2 := Nat.le_trans hw1 HC2.out.size
  have hP := newPair_at HE0.out HC3.out HE1.out hw1 hw2
  obtain ⟨wp, hwp⟩ : ∃ wp, wp = w3.alloc (.cells #[.pointer (some ⟨q0, 0, none⟩), .pointer (some ⟨q1, 0, none⟩), .slice none 0 0, .slice none 0 0, .int .i64 0, .int .i64 0, .int .i64 0, .int .i64 0, .int .i64 0] 81) := ⟨_, rfl⟩
  have hcw : Chg [] w wp := by rw [hwp]; exact (((HC.out.drew).trans HC2.out).trans HC3.out).alloc _
  rw [← hwp] at hP ⊢
  obtain ⟨pp, hpp⟩ : ∃ pp, pp = w3.heap.size := ⟨_, rfl⟩
  rw [← hpp] at hP ⊢
  have hAp : At wp pp 81 [.pointer (some ⟨q0, 0, none⟩), .pointer (some ⟨q1, 0, none⟩), .slice none 0 0, .slice none 0 0, .int .i64 0, .int .i64 0, .int .i64 0, .int .i64 0, .int .i64 0] := by rw [hwp, hpp]; exact At.new w3 81 [_, _, _, _, _, _, _, _, _]
  obtain ⟨n0, n1, _⟩ := hAp.nine
  have HP := Lib.hid hP
  have HBW := Lib.hid (hcw.below (Nat.le_refl _) (by simp))
  clear hP hcw hwp hpp hAp hA3 hw1 hw2
  go_wp2_with fail
  clear n0 n1
  go_loopg [6] len1 (fun x s6 wr => ∃ k P, x = len1 - k ∧ k ≤ len1 ∧ s6 = .int .i64 (k : Nat) ∧ PairIs wr w.heap.size pp P ∧ PInv k P ∧ Below w.heap.size w wr)
  case atStart => exact ⟨0, _, rfl, by omega, rfl, HP.out, newPair_inv _ _, HBW.out⟩
  case round =>
    obtain ⟨w9, hw9⟩ : ∃ w9, w9 = wr := ⟨_, rfl⟩
    subst hw9
    obtain ⟨k, P, rfl, hk, rfl, hP9, hinv, hbl⟩ := hrel
    have HPI := Lib.hid (And.intro hP9 hinv)
    have HBL := Lib.hid hbl
    by_cases hkl : k < len1
    · obtain ⟨b, off, kd, nn, fb, rfl, hb, hc0, hc1, hc2, hn0, hn1⟩ := HW1.out k hkl
      have c0 := (hbl.cell (p := ⟨b, off + k * 3, none⟩) hb).trans hc0
      have c1 := (hbl.cell (p := ⟨b, off + k * 3 + 1, none⟩) hb).trans hc1
      have c2 := (hbl.cell (p := ⟨b, off + k * 3 + 2, none⟩) hb).trans hc2
      have hi0 : (0 : Int) ≤ (k : Int) := by omega
      have hi1 : (k : Int) < (len1 : Int) := by omega
      clear hc0 hc1 hc2 hP9 hinv hbl HP HBW
      by_cases q0' : kd < 0
      · go_wp2_with fail
        go_ret
        exact ⟨rfl, HBL.out⟩
      · have hkd : 0 ≤ kd := by omega
        obtain ⟨P', hinv', hcalls⟩ := turn_any w9 w.heap.size pp kd nn fb P k HPI.out.1 HPI.out.2 (by omega) hkd hn1
        have HCL := Lib.hid hcalls
        have HI := Lib.hid hinv'
        clear hcalls hinv' HPI
        go_wp2_with fail
        refine HCL.out.mono ?_
        rintro e w4 ⟨rfl, hP4, hb4⟩
        have HF := Lib.hid (And.intro hP4 (And.intro HI.out (HBL.out.trans hb4)))
        clear hP4 hb4 HCL HI c0 c1 c2
        go_wp2_with fail
        go_roundg (len1 - (k + 1))
        case measure => omega
        case rel => exact ⟨k + 1, P', rfl, by omega, rfl, HF.out⟩
    · obtain rfl : k = len1 := by omega
      clear hP9 hinv hbl HPI HP HBW
      go_wp2_with fail
      refine (alive32_any _).mono ?_
      rintro e w5 ⟨rfl, hch5⟩
      have HC5 := Lib.hid (HBL.out.trans (hch5.below HBL.out.size (by simp)))
      clear hch5
      go_wp2_with fail
      go_ret
      exact ⟨rfl, HC5.out⟩

/-! ### The row's step -/
set_option maxRecDepth 100000 in
theorem lifted (os : Os) (started : os.Started) (H : Type) (enc : TypeId × Value → H) :
    ReturnsInHanded {} Try.checked os 8 .any (Rows.greCarriesSpec.pre6 enc Try.prog Try.f8 Rows.greCarriesRow.domain false) (Rows.greCarriesSpec.post enc Try.prog Try.f8 false true false false) := by
  refine returnsInHanded_of_change (C := Try.checked) own started (by kernel_rfl) Try.func8
    (ChangeSpec.witness6 (enc := enc) (C := Try.checked) false ⟨#[], #[.agg #[.int .i64 0, .int .i64 0], .slice none 0 0], []⟩ 8 (by kernel_rfl) (by kernel_rfl) (by kernel_rfl) (by kernel_rfl)) ?_
  intro W base args ds gs before hval0 hW hcnd _
  have hval : ∀ (j : Nat) t v, Try.f8.params[j]? = some t → args[j]? = some v → Value.okWide Try.prog W .any base t v := hval0
  have hW' := hW
  obtain ⟨p, q, hA0, hV, rfl, hfz, hnd⟩ := hW
  have hA : DataW.TrodAll enc Try.prog W 0 (fun _ => true) true Try.f8.params.toList args.toList ds p := hA0
  rw [Try.params8] at hA hval
  obtain ⟨v0, vs0, d0, ds0, p0, q0, hargs, rfl, rfl, h0, r0⟩ := trodAll_cons hA
  obtain ⟨v1, vs1, d1, ds1, p1, q1, rfl, rfl, rfl, h1, r1⟩ := trodAll_cons r0
  obtain ⟨rfl, rfl, rfl⟩ := trodAll_nil r1
  obtain rfl : args = #[v0, v1] := by cases args; simp_all
  obtain ⟨rfl, rfl⟩ := trodVars_none hV
  have k0 := h0
  have lt0 : ∀ x ∈ p0, x.block < W.heap.size := by obtain ⟨m, hm⟩ := k0; exact DataW.trod_lt m _ _ _ hm
  obtain ⟨a0_0, a0_1, rfl, w0_0, w0_1⟩ := open_arr2 Try.underlying71 Try.underlying3 (by kernel_rfl) (by kernel_rfl) (hval 0 71 v0 rfl rfl) h0
  have k1 := h1
  have lt1 : ∀ x ∈ p1, x.block < W.heap.size := by obtain ⟨m, hm⟩ := k1; exact DataW.trod_lt m _ _ _ hm
  obtain ⟨a1, len1, cap1, rfl⟩ := okWide_slice Try.underlying72 (hval 1 72 v1 rfl rfl)
  have w1 : OpsT W a1 len1 := by
    obtain ⟨fuel, hf⟩ := h1
    exact opsT_of Try.underlying72 Try.underlying83 (by kernel_rfl) (by kernel_rfl) Try.underlying3 Try.underlying3 Try.underlying4 hf
  clear hA0 hval0
  refine (walk a0_0 a0_1 a1 len1 cap1 W w0_0 w0_1 w1).mono fun e W' ⟨he, bel⟩ => ?_
  subst he
  exact ⟨_, rfl, _, _, _, [], _, [], hW', trodAll_mk1 (shut_bool Try.underlying4 _), (trodAll_cons_mk (Below.trod laidOut (by kernel_rfl) (of_decide_eq_true (by kernel_rfl)) k0 bel lt0) (trodAll_cons_mk (Below.trod laidOut (by kernel_rfl) (of_decide_eq_true (by kernel_rfl)) k1 bel lt1) trodAll_mk0)), rfl, bel.frame _, fun h => by cases h⟩

theorem over : Rows.greCarriesRow.holds Try.pinned (OpenSpec.ofChange Rows.greCarriesSpec) :=
  OpenClaim.holds_of_wide 8 Try.f8 rfl rfl rfl rfl rfl rfl rfl ⟨rfl, rfl, rfl, rfl, rfl⟩ rfl rfl rfl rfl rfl (by kernel_rfl) Try.func8 (by kernel_rfl)
    (of_decide_eq_true (by kernel_rfl)) (by unfold Func.isWrapper; first | (rw [if_pos (by decide +kernel)]; kernel_rfl) | (rw [if_neg (by decide +kernel)]; exact ⟨rfl, rfl⟩))
    (fun os started H enc _ => lifted os started H enc)

/-- The statement. -/
theorem proved : Rows.GreCarriesSaid := over
#print axioms proved
end Go.Proofs.Ytkmjpphmciaklaa.greCarries
