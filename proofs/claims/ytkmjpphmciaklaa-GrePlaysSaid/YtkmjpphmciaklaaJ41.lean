/- Proved: for every catwalklaw32.Start and every slice of catwalklaw32.Op the Go law catwalklaw32.GrePlays returns true, and its arguments read behind the call as they read before. Conditions: none.
The frame of this text follows the kit's own shell of a law's proof; the walk and its lemmas are ours. -/
import Derived.Test.YtkmjpphmciaklaaJ40
import Derived.Deep.LoopGhost
import Derived.Deep.DeepCutAuto
import Derived.Deep.CutBlock
import Derived.WalkKit
import Derived.ProofKit
import Derived.OpenShut
import Derived.ShutString
import Derived.ChangeOld
import Derived.Below
import Derived.Lib.SmallJoins
namespace Go.Proofs.Ytkmjpphmciaklaa.grePlays
open Go.ChangeShapes Go.WideShapes Go.ChangeAt Go.RowKit Go.Joins
open Go.ChangeMaps (open_string shut_string)
set_option linter.unusedVariables false
set_option linter.unusedSimpArgs false
attribute [local go_sem ↓] Go.wp_at_zero Go.wp_at_succ

theorem own : ownKnob Try.prog.godebug = none := by kernel_rfl
theorem laidOut : laidOutB Try.prog = true := by kernel_rfl

def IsRow (k : IntKind) (w : World) (a : Option Addr) (len cap : Nat) (zs : List Int) : Prop :=
  (a = none ∧ len = 0 ∧ cap = 0 ∧ zs = []) ∨
  ∃ x, a = some x ∧ len ≤ cap ∧ cap ≤ maxLen ∧ zs.length = cap ∧ (∀ i, i < zs.length → w.cell? (x.add i) = some (.int k (zs.getD i 0))) ∧ ∀ n ∈ zs, (Lit.int k n).wf = true

set_option maxRecDepth 100000 in
set_option maxHeartbeats 4000000 in
theorem walk (a0_0 : Int) (a0_1 : Int) (a0_2 : Int) (a1 : Option Addr) (len1 cap1 : Nat) (w : World) (w0_0 : (Lit.int .u16 a0_0).wf = true) (w0_1 : (Lit.int .i64 a0_1).wf = true) (w0_2 : (Lit.int .i64 a0_2).wf = true) (w1 : OpsG w a1 len1) :
    Calls Try.prog 10 #[.agg #[.int .u16 a0_0, .int .i64 a0_1, .int .i64 a0_2], .slice a1 len1 cap1] w fun e w' => e = .returned (.bool true) ∧ Below w.heap.size w w' := by
  by_cases hlong : 100 < len1
  · clear w1
    go_enter Try.func10, Try.ntmps10
    go_wp2
    go_ret
    exact ⟨rfl, (Below.refl _ _).alloc (Nat.le_refl _) _⟩
  have hlen : len1 ≤ 100 := by omega
  clear hlong w0_0 w0_1 w0_2
  have HW1 := Lib.hid w1
  clear w1
  go_enter Try.func10, Try.ntmps10
  go_upto_region 3 with (fail)
  obtain ⟨wx, hwx⟩ : ∃ wx, wx = w.alloc (.cells #[.int .u16 a0_0, .int .i64 a0_1, .int .i64 a0_2] 88) := ⟨_, rfl⟩
  have hcx : Chg [] w wx := by rw [hwx]; exact (Chg.refl _ _).alloc _
  have hAx : At wx w.heap.size 88 [.int .u16 a0_0, .int .i64 a0_1, .int .i64 a0_2] := by rw [hwx]; exact At.new w 88 [_, _, _]
  obtain ⟨gb, hgb⟩ : ∃ gb, gb = w.heap.size := ⟨_, rfl⟩
  rw [← hgb] at hAx
  rw [← hwx, ← hgb]
  have HC := Lib.hid hcx
  obtain ⟨n0, n1, n2, _⟩ := hAx.three
  have HA := Lib.hid hAx
  clear hwx hcx hAx hgb
  go_wp2_with fail
  refine (end_new _ _ _ _).mono ?_
  rintro e w2 ⟨qe, F0, rfl, hE, hc2⟩
  obtain ⟨m0, m1, m2, _⟩ := (HA.out.chg hc2 (by simp)).three
  have HE := Lib.hid hE
  have HC2 := Lib.hid hc2
  clear n0 n1 n2 hE hc2
  go_wp2_with fail
  refine (re_new _ _ _ _).mono ?_
  rintro e w3 ⟨q, p, rq, rfl, hR, hc3⟩
  obtain ⟨B, hB⟩ : ∃ B, B = wx.heap.size := ⟨_, rfl⟩
  have hE := HE.out
  rw [← hB] at hE
  have h2 := start2 hE hR (by rw [hB]; exact HC2.out.size) hc3
  have hwB : w.heap.size ≤ B := by rw [hB]; exact HC.out.size
  have H2 := Lib.hid h2
  have HBW := Lib.hid (((HC.out.trans HC2.out).trans hc3).below (Nat.le_refl _) (by simp))
  clear hR hc3 hE h2 m0 m1 m2 hB HC HC2 HE HA
  go_wp2_with fail
  go_loopg [7, 8] len1 (fun x s7 s8 wr => ∃ (k : Nat) (now : Int) (E : End) (F G : List Nat), x = len1 - k ∧ k ≤ len1 ∧ s7 = .int .i64 now ∧ s8 = .int .i64 (k : Nat) ∧ 0 ≤ now ∧ now ≤ 100 * k ∧ EInv k now E ∧ Small E ∧ Both2 wr B qe q F G E E ∧ Below w.heap.size w wr)
  case atStart => exact ⟨0, 0, _, _, _, rfl, by omega, rfl, rfl, by omega, by omega, newEnd_inv _ _ _, newEnd_small _ _ _, H2.out, HBW.out⟩
  case round =>
    obtain ⟨w9, hw9⟩ : ∃ w9, w9 = wr := ⟨_, rfl⟩
    subst hw9
    obtain ⟨k, now, E, F, G, rfl, hk, rfl, rfl, hn0, hn1, hinv, hsm, hB2, hbl⟩ := hrel
    by_cases hkl : k < len1
    · obtain ⟨b, off, kd, n, ack, tk, hx, vB, d, rfl, hb, hc0, hc1, hc2, hc3, hc4, hc5, hd⟩ := HW1.out k hkl
      obtain ⟨A, bc, rfl⟩ := hd.slice'
      have c0 := (hbl.cell (p := ⟨b, off + k * 6, none⟩) hb).trans hc0
      have c1 := (hbl.cell (p := ⟨b, off + k * 6 + 1, none⟩) hb).trans hc1
      have c2 := (hbl.cell (p := ⟨b, off + k * 6 + 2, none⟩) hb).trans hc2
      have c3 := (hbl.cell (p := ⟨b, off + k * 6 + 3, none⟩) hb).trans hc3
      have c4 := (hbl.cell (p := ⟨b, off + k * 6 + 4, none⟩) hb).trans hc4
      have c5 := (hbl.cell (p := ⟨b, off + k * 6 + 5, none⟩) hb).trans hc5
      have hdw : BytS (· < B) w9 (.slice A d.length bc) d := (hd.chg (Chg.of_below hbl) (by simp)).mono (fun g _ hg => Nat.lt_of_lt_of_le hg hwB)
      have hi0 : (0 : Int) ≤ (k : Int) := by omega
      have hi1 : (k : Int) < (len1 : Int) := by omega
      have HINV := Lib.hid (And.intro hinv hsm)
      have HBO := Lib.hid hB2
      have HBL := Lib.hid hbl
      have HD := Lib.hid hdw
      clear hc0 hc1 hc2 hc3 hc4 hc5 hd hinv hsm hB2 hbl hdw H2 HBW
      go_upto_region 12 with (fail)
      obtain ⟨wy, hwy⟩ : ∃ wy, wy = w9.alloc (.cells #[.int .i64 kd, .int .i64 n, .int .i64 ack, .int .i64 tk, .bool hx, .slice A d.length bc] 93) := ⟨_, rfl⟩
      have hay : At wy w9.heap.size 93 [.int .i64 kd, .int .i64 n, .int .i64 ack, .int .i64 tk, .bool hx, .slice A d.length bc] := by rw [hwy]; exact At.new _ _ [_, _, _, _, _, _]
      have hcy : Chg [] w9 wy := by rw [hwy]; exact (Chg.refl [] _).alloc _
      rw [← hwy]
      obtain ⟨g9, hg9⟩ : ∃ g9, g9 = w9.heap.size := ⟨_, rfl⟩
      rw [← hg9] at hay ⊢
      obtain ⟨x0, x1, x2, x3, x4, x5, _⟩ := hay.six
      have HBY := Lib.hid (HBO.out.keep hcy)
      have HDY := Lib.hid (HD.out.chg hcy (by simp))
      have HBLY := Lib.hid (HBL.out.trans (hcy.below HBL.out.size (by simp)))
      clear hwy hcy hay hg9 c0 c1 c2 c3 c4 c5 HBO HD HBL
      by_cases q0 : kd < 0
      · go_wp2_with fail
        go_ret
        exact ⟨rfl, HBLY.out⟩
      by_cases q1 : tk < 0
      · go_wp2_with fail
        go_ret
        exact ⟨rfl, HBLY.out⟩
      by_cases q2 : 100 < tk
      · go_wp2_with fail
        go_ret
        exact ⟨rfl, HBLY.out⟩
      by_cases q3 : 2000 < d.length
      · have q3' : (2000 : Int) < (d.length : Nat) := by omega
        go_wp2_with fail
        go_ret
        exact ⟨rfl, HBLY.out⟩
      have q3' : ¬ (2000 : Int) < (d.length : Nat) := by omega
      by_cases q4 : 1073741824 ≤ n
      · go_wp2_with fail
        go_ret
        exact ⟨rfl, HBLY.out⟩
      by_cases q5 : n ≤ -1073741824
      · go_wp2_with fail
        go_ret
        exact ⟨rfl, HBLY.out⟩
      obtain ⟨now', hnow'⟩ : ∃ z, z = now + tk := ⟨_, rfl⟩
      have r0 : 0 ≤ now' := by omega
      have r1 : now' ≤ 100 * (k + 1 : Nat) := by omega
      have CS := Lib.hid (step32_any wy B qe q k F G E kd n ack tk hx A bc d now' HBY.out (HINV.out.1.mono (Nat.le_refl _) (by omega)) HINV.out.2 (by omega) r0 (by omega) (by omega) HDY.out (by omega))
      go_upto_region 15 with (fail)
      rw [← hnow']
      clear hnow' HINV HBY HDY
      go_wp2_with fail
      refine CS.out.mono ?_
      rintro e w4 ⟨rfl, E', F', G', hI4, hS4, hB4, hb4⟩
      obtain ⟨p4, vw4, va4, rq4, v4, _, hRE4⟩ := hB4.r
      have CT := Lib.hid (told45 w4 B qe F' E' q p4 vw4 va4 rq4 v4 hB4.e hRE4 hI4.airs hI4.s.win.2.1)
      have HF := Lib.hid (And.intro hI4 (And.intro hS4 (And.intro hB4 (HBLY.out.trans (hb4.mono hwB)))))
      clear hI4 hS4 hB4 hb4 hRE4 CS x0 x1 x2 x3 x4 x5 HBLY
      go_wp2_with fail
      refine CT.out.mono ?_
      rintro e w5 ⟨rfl, hc5⟩
      have HG := Lib.hid (And.intro (HF.out.2.2.1.keep hc5) (HF.out.2.2.2.trans (hc5.below HF.out.2.2.2.size (by simp))))
      clear hc5 CT
      go_wp2_with fail
      go_roundg (len1 - (k + 1))
      case measure => omega
      case rel => exact ⟨k + 1, now', E', F', G', rfl, by omega, rfl, rfl, r0, r1, HF.out.1, HF.out.2.1, HG.out⟩
    · obtain rfl : k = len1 := by omega
      have HB := Lib.hid hbl
      clear hinv hsm hB2 hbl H2 HBW
      go_wp2_with fail
      refine (alive32_any _).mono ?_
      rintro e w5 ⟨rfl, hch5⟩
      have HC5 := Lib.hid (HB.out.trans (hch5.below HB.out.size (by simp)))
      clear hch5
      go_wp2_with fail
      go_ret
      exact ⟨rfl, HC5.out⟩

/-! ### The row's step -/
set_option maxRecDepth 100000 in
theorem lifted (os : Os) (started : os.Started) (H : Type) (enc : TypeId × Value → H) :
    ReturnsInHanded {} Try.checked os 10 .any (Rows.grePlaysSpec.pre6 enc Try.prog Try.f10 Rows.grePlaysRow.domain false) (Rows.grePlaysSpec.post enc Try.prog Try.f10 false true false false) := by
  refine returnsInHanded_of_change (C := Try.checked) own started (by kernel_rfl) Try.func10
    (ChangeSpec.witness6 (enc := enc) (C := Try.checked) false ⟨#[], #[.agg #[.int .u16 0, .int .i64 0, .int .i64 0], .slice none 0 0], []⟩ 8 (by kernel_rfl) (by kernel_rfl) (by kernel_rfl) (by kernel_rfl)) ?_
  intro W base args ds gs before hval0 hW hcnd _
  have hval : ∀ (j : Nat) t v, Try.f10.params[j]? = some t → args[j]? = some v → Value.okWide Try.prog W .any base t v := hval0
  have hW' := hW
  obtain ⟨p, q, hA0, hV, rfl, hfz, hnd⟩ := hW
  have hA : DataW.TrodAll enc Try.prog W 0 (fun _ => true) true Try.f10.params.toList args.toList ds p := hA0
  rw [Try.params10] at hA hval
  obtain ⟨v0, vs0, d0, ds0, p0, q0, hargs, rfl, rfl, h0, r0⟩ := trodAll_cons hA
  obtain ⟨v1, vs1, d1, ds1, p1, q1, rfl, rfl, rfl, h1, r1⟩ := trodAll_cons r0
  obtain ⟨rfl, rfl, rfl⟩ := trodAll_nil r1
  obtain rfl : args = #[v0, v1] := by cases args; simp_all
  obtain ⟨rfl, rfl⟩ := trodVars_none hV
  have k0 := h0
  have lt0 : ∀ x ∈ p0, x.block < W.heap.size := by obtain ⟨m, hm⟩ := k0; exact DataW.trod_lt m _ _ _ hm
  obtain ⟨c0_0, c0_1, c0_2, y0_0, y0_1, y0_2, m0, rfl, _, _, t0_0, t0_1, t0_2⟩ := open_agg3 Try.underlying88 (by kernel_rfl) (by kernel_rfl) (hval 0 88 v0 rfl rfl) h0
  obtain ⟨a0_0, e0_0, _, w0_0⟩ := DataW.trod_int Try.underlying76 t0_0
  simp at e0_0; subst e0_0
  obtain ⟨a0_1, e0_1, _, w0_1⟩ := DataW.trod_int Try.underlying3 t0_1
  simp at e0_1; subst e0_1
  obtain ⟨a0_2, e0_2, _, w0_2⟩ := DataW.trod_int Try.underlying3 t0_2
  simp at e0_2; subst e0_2
  have k1 := h1
  have lt1 : ∀ x ∈ p1, x.block < W.heap.size := by obtain ⟨m, hm⟩ := k1; exact DataW.trod_lt m _ _ _ hm
  obtain ⟨a1, len1, cap1, rfl⟩ := okWide_slice Try.underlying89 (hval 1 89 v1 rfl rfl)
  have w1 : OpsG W a1 len1 := by
    obtain ⟨fuel, hf⟩ := h1
    exact opsG_of Try.underlying89 Try.underlying93 (by kernel_rfl) (by kernel_rfl) Try.underlying3 Try.underlying3 Try.underlying3 Try.underlying3 Try.underlying4 Try.underlying29 Try.underlying5 (by kernel_rfl) hf
  clear hA0 hval0
  refine (walk a0_0 a0_1 a0_2 a1 len1 cap1 W w0_0 w0_1 w0_2 w1).mono fun e W' ⟨he, bel⟩ => ?_
  subst he
  exact ⟨_, rfl, _, _, _, [], _, [], hW', trodAll_mk1 (shut_bool Try.underlying4 _), (trodAll_cons_mk (Below.trod laidOut (by kernel_rfl) (of_decide_eq_true (by kernel_rfl)) k0 bel lt0) (trodAll_cons_mk (Below.trod laidOut (by kernel_rfl) (of_decide_eq_true (by kernel_rfl)) k1 bel lt1) trodAll_mk0)), rfl, bel.frame _, fun h => by cases h⟩

theorem over : Rows.grePlaysRow.holds Try.pinned (OpenSpec.ofChange Rows.grePlaysSpec) :=
  OpenClaim.holds_of_wide 10 Try.f10 rfl rfl rfl rfl rfl rfl rfl ⟨rfl, rfl, rfl, rfl, rfl⟩ rfl rfl rfl rfl rfl (by kernel_rfl) Try.func10 (by kernel_rfl)
    (of_decide_eq_true (by kernel_rfl)) (by unfold Func.isWrapper; first | (rw [if_pos (by decide +kernel)]; kernel_rfl) | (rw [if_neg (by decide +kernel)]; exact ⟨rfl, rfl⟩))
    (fun os started H enc _ => lifted os started H enc)

/-- The statement. -/
theorem proved : Rows.GrePlaysSaid := over
#print axioms proved
end Go.Proofs.Ytkmjpphmciaklaa.grePlays
