/- Proved: for every int and every slice of ints the Go law catwalklaw20.WinPlays returns true, and its arguments read behind the call as they read before. Conditions: none.
The frame of this text was written by the kit's proof-skeleton program; the walk and its lemmas are ours. -/
import Derived.Test.YtnmjfeeogphlcaaWinWalks
import Derived.Test.YtnmjfeeogphlcaaRow
import Derived.Test.YtnmjfeeogphlcaaPhase
import Derived.WalkKit
import Derived.ProofKit
import Derived.OpenShut
import Derived.ShutString
import Derived.ChangeOld
import Derived.Below
namespace Go.Proofs.Ytnmjfeeogphlcaa.winPlays
open Go.ChangeShapes Go.WideShapes Go.ChangeAt Go.RowKit
open Go.ChangeMaps (open_string shut_string)
set_option linter.unusedVariables false
set_option linter.unusedSimpArgs false
attribute [local go_sem ↓] Go.wp_at_zero Go.wp_at_succ

theorem own : ownKnob Try.prog.godebug = none := by kernel_rfl
theorem laidOut : laidOutB Try.prog = true := by kernel_rfl

/-- WHAT THE WALK IS TOLD OF A SLICE OF INTEGERS THAT CAME IN: it is nil; or it leads to a row of 'cap' cells, the numbers 'zs' (the first 'len' are its elements, the rest its spare room), each fitting its kind. -/
def IsRow (k : IntKind) (w : World) (a : Option Addr) (len cap : Nat) (zs : List Int) : Prop :=
  (a = none ∧ len = 0 ∧ cap = 0 ∧ zs = []) ∨
  ∃ x, a = some x ∧ len ≤ cap ∧ cap ≤ maxLen ∧ zs.length = cap ∧ (∀ i, i < zs.length → w.cell? (x.add i) = some (.int k (zs.getD i 0))) ∧ ∀ n ∈ zs, (Lit.int k n).wf = true

/-! ### STEP 1: THE WALK: the Go text returns true, AND WRITES NOTHING THAT WAS THERE: 'Below w.heap.size w w'' (Derived/Below.lean: '.refl', '.alloc', '.drew', '.setCell' at a new block, '.trans'). Open each 'IsRow' by 'rcases' AHEAD of 'go_enter'; part every test ahead of the walk. -/
/-- What holds of the two windows, and of memory. -/
def WinSt (b5 b6 : Nat) (s a mo : Int) (w wr : World) : Prop :=
  Win s a mo ∧ At wr b5 57 [.int .i64 s, .int .i64 mo, .int .i64 a] ∧ At wr b6 60 [.int .i64 s, .int .i64 a, .int .i64 mo] ∧ Below w.heap.size w wr
def WinSome (b5 b6 : Nat) (w wr : World) : Prop := ∃ s a mo, WinSt b5 b6 s a mo w wr

set_option maxRecDepth 100000 in
set_option maxHeartbeats 4000000 in
theorem walk (a0 : Int) (a1 : Option Addr) (len1 cap1 : Nat) (z1 : List Int) (w : World) (w0 : (Lit.int .i64 a0).wf = true) (w1 : IsRow .i64 w a1 len1 cap1 z1) :
    Calls Try.prog 9 #[.int .i64 a0, .slice a1 len1 cap1] w fun e w' => e = .returned (.bool true) ∧ Below w.heap.size w w' := by
  clear w0
  by_cases hlong : 300 < len1
  · go_enter Try.func9, Try.ntmps9
    go_wp2
    go_ret
    exact ⟨rfl, Below.refl _ _⟩
  have hlen : len1 ≤ 300 := by omega
  clear hlong
  have hW0 := win_new a0
  go_enter Try.func9, Try.ntmps9
  go_wp2_with fail
  refine (w_new _ _).mono ?_; rintro e wa ⟨rfl, hC⟩
  have HC := Lib.hid hC; clear hC
  go_wp2_with fail
  refine (rw_new _ _).mono ?_; rintro e wb ⟨rfl, hC2⟩
  have HC2 := Lib.hid hC2; clear hC2
  go_wp2_with fail
  have st : WinSome wa.heap.size wb.heap.size w (wb.alloc (.cells #[.int .i64 ((cutZ a0 1 16 + 1) / 2), .int .i64 0, .int .i64 (cutZ a0 1 16)] 60)) := by
    have h1 : At (wa.alloc (.cells #[.int .i64 ((cutZ a0 1 16 + 1) / 2), .int .i64 (cutZ a0 1 16), .int .i64 0] 57)) wa.heap.size 57 [.int .i64 ((cutZ a0 1 16 + 1) / 2), .int .i64 (cutZ a0 1 16), .int .i64 0] := At.new wa 57 [_, _, _]
    have hz := HC.out.size
    have hz2 := HC2.out.size
    simp at hz2
    exact ⟨_, _, _, hW0, (h1.chg HC2.out (by simp)).alloc _, At.new wb 60 [_, _, _],
      ((((HC.out.below (Nat.le_refl _) (by simp)).alloc (by omega) _).trans (HC2.out.below (by simp; omega) (by simp))).alloc (by omega) _)⟩
  have hz2 : wa.heap.size < wb.heap.size := by have := HC2.out.size; simp at this; omega
  have hz1 : w.heap.size ≤ wa.heap.size := HC.out.size
  have ST := Lib.hid st; clear st HC HC2 hW0
  go_loopg [7] len1 (fun g i wr => ∃ k : Nat, g = len1 - k ∧ k ≤ len1 ∧ i = .int .i64 k ∧ WinSome wa.heap.size wb.heap.size w wr)
  case atStart => exact ⟨0, rfl, Nat.zero_le _, rfl, ST.out⟩
  case round =>
    obtain ⟨k, rfl, hk, rfl, s, a, mo, hw, hA1, hA2, hb⟩ := hrel
    by_cases hlt : k < len1
    · obtain ⟨b, off, rfl, hbl, hcell, hwf⟩ := row_at w1 k hlt
      obtain ⟨hn, hn'⟩ := bounds_i64 hwf
      have hcr : wr.cell? ⟨b, off + k, none⟩ = some (.int .i64 (z1.getD k 0)) := by rw [hb.cell hbl]; exact hcell
      clear hcell hwf w1
      obtain ⟨n, hnz⟩ : ∃ n, n = z1.getD k 0 := ⟨_, rfl⟩
      rw [← hnz] at hn hn' hcr
      clear hnz
      have hi0 : (0 : Int) ≤ (k : Int) := by omega
      have hi1 : (k : Int) < (len1 : Int) := by omega
      have HW := Lib.hid hw
      have HA1 := Lib.hid hA1
      have HA2 := Lib.hid hA2
      have HB := Lib.hid hb
      have hs := hb.size
      have hs1 := hA1.lt
      have hs2 := hA2.lt
      clear hw hA1 hA2 hb
      go_upto_if 25 with (fail)
      go_cut [] (fun wx => WinSome wa.heap.size wb.heap.size w wx)
      case first =>
        by_cases hneg : n < 0
        · go_wp2_with fail
          refine wp_region_phase 4 (fun w' => At w' wa.heap.size 57 [.int .i64 s, .int .i64 mo, .int .i64 a] ∧ At w' wb.heap.size 60 [.int .i64 s, .int .i64 a, .int .i64 mo] ∧ Chg [] wr w') (by kernel_rfl) ?_
          refine wpAnyP_with (by first | (go_keep; done) | ((first | exact ⟨HA1.out.drew, HA2.out.drew, (Chg.refl _ _).drew⟩ | exact ⟨hSw.1.chg hq (by simp), hSw.2.1.chg hq (by simp), hSw.2.2.trans hq⟩))) (fun hSw => ?_)
          refine wpAnyP_take 0 [] (v := ?_) rfl (by kernel_rfl) (fun _ _ _ h => h) (by assumption) (Or.inl ⟨by rfl, ?_⟩) ?_
          rotate_left
          · (intro w hSw; (try dsimp only at hSw); obtain ⟨c0, c1, c2, _⟩ := hSw.1.three; obtain ⟨d0, d1, d2, _⟩ := hSw.2.1.three; go_simp; try with_reducible rfl)
          simp only [Act.put, List.setIfInBounds_toArray, List.set_cons_zero, List.set_cons_succ]
          refine wpAnyP_take 2 [3] (v := ?_) rfl (by kernel_rfl) (fun _ _ _ h => h) (by assumption) (Or.inl ⟨by rfl, ?_⟩) ?_
          rotate_left
          · (intro w hSw; (try dsimp only at hSw); obtain ⟨c0, c1, c2, _⟩ := hSw.1.three; obtain ⟨d0, d1, d2, _⟩ := hSw.2.1.three; go_simp; try with_reducible rfl)
          simp only [Act.put, List.setIfInBounds_toArray, List.set_cons_zero, List.set_cons_succ]
          refine wpAnyP_one 1 rfl (by kernel_rfl) (fun K hK => ?_)
          rw [if_pos (by rfl)]
          go_wp2_with (first | (go_at_call 37; refine (w_late _ _ _ _ HW.out).mono ?_; rintro e wc ⟨rfl, hq⟩) | (go_at_call 38; refine (rw_late _ _ _ _ HW.out).mono ?_; rintro e wd ⟨rfl, hq⟩; have tA := Lib.hid (hSw.1.chg hq (by simp)); have tB := Lib.hid (hSw.2.1.chg hq (by simp)); have tC := Lib.hid (hSw.2.2.trans hq); obtain ⟨p0, p1, p2, p3, p4, p5⟩ := tA.out.three; obtain ⟨r0, r1, r2, r3, r4, r5⟩ := tB.out.three))
          refine hold_with (by first | (go_keep; done) | ((try dsimp only at hSw); (first | exact ⟨HA1.out.drew, HA2.out.drew, (Chg.refl _ _).drew⟩ | exact ⟨hSw.1.chg hq (by simp), hSw.2.1.chg hq (by simp), hSw.2.2.trans hq⟩))) (fun hSn => ?_)
          clear hSw; have hSw := hSn; clear hSn
          refine wpAnyP_one 3 rfl (by kernel_rfl) (fun K hK => ?_)
          rw [if_pos (by rfl)]
          go_wp2_with (first | (go_at_call 37; refine (w_late _ _ _ _ HW.out).mono ?_; rintro e wc ⟨rfl, hq⟩) | (go_at_call 38; refine (rw_late _ _ _ _ HW.out).mono ?_; rintro e wd ⟨rfl, hq⟩; have tA := Lib.hid (hSw.1.chg hq (by simp)); have tB := Lib.hid (hSw.2.1.chg hq (by simp)); have tC := Lib.hid (hSw.2.2.trans hq); obtain ⟨p0, p1, p2, p3, p4, p5⟩ := tA.out.three; obtain ⟨r0, r1, r2, r3, r4, r5⟩ := tB.out.three))
          refine hold_with (by first | (go_keep; done) | ((try dsimp only at hSw); (first | exact ⟨HA1.out.drew, HA2.out.drew, (Chg.refl _ _).drew⟩ | exact ⟨hSw.1.chg hq (by simp), hSw.2.1.chg hq (by simp), hSw.2.2.trans hq⟩))) (fun hSn => ?_)
          clear hSw; have hSw := hSn; clear hSn
          refine wpAnyP_one 4 rfl (by kernel_rfl) (fun K hK => ?_)
          rw [if_pos (by rfl)]
          go_wp2_with (fail)
          refine ⟨fun hz => (by simp at hz), ?_⟩
          refine wpAnyP_one 5 rfl (by kernel_rfl) (fun K hK => ?_)
          rw [if_pos (by rfl)]
          go_wp2_with (fail)
          refine ⟨fun hz => (by simp at hz), ?_⟩
          refine wpAnyP_done (by kernel_rfl) ?_ _
          go_wp2_with fail
          go_meet
          exact ⟨_, _, _, HW.out.late, ((((((tA.out.set 0 _).set 1 _).set 2 _).far (by show wa.heap.size ≠ wb.heap.size; omega) _).far (by show wa.heap.size ≠ wb.heap.size; omega) _).far (by show wa.heap.size ≠ wb.heap.size; omega) _), ((((((tB.out.far (by show wb.heap.size ≠ wa.heap.size; omega) _).far (by show wb.heap.size ≠ wa.heap.size; omega) _).far (by show wb.heap.size ≠ wa.heap.size; omega) _)).set 0 _).set 1 _).set 2 _, (((((((HB.out.trans (tC.out.below hs (by simp))).setCell (by show w.heap.size ≤ wa.heap.size; omega) _).setCell (by show w.heap.size ≤ wa.heap.size; omega) _).setCell (by show w.heap.size ≤ wa.heap.size; omega) _).setCell (by show w.heap.size ≤ wb.heap.size; omega) _).setCell (by show w.heap.size ≤ wb.heap.size; omega) _).setCell (by show w.heap.size ≤ wb.heap.size; omega) _)⟩
        · go_wp2_with fail
          refine wp_region_phase 12 (fun w' => At w' wa.heap.size 57 [.int .i64 s, .int .i64 mo, .int .i64 a] ∧ At w' wb.heap.size 60 [.int .i64 s, .int .i64 a, .int .i64 mo] ∧ Chg [] wr w') (by kernel_rfl) ?_
          refine wpAnyP_with (by first | (go_keep; done) | ((first | exact ⟨HA1.out.drew, HA2.out.drew, (Chg.refl _ _).drew⟩ | exact ⟨hSw.1.chg hq (by simp), hSw.2.1.chg hq (by simp), hSw.2.2.trans hq⟩))) (fun hSw => ?_)
          refine wpAnyP_take 0 [] (v := ?_) rfl (by kernel_rfl) (fun _ _ _ h => h) (by assumption) (Or.inl ⟨by rfl, ?_⟩) ?_
          rotate_left
          · (intro w hSw; (try dsimp only at hSw); obtain ⟨c0, c1, c2, _⟩ := hSw.1.three; obtain ⟨d0, d1, d2, _⟩ := hSw.2.1.three; have hcx := hSw.2.2.cell (p := ⟨b, off + k, none⟩) (by simp; omega) (by simp); rw [hcr] at hcx; go_simp; try with_reducible rfl)
          simp only [Act.put, List.setIfInBounds_toArray, List.set_cons_zero, List.set_cons_succ]
          refine wpAnyP_take 1 [] (v := ?_) rfl (by kernel_rfl) (fun _ _ _ h => h) (by assumption) (Or.inl ⟨by rfl, ?_⟩) ?_
          rotate_left
          · (intro w hSw; (try dsimp only at hSw); obtain ⟨c0, c1, c2, _⟩ := hSw.1.three; obtain ⟨d0, d1, d2, _⟩ := hSw.2.1.three; have hcx := hSw.2.2.cell (p := ⟨b, off + k, none⟩) (by simp; omega) (by simp); rw [hcr] at hcx; go_simp; try with_reducible rfl)
          simp only [Act.put, List.setIfInBounds_toArray, List.set_cons_zero, List.set_cons_succ]
          refine wpAnyP_take 2 [] (v := ?_) rfl (by kernel_rfl) (fun _ _ _ h => h) (by assumption) (Or.inl ⟨by rfl, ?_⟩) ?_
          rotate_left
          · (intro w hSw; (try dsimp only at hSw); obtain ⟨c0, c1, c2, _⟩ := hSw.1.three; obtain ⟨d0, d1, d2, _⟩ := hSw.2.1.three; have hcx := hSw.2.2.cell (p := ⟨b, off + k, none⟩) (by simp; omega) (by simp); rw [hcr] at hcx; go_simp; try with_reducible rfl)
          simp only [Act.put, List.setIfInBounds_toArray, List.set_cons_zero, List.set_cons_succ]
          refine wpAnyP_take 3 [] (v := ?_) rfl (by kernel_rfl) (fun _ _ _ h => h) (by assumption) (Or.inl ⟨by rfl, ?_⟩) ?_
          rotate_left
          · (intro w hSw; (try dsimp only at hSw); obtain ⟨c0, c1, c2, _⟩ := hSw.1.three; obtain ⟨d0, d1, d2, _⟩ := hSw.2.1.three; have hcx := hSw.2.2.cell (p := ⟨b, off + k, none⟩) (by simp; omega) (by simp); rw [hcr] at hcx; go_simp; try with_reducible rfl)
          simp only [Act.put, List.setIfInBounds_toArray, List.set_cons_zero, List.set_cons_succ]
          refine wpAnyP_take 4 [] (v := ?_) rfl (by kernel_rfl) (fun _ _ _ h => h) (by assumption) (Or.inl ⟨by rfl, ?_⟩) ?_
          rotate_left
          · (intro w hSw; (try dsimp only at hSw); obtain ⟨c0, c1, c2, _⟩ := hSw.1.three; obtain ⟨d0, d1, d2, _⟩ := hSw.2.1.three; have hcx := hSw.2.2.cell (p := ⟨b, off + k, none⟩) (by simp; omega) (by simp); rw [hcr] at hcx; go_simp; try with_reducible rfl)
          simp only [Act.put, List.setIfInBounds_toArray, List.set_cons_zero, List.set_cons_succ]
          refine wpAnyP_take 6 [11] (v := ?_) rfl (by kernel_rfl) (fun _ _ _ h => h) (by assumption) (Or.inl ⟨by rfl, ?_⟩) ?_
          rotate_left
          · (intro w hSw; (try dsimp only at hSw); obtain ⟨c0, c1, c2, _⟩ := hSw.1.three; obtain ⟨d0, d1, d2, _⟩ := hSw.2.1.three; have hcx := hSw.2.2.cell (p := ⟨b, off + k, none⟩) (by simp; omega) (by simp); rw [hcr] at hcx; go_simp; try with_reducible rfl)
          simp only [Act.put, List.setIfInBounds_toArray, List.set_cons_zero, List.set_cons_succ]
          refine wpAnyP_take 7 [11, 10, 9] (v := ?_) rfl (by kernel_rfl) (fun _ _ _ h => h) (by assumption) (Or.inl ⟨by rfl, ?_⟩) ?_
          rotate_left
          · (intro w hSw; (try dsimp only at hSw); obtain ⟨c0, c1, c2, _⟩ := hSw.1.three; obtain ⟨d0, d1, d2, _⟩ := hSw.2.1.three; have hcx := hSw.2.2.cell (p := ⟨b, off + k, none⟩) (by simp; omega) (by simp); rw [hcr] at hcx; go_simp; try with_reducible rfl)
          simp only [Act.put, List.setIfInBounds_toArray, List.set_cons_zero, List.set_cons_succ]
          refine wpAnyP_take 8 [11, 10, 9] (v := ?_) rfl (by kernel_rfl) (fun _ _ _ h => h) (by assumption) (Or.inl ⟨by rfl, ?_⟩) ?_
          rotate_left
          · (intro w hSw; (try dsimp only at hSw); obtain ⟨c0, c1, c2, _⟩ := hSw.1.three; obtain ⟨d0, d1, d2, _⟩ := hSw.2.1.three; have hcx := hSw.2.2.cell (p := ⟨b, off + k, none⟩) (by simp; omega) (by simp); rw [hcr] at hcx; go_simp; try with_reducible rfl)
          simp only [Act.put, List.setIfInBounds_toArray, List.set_cons_zero, List.set_cons_succ]
          refine wpAnyP_take 9 [11, 10] (v := ?_) rfl (by kernel_rfl) (fun _ _ _ h => h) (by assumption) (Or.inl ⟨by rfl, ?_⟩) ?_
          rotate_left
          · (intro w hSw; (try dsimp only at hSw); obtain ⟨c0, c1, c2, _⟩ := hSw.1.three; obtain ⟨d0, d1, d2, _⟩ := hSw.2.1.three; have hcx := hSw.2.2.cell (p := ⟨b, off + k, none⟩) (by simp; omega) (by simp); rw [hcr] at hcx; go_simp; try with_reducible rfl)
          simp only [Act.put, List.setIfInBounds_toArray, List.set_cons_zero, List.set_cons_succ]
          refine wpAnyP_take 10 [11] (v := ?_) rfl (by kernel_rfl) (fun _ _ _ h => h) (by assumption) (Or.inl ⟨by rfl, ?_⟩) ?_
          rotate_left
          · (intro w hSw; (try dsimp only at hSw); obtain ⟨c0, c1, c2, _⟩ := hSw.1.three; obtain ⟨d0, d1, d2, _⟩ := hSw.2.1.three; have hcx := hSw.2.2.cell (p := ⟨b, off + k, none⟩) (by simp; omega) (by simp); rw [hcr] at hcx; go_simp; try with_reducible rfl)
          simp only [Act.put, List.setIfInBounds_toArray, List.set_cons_zero, List.set_cons_succ]
          refine wpAnyP_one 5 rfl (by kernel_rfl) (fun K hK => ?_)
          rw [if_pos (by rfl)]
          go_wp2_with (first | (go_at_call 39; refine (w_acked _ _ _ _ _ HW.out).mono ?_; rintro e wc ⟨rfl, hq⟩) | (go_at_call 40; refine (rw_acked _ _ _ _ _ HW.out).mono ?_; rintro e wd ⟨rfl, hq⟩; have tA := Lib.hid (hSw.1.chg hq (by simp)); have tB := Lib.hid (hSw.2.1.chg hq (by simp)); have tC := Lib.hid (hSw.2.2.trans hq); obtain ⟨p0, p1, p2, p3, p4, p5⟩ := tA.out.three; obtain ⟨r0, r1, r2, r3, r4, r5⟩ := tB.out.three))
          refine hold_with (by first | (go_keep; done) | ((try dsimp only at hSw); (first | exact ⟨HA1.out.drew, HA2.out.drew, (Chg.refl _ _).drew⟩ | exact ⟨hSw.1.chg hq (by simp), hSw.2.1.chg hq (by simp), hSw.2.2.trans hq⟩))) (fun hSn => ?_)
          clear hSw; have hSw := hSn; clear hSn
          refine wpAnyP_one 11 rfl (by kernel_rfl) (fun K hK => ?_)
          rw [if_pos (by rfl)]
          go_wp2_with (first | (go_at_call 39; refine (w_acked _ _ _ _ _ HW.out).mono ?_; rintro e wc ⟨rfl, hq⟩) | (go_at_call 40; refine (rw_acked _ _ _ _ _ HW.out).mono ?_; rintro e wd ⟨rfl, hq⟩; have tA := Lib.hid (hSw.1.chg hq (by simp)); have tB := Lib.hid (hSw.2.1.chg hq (by simp)); have tC := Lib.hid (hSw.2.2.trans hq); obtain ⟨p0, p1, p2, p3, p4, p5⟩ := tA.out.three; obtain ⟨r0, r1, r2, r3, r4, r5⟩ := tB.out.three))
          refine hold_with (by first | (go_keep; done) | ((try dsimp only at hSw); (first | exact ⟨HA1.out.drew, HA2.out.drew, (Chg.refl _ _).drew⟩ | exact ⟨hSw.1.chg hq (by simp), hSw.2.1.chg hq (by simp), hSw.2.2.trans hq⟩))) (fun hSn => ?_)
          clear hSw; have hSw := hSn; clear hSn
          refine wpAnyP_one 12 rfl (by kernel_rfl) (fun K hK => ?_)
          rw [if_pos (by rfl)]
          go_wp2_with (fail)
          refine ⟨fun hz => (by simp at hz), ?_⟩
          refine wpAnyP_one 13 rfl (by kernel_rfl) (fun K hK => ?_)
          rw [if_pos (by rfl)]
          go_wp2_with (fail)
          refine ⟨fun hz => (by simp at hz), ?_⟩
          refine wpAnyP_done (by kernel_rfl) ?_ _
          go_wp2_with fail
          go_meet
          exact ⟨_, _, _, HW.out.it (cutZ n 0 16).toNat, ((((((tA.out.set 0 _).set 1 _).set 2 _).far (by show wa.heap.size ≠ wb.heap.size; omega) _).far (by show wa.heap.size ≠ wb.heap.size; omega) _).far (by show wa.heap.size ≠ wb.heap.size; omega) _), ((((((tB.out.far (by show wb.heap.size ≠ wa.heap.size; omega) _).far (by show wb.heap.size ≠ wa.heap.size; omega) _).far (by show wb.heap.size ≠ wa.heap.size; omega) _)).set 0 _).set 1 _).set 2 _, (((((((HB.out.trans (tC.out.below hs (by simp))).setCell (by show w.heap.size ≤ wa.heap.size; omega) _).setCell (by show w.heap.size ≤ wa.heap.size; omega) _).setCell (by show w.heap.size ≤ wa.heap.size; omega) _).setCell (by show w.heap.size ≤ wb.heap.size; omega) _).setCell (by show w.heap.size ≤ wb.heap.size; omega) _).setCell (by show w.heap.size ≤ wb.heap.size; omega) _)⟩
      case rest =>
        clear HA1 HA2 HB HW hs hs1 hs2 hcr
        obtain ⟨s, a, mo, hw, hA1, hA2, hb⟩ := hcut
        have HW := Lib.hid hw
        have HA1 := Lib.hid hA1
        have HA2 := Lib.hid hA2
        have HB := Lib.hid hb
        have hs1 := hA1.lt
        have hs2 := hA2.lt
        obtain ⟨x1, x2, x3, x4, x5⟩ := hw
        clear hA1 hA2 hb
        have g1 : decide (s < 1) = false := by simp; omega
        have g2 : decide (mo < s) = false := by simp; omega
        go_wp2_with fail
        refine wp_region_phase 23 (fun w' => At w' wa.heap.size 57 [.int .i64 s, .int .i64 mo, .int .i64 a] ∧ At w' wb.heap.size 60 [.int .i64 s, .int .i64 a, .int .i64 mo] ∧ Chg [] wc w') (by kernel_rfl) ?_
        refine wpAnyP_with (by first | (go_keep; done) | ((first | exact ⟨HA1.out.drew, HA2.out.drew, (Chg.refl _ _).drew⟩ | exact ⟨hSw.1.chg hq (by simp), hSw.2.1.chg hq (by simp), hSw.2.2.trans hq⟩))) (fun hSw => ?_)
        refine wpAnyP_take 0 [17, 16, 12, 11, 5, 1] (v := ?_) rfl (by kernel_rfl) (fun _ _ _ h => h) (by assumption) (Or.inl ⟨by rfl, ?_⟩) ?_
        rotate_left
        · (intro w hSw; (try dsimp only at hSw); obtain ⟨c0, c1, c2, _⟩ := hSw.1.three; obtain ⟨d0, d1, d2, _⟩ := hSw.2.1.three; go_simp; try with_reducible rfl)
        simp only [Act.put, List.setIfInBounds_toArray, List.set_cons_zero, List.set_cons_succ]
        refine wpAnyP_take 2 [17, 16, 12, 11, 5, 4, 3] (v := ?_) rfl (by kernel_rfl) (fun _ _ _ h => h) (by assumption) (Or.inl ⟨by rfl, ?_⟩) ?_
        rotate_left
        · (intro w hSw; (try dsimp only at hSw); obtain ⟨c0, c1, c2, _⟩ := hSw.1.three; obtain ⟨d0, d1, d2, _⟩ := hSw.2.1.three; go_simp; try with_reducible rfl)
        simp only [Act.put, List.setIfInBounds_toArray, List.set_cons_zero, List.set_cons_succ]
        refine wpAnyP_take 3 [17, 16, 12, 11, 5, 4] (v := ?_) rfl (by kernel_rfl) (fun _ _ _ h => h) (by assumption) (Or.inl ⟨by rfl, ?_⟩) ?_
        rotate_left
        · (intro w hSw; (try dsimp only at hSw); obtain ⟨c0, c1, c2, _⟩ := hSw.1.three; obtain ⟨d0, d1, d2, _⟩ := hSw.2.1.three; go_simp; try with_reducible rfl)
        simp only [Act.put, List.setIfInBounds_toArray, List.set_cons_zero, List.set_cons_succ]
        refine wpAnyP_one 1 rfl (by kernel_rfl) (fun K hK => ?_)
        rw [if_pos (by rfl)]
        go_wp2_with (first | (go_at_call 41; refine (w_size _ _ _ _).mono ?_; rintro e wx ⟨rfl, hq⟩) | (go_at_call 42; refine (w_most _ _ _ _).mono ?_; rintro e wx ⟨rfl, hq⟩))
        refine hold_with (by first | (go_keep; done) | ((try dsimp only at hSw); (first | exact ⟨HA1.out.drew, HA2.out.drew, (Chg.refl _ _).drew⟩ | exact ⟨hSw.1.chg hq (by simp), hSw.2.1.chg hq (by simp), hSw.2.2.trans hq⟩))) (fun hSn => ?_)
        clear hSw; have hSw := hSn; clear hSn
        refine wpAnyP_take 4 [17, 16, 12, 11, 5] (v := ?_) rfl (by kernel_rfl) (fun _ _ _ h => h) (by assumption) (Or.inl ⟨by rfl, ?_⟩) ?_
        rotate_left
        · (intro w hSw; (try dsimp only at hSw); obtain ⟨c0, c1, c2, _⟩ := hSw.1.three; obtain ⟨d0, d1, d2, _⟩ := hSw.2.1.three; go_simp; try with_reducible rfl)
        simp only [Act.put, List.setIfInBounds_toArray, List.set_cons_zero, List.set_cons_succ]
        refine wpAnyP_take 5 [17, 16, 12, 11] (v := ?_) rfl (by kernel_rfl) (fun _ _ _ h => h) (by assumption) (Or.inl ⟨by rfl, ?_⟩) ?_
        rotate_left
        · (intro w hSw; (try dsimp only at hSw); obtain ⟨c0, c1, c2, _⟩ := hSw.1.three; obtain ⟨d0, d1, d2, _⟩ := hSw.2.1.three; go_simp; try with_reducible rfl)
        simp only [Act.put, List.setIfInBounds_toArray, List.set_cons_zero, List.set_cons_succ]
        refine wpAnyP_take 6 [17, 16, 12, 7] (v := ?_) rfl (by kernel_rfl) (fun _ _ _ h => h) (by assumption) (Or.inl ⟨by rfl, ?_⟩) ?_
        rotate_left
        · (intro w hSw; (try dsimp only at hSw); obtain ⟨c0, c1, c2, _⟩ := hSw.1.three; obtain ⟨d0, d1, d2, _⟩ := hSw.2.1.three; go_simp; try with_reducible rfl)
        simp only [Act.put, List.setIfInBounds_toArray, List.set_cons_zero, List.set_cons_succ]
        refine wpAnyP_take 8 [17, 16, 12, 11, 10, 9] (v := ?_) rfl (by kernel_rfl) (fun _ _ _ h => h) (by assumption) (Or.inl ⟨by rfl, ?_⟩) ?_
        rotate_left
        · (intro w hSw; (try dsimp only at hSw); obtain ⟨c0, c1, c2, _⟩ := hSw.1.three; obtain ⟨d0, d1, d2, _⟩ := hSw.2.1.three; go_simp; try with_reducible rfl)
        simp only [Act.put, List.setIfInBounds_toArray, List.set_cons_zero, List.set_cons_succ]
        refine wpAnyP_take 9 [17, 16, 12, 11, 10] (v := ?_) rfl (by kernel_rfl) (fun _ _ _ h => h) (by assumption) (Or.inl ⟨by rfl, ?_⟩) ?_
        rotate_left
        · (intro w hSw; (try dsimp only at hSw); obtain ⟨c0, c1, c2, _⟩ := hSw.1.three; obtain ⟨d0, d1, d2, _⟩ := hSw.2.1.three; go_simp; try with_reducible rfl)
        simp only [Act.put, List.setIfInBounds_toArray, List.set_cons_zero, List.set_cons_succ]
        refine wpAnyP_one 7 rfl (by kernel_rfl) (fun K hK => ?_)
        rw [if_pos (by rfl)]
        go_wp2_with (first | (go_at_call 41; refine (w_size _ _ _ _).mono ?_; rintro e wx ⟨rfl, hq⟩) | (go_at_call 42; refine (w_most _ _ _ _).mono ?_; rintro e wx ⟨rfl, hq⟩))
        refine hold_with (by first | (go_keep; done) | ((try dsimp only at hSw); (first | exact ⟨HA1.out.drew, HA2.out.drew, (Chg.refl _ _).drew⟩ | exact ⟨hSw.1.chg hq (by simp), hSw.2.1.chg hq (by simp), hSw.2.2.trans hq⟩))) (fun hSn => ?_)
        clear hSw; have hSw := hSn; clear hSn
        refine wpAnyP_take 10 [17, 16, 12, 11] (v := ?_) rfl (by kernel_rfl) (fun _ _ _ h => h) (by assumption) (Or.inl ⟨by rfl, ?_⟩) ?_
        rotate_left
        · (intro w hSw; (try dsimp only at hSw); obtain ⟨c0, c1, c2, _⟩ := hSw.1.three; obtain ⟨d0, d1, d2, _⟩ := hSw.2.1.three; go_simp; try with_reducible rfl)
        simp only [Act.put, List.setIfInBounds_toArray, List.set_cons_zero, List.set_cons_succ]
        refine wpAnyP_take 11 [17, 16, 12] (v := ?_) rfl (by kernel_rfl) (fun _ _ _ h => h) (by assumption) (Or.inl ⟨by rfl, ?_⟩) ?_
        rotate_left
        · (intro w hSw; (try dsimp only at hSw); obtain ⟨c0, c1, c2, _⟩ := hSw.1.three; obtain ⟨d0, d1, d2, _⟩ := hSw.2.1.three; go_simp; try with_reducible rfl)
        simp only [Act.put, List.setIfInBounds_toArray, List.set_cons_zero, List.set_cons_succ]
        refine wpAnyP_take 12 [17, 16] (v := ?_) rfl (by kernel_rfl) (fun _ _ _ h => h) (by assumption) (Or.inl ⟨by rfl, ?_⟩) ?_
        rotate_left
        · (intro w hSw; (try dsimp only at hSw); obtain ⟨c0, c1, c2, _⟩ := hSw.1.three; obtain ⟨d0, d1, d2, _⟩ := hSw.2.1.three; go_simp; try with_reducible rfl)
        simp only [Act.put, List.setIfInBounds_toArray, List.set_cons_zero, List.set_cons_succ]
        refine wpAnyP_take 13 [17, 14] (v := ?_) rfl (by kernel_rfl) (fun _ _ _ h => h) (by assumption) (Or.inl ⟨by rfl, ?_⟩) ?_
        rotate_left
        · (intro w hSw; (try dsimp only at hSw); obtain ⟨c0, c1, c2, _⟩ := hSw.1.three; obtain ⟨d0, d1, d2, _⟩ := hSw.2.1.three; go_simp; try with_reducible rfl)
        simp only [Act.put, List.setIfInBounds_toArray, List.set_cons_zero, List.set_cons_succ]
        refine wpAnyP_one 14 rfl (by kernel_rfl) (fun K hK => ?_)
        rw [if_pos (by rfl)]
        go_wp2_with (first | (go_at_call 41; refine (w_size _ _ _ _).mono ?_; rintro e wx ⟨rfl, hq⟩) | (go_at_call 42; refine (w_most _ _ _ _).mono ?_; rintro e wx ⟨rfl, hq⟩))
        refine hold_with (by first | (go_keep; done) | ((try dsimp only at hSw); (first | exact ⟨HA1.out.drew, HA2.out.drew, (Chg.refl _ _).drew⟩ | exact ⟨hSw.1.chg hq (by simp), hSw.2.1.chg hq (by simp), hSw.2.2.trans hq⟩))) (fun hSn => ?_)
        clear hSw; have hSw := hSn; clear hSn
        refine wpAnyP_take 15 [17, 16] (v := ?_) rfl (by kernel_rfl) (fun _ _ _ h => h) (by assumption) (Or.inl ⟨by rfl, ?_⟩) ?_
        rotate_left
        · (intro w hSw; (try dsimp only at hSw); obtain ⟨c0, c1, c2, _⟩ := hSw.1.three; obtain ⟨d0, d1, d2, _⟩ := hSw.2.1.three; go_simp; try with_reducible rfl)
        simp only [Act.put, List.setIfInBounds_toArray, List.set_cons_zero, List.set_cons_succ]
        refine wpAnyP_take 16 [17] (v := ?_) rfl (by kernel_rfl) (fun _ _ _ h => h) (by assumption) (Or.inl ⟨by rfl, ?_⟩) ?_
        rotate_left
        · (intro w hSw; (try dsimp only at hSw); obtain ⟨c0, c1, c2, _⟩ := hSw.1.three; obtain ⟨d0, d1, d2, _⟩ := hSw.2.1.three; go_simp; try with_reducible rfl)
        simp only [Act.put, List.setIfInBounds_toArray, List.set_cons_zero, List.set_cons_succ]
        refine wpAnyP_take 17 [] (v := ?_) rfl (by kernel_rfl) (fun _ _ _ h => h) (by assumption) (Or.inl ⟨by rfl, ?_⟩) ?_
        rotate_left
        · (intro w hSw; (try dsimp only at hSw); obtain ⟨c0, c1, c2, _⟩ := hSw.1.three; obtain ⟨d0, d1, d2, _⟩ := hSw.2.1.three; go_simp; try with_reducible rfl)
        simp only [Act.put, List.setIfInBounds_toArray, List.set_cons_zero, List.set_cons_succ]
        refine wpAnyP_take 18 [22, 19] (v := ?_) rfl (by kernel_rfl) (fun _ _ _ h => h) (by assumption) (Or.inl ⟨by rfl, ?_⟩) ?_
        rotate_left
        · (intro w hSw; (try dsimp only at hSw); obtain ⟨c0, c1, c2, _⟩ := hSw.1.three; obtain ⟨d0, d1, d2, _⟩ := hSw.2.1.three; go_simp; try with_reducible rfl)
        simp only [Act.put, List.setIfInBounds_toArray, List.set_cons_zero, List.set_cons_succ]
        refine wpAnyP_take 20 [22, 21] (v := ?_) rfl (by kernel_rfl) (fun _ _ _ h => h) (by assumption) (Or.inl ⟨by rfl, ?_⟩) ?_
        rotate_left
        · (intro w hSw; (try dsimp only at hSw); obtain ⟨c0, c1, c2, _⟩ := hSw.1.three; obtain ⟨d0, d1, d2, _⟩ := hSw.2.1.three; go_simp; try with_reducible rfl)
        simp only [Act.put, List.setIfInBounds_toArray, List.set_cons_zero, List.set_cons_succ]
        refine wpAnyP_one 19 rfl (by kernel_rfl) (fun K hK => ?_)
        rw [if_pos (by rfl)]
        go_wp2_with (first | (go_at_call 41; refine (w_size _ _ _ _).mono ?_; rintro e wx ⟨rfl, hq⟩) | (go_at_call 42; refine (w_most _ _ _ _).mono ?_; rintro e wx ⟨rfl, hq⟩))
        refine hold_with (by first | (go_keep; done) | ((try dsimp only at hSw); (first | exact ⟨HA1.out.drew, HA2.out.drew, (Chg.refl _ _).drew⟩ | exact ⟨hSw.1.chg hq (by simp), hSw.2.1.chg hq (by simp), hSw.2.2.trans hq⟩))) (fun hSn => ?_)
        clear hSw; have hSw := hSn; clear hSn
        refine wpAnyP_one 21 rfl (by kernel_rfl) (fun K hK => ?_)
        rw [if_pos (by rfl)]
        go_wp2_with (first | (go_at_call 41; refine (w_size _ _ _ _).mono ?_; rintro e wx ⟨rfl, hq⟩) | (go_at_call 42; refine (w_most _ _ _ _).mono ?_; rintro e wx ⟨rfl, hq⟩))
        refine hold_with (by first | (go_keep; done) | ((try dsimp only at hSw); (first | exact ⟨HA1.out.drew, HA2.out.drew, (Chg.refl _ _).drew⟩ | exact ⟨hSw.1.chg hq (by simp), hSw.2.1.chg hq (by simp), hSw.2.2.trans hq⟩))) (fun hSn => ?_)
        clear hSw; have hSw := hSn; clear hSn
        refine wpAnyP_take 22 [] (v := ?_) rfl (by kernel_rfl) (fun _ _ _ h => h) (by assumption) (Or.inl ⟨by rfl, ?_⟩) ?_
        rotate_left
        · (intro w hSw; (try dsimp only at hSw); obtain ⟨c0, c1, c2, _⟩ := hSw.1.three; obtain ⟨d0, d1, d2, _⟩ := hSw.2.1.three; go_simp; try with_reducible rfl)
        simp only [Act.put, List.setIfInBounds_toArray, List.set_cons_zero, List.set_cons_succ]
        refine wpAnyP_one 23 rfl (by kernel_rfl) (fun K hK => ?_)
        rw [if_pos (by rfl)]
        go_wp2_with (fail)
        refine ⟨fun hz => (by simp at hz), ?_⟩
        refine wpAnyP_done (by kernel_rfl) ?_ _
        have HS := Lib.hid hSw; clear hSw
        go_wp2_with fail
        go_roundg (len1 - (k + 1))
        case measure => omega
        case rel =>
          exact ⟨k + 1, rfl, by omega, by go_num, s, a, mo, HW.out, HS.out.1, HS.out.2.1, HB.out.trans (HS.out.2.2.below (by omega) (by simp))⟩
    · have HA1 := Lib.hid hA1
      have HA2 := Lib.hid hA2
      have HB := Lib.hid hb
      have hs := hb.size
      clear hA1 hA2 hb
      go_wp2_with fail
      refine wp_region_phase 8 (fun w' => At w' wa.heap.size 57 [.int .i64 s, .int .i64 mo, .int .i64 a] ∧ At w' wb.heap.size 60 [.int .i64 s, .int .i64 a, .int .i64 mo] ∧ Chg [] wr w') (by kernel_rfl) ?_
      refine wpAnyP_with (by first | (go_keep; done) | ((first | exact ⟨HA1.out.drew, HA2.out.drew, (Chg.refl _ _).drew⟩ | exact ⟨hSw.1.chg hq (by simp), hSw.2.1.chg hq (by simp), hSw.2.2.trans hq⟩))) (fun hSw => ?_)
      refine wpAnyP_take 0 [] (v := ?_) rfl (by kernel_rfl) (fun _ _ _ h => h) (by assumption) (Or.inl ⟨by rfl, ?_⟩) ?_
      rotate_left
      · (intro w hSw; (try dsimp only at hSw); obtain ⟨c0, c1, c2, _⟩ := hSw.1.three; obtain ⟨d0, d1, d2, _⟩ := hSw.2.1.three; go_simp; try with_reducible rfl)
      simp only [Act.put, List.setIfInBounds_toArray, List.set_cons_zero, List.set_cons_succ]
      refine wpAnyP_take 2 [] (v := ?_) rfl (by kernel_rfl) (fun _ _ _ h => h) (by assumption) (Or.inl ⟨by rfl, ?_⟩) ?_
      rotate_left
      · (intro w hSw; (try dsimp only at hSw); obtain ⟨c0, c1, c2, _⟩ := hSw.1.three; obtain ⟨d0, d1, d2, _⟩ := hSw.2.1.three; go_simp; try with_reducible rfl)
      simp only [Act.put, List.setIfInBounds_toArray, List.set_cons_zero, List.set_cons_succ]
      refine wpAnyP_take 3 [] (v := ?_) rfl (by kernel_rfl) (fun _ _ _ h => h) (by assumption) (Or.inl ⟨by rfl, ?_⟩) ?_
      rotate_left
      · (intro w hSw; (try dsimp only at hSw); obtain ⟨c0, c1, c2, _⟩ := hSw.1.three; obtain ⟨d0, d1, d2, _⟩ := hSw.2.1.three; go_simp; try with_reducible rfl)
      simp only [Act.put, List.setIfInBounds_toArray, List.set_cons_zero, List.set_cons_succ]
      refine wpAnyP_one 1 rfl (by kernel_rfl) (fun K hK => ?_)
      rw [if_pos (by rfl)]
      go_wp2_with (first | (go_at_call 41; refine (w_size _ _ _ _).mono ?_; rintro e wx ⟨rfl, hq⟩) | (go_at_call 43; refine (alive20_any _).mono ?_; rintro e wx ⟨rfl, hq⟩))
      refine hold_with (by first | (go_keep; done) | ((try dsimp only at hSw); (first | exact ⟨HA1.out.drew, HA2.out.drew, (Chg.refl _ _).drew⟩ | exact ⟨hSw.1.chg hq (by simp), hSw.2.1.chg hq (by simp), hSw.2.2.trans hq⟩))) (fun hSn => ?_)
      clear hSw; have hSw := hSn; clear hSn
      refine wpAnyP_take 4 [] (v := ?_) rfl (by kernel_rfl) (fun _ _ _ h => h) (by assumption) (Or.inl ⟨by rfl, ?_⟩) ?_
      rotate_left
      · (intro w hSw; (try dsimp only at hSw); obtain ⟨c0, c1, c2, _⟩ := hSw.1.three; obtain ⟨d0, d1, d2, _⟩ := hSw.2.1.three; go_simp; try with_reducible rfl)
      simp only [Act.put, List.setIfInBounds_toArray, List.set_cons_zero, List.set_cons_succ]
      refine wpAnyP_take 5 [] (v := ?_) rfl (by kernel_rfl) (fun _ _ _ h => h) (by assumption) (Or.inl ⟨by rfl, ?_⟩) ?_
      rotate_left
      · (intro w hSw; (try dsimp only at hSw); obtain ⟨c0, c1, c2, _⟩ := hSw.1.three; obtain ⟨d0, d1, d2, _⟩ := hSw.2.1.three; go_simp; try with_reducible rfl)
      simp only [Act.put, List.setIfInBounds_toArray, List.set_cons_zero, List.set_cons_succ]
      refine wpAnyP_one 6 rfl (by kernel_rfl) (fun K hK => ?_)
      rw [if_pos (by rfl)]
      go_wp2_with (first | (go_at_call 41; refine (w_size _ _ _ _).mono ?_; rintro e wx ⟨rfl, hq⟩) | (go_at_call 43; refine (alive20_any _).mono ?_; rintro e wx ⟨rfl, hq⟩))
      refine hold_with (by first | (go_keep; done) | ((try dsimp only at hSw); (first | exact ⟨HA1.out.drew, HA2.out.drew, (Chg.refl _ _).drew⟩ | exact ⟨hSw.1.chg hq (by simp), hSw.2.1.chg hq (by simp), hSw.2.2.trans hq⟩))) (fun hSn => ?_)
      clear hSw; have hSw := hSn; clear hSn
      refine wpAnyP_take 7 [] (v := ?_) rfl (by kernel_rfl) (fun _ _ _ h => h) (by assumption) (Or.inl ⟨by rfl, ?_⟩) ?_
      rotate_left
      · (intro w hSw; (try dsimp only at hSw); obtain ⟨c0, c1, c2, _⟩ := hSw.1.three; obtain ⟨d0, d1, d2, _⟩ := hSw.2.1.three; go_simp; try with_reducible rfl)
      simp only [Act.put, List.setIfInBounds_toArray, List.set_cons_zero, List.set_cons_succ]
      refine wpAnyP_one 8 rfl (by kernel_rfl) (fun K hK => ?_)
      rw [if_pos (by rfl)]
      go_wp2_with (fail)
      refine ⟨fun hz => (by simp at hz), ?_⟩
      refine wpAnyP_done (by kernel_rfl) ?_ _
      have HS := Lib.hid hSw; clear hSw
      go_wp2_with fail
      go_ret
      exact ⟨rfl, HB.out.trans (HS.out.2.2.below hs (by simp))⟩

/-! ### THE ROW's STEP: WRITTEN OUT: LEAVE IT -/
set_option maxRecDepth 100000 in
theorem lifted (os : Os) (started : os.Started) (H : Type) (enc : TypeId × Value → H) :
    ReturnsInHanded {} Try.checked os 9 .any (Rows.winPlaysSpec.pre6 enc Try.prog Try.f9 Rows.winPlaysRow.domain false) (Rows.winPlaysSpec.post enc Try.prog Try.f9 false true false false) := by
  refine returnsInHanded_of_change (C := Try.checked) own started (by kernel_rfl) Try.func9
    (ChangeSpec.witness6 (enc := enc) (C := Try.checked) false ⟨#[], #[.int .i64 0, .slice none 0 0], []⟩ 8 (by kernel_rfl) (by kernel_rfl) (by kernel_rfl) (by kernel_rfl)) ?_
  intro W base args ds gs before hval0 hW hcnd _
  have hval : ∀ (j : Nat) t v, Try.f9.params[j]? = some t → args[j]? = some v → Value.okWide Try.prog W .any base t v := hval0
  have hW' := hW
  obtain ⟨p, q, hA0, hV, rfl, hfz, hnd⟩ := hW
  have hA : DataW.TrodAll enc Try.prog W 0 (fun _ => true) true Try.f9.params.toList args.toList ds p := hA0
  rw [Try.params9] at hA hval
  obtain ⟨v0, vs0, d0, ds0, p0, q0, hargs, rfl, rfl, h0, r0⟩ := trodAll_cons hA
  obtain ⟨v1, vs1, d1, ds1, p1, q1, rfl, rfl, rfl, h1, r1⟩ := trodAll_cons r0
  obtain ⟨rfl, rfl, rfl⟩ := trodAll_nil r1
  obtain rfl : args = #[v0, v1] := by cases args; simp_all
  obtain ⟨rfl, rfl⟩ := trodVars_none hV
  obtain ⟨a0, rfl, rfl, rfl, w0⟩ := open_int Try.underlying3 (hval 0 3 v0 rfl rfl) h0
  obtain ⟨a1, len1, cap1, rfl⟩ := okWide_slice Try.underlying44 (hval 1 44 v1 rfl rfl)
  have k1 := h1
  have lt1 : ∀ x ∈ p1, x.block < W.heap.size := by obtain ⟨m, hm⟩ := k1; exact DataW.trod_lt m _ _ _ hm
  obtain ⟨z1, w1⟩ : ∃ zs, IsRow .i64 W a1 len1 cap1 zs := by
    obtain ⟨fuel, hf⟩ := h1
    rcases open_ints Try.underlying44 Try.underlying3 (by kernel_rfl) hf with ⟨hcs, _⟩ | ⟨x, l, c, zs, hcs, _, hl, hm, hz, _, hcell, hwz⟩
    · simp [Value.cells] at hcs
      obtain ⟨rfl, rfl, rfl⟩ := hcs
      exact ⟨[], .inl ⟨rfl, rfl, rfl, rfl⟩⟩
    · simp [Value.cells] at hcs
      obtain ⟨rfl, rfl, rfl⟩ := hcs
      exact ⟨zs, .inr ⟨_, rfl, hl, hm, by simpa using hz, hcell, hwz⟩⟩
  clear hA0 hval0
  refine (walk a0 a1 len1 cap1 z1 W w0 w1).mono fun e W' ⟨he, bel⟩ => ?_
  subst he
  exact ⟨_, rfl, _, _, _, [], _, [], hW', trodAll_mk1 (shut_bool Try.underlying4 _), (trodAll_cons_mk (shut_int Try.underlying3 w0) (trodAll_cons_mk (Below.trod laidOut (by kernel_rfl) (of_decide_eq_true (by kernel_rfl)) k1 bel lt1) trodAll_mk0)), rfl, bel.frame _, fun h => by cases h⟩

theorem over : Rows.winPlaysRow.holds Try.pinned (OpenSpec.ofChange Rows.winPlaysSpec) :=
  OpenClaim.holds_of_wide 9 Try.f9 rfl rfl rfl rfl rfl rfl rfl ⟨rfl, rfl, rfl, rfl, rfl⟩ rfl rfl rfl rfl rfl (by kernel_rfl) Try.func9 (by kernel_rfl)
    (of_decide_eq_true (by kernel_rfl)) (by unfold Func.isWrapper; first | (rw [if_pos (by decide +kernel)]; kernel_rfl) | (rw [if_neg (by decide +kernel)]; exact ⟨rfl, rfl⟩))
    (fun os started H enc _ => lifted os started H enc)

/-- ████ THE STATEMENT ████ -/
theorem proved : Rows.WinPlaysSaid := over
#print axioms proved
end Go.Proofs.Ytnmjfeeogphlcaa.winPlays
