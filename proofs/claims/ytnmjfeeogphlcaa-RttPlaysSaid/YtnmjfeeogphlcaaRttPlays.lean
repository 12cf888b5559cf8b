/- Proved: for every int and every slice of ints the Go law catwalklaw19.RttPlays returns true, and its arguments read behind the call as they read before. Conditions: none.
The frame of this text was written by the kit's proof-skeleton program; the walk and its lemmas are ours. -/
import Derived.Test.YtnmjfeeogphlcaaRttWalks
import Derived.Test.YtnmjfeeogphlcaaRow
import Derived.Deep.LoopGhost
import Derived.Deep.DeepCutAuto
import Derived.Test.YtnmjfeeogphlcaaPhase
import Derived.WalkKit
import Derived.ProofKit
import Derived.OpenShut
import Derived.ShutString
import Derived.ChangeOld
import Derived.Below
namespace Go.Proofs.Ytnmjfeeogphlcaa.rttPlays
open Go.ChangeShapes Go.WideShapes Go.ChangeAt Go.RowKit
open Go.ChangeMaps (open_string shut_string)
set_option linter.unusedVariables false
attribute [local go_sem ↓] Go.wp_at_zero Go.wp_at_succ

theorem own : ownKnob Try.prog.godebug = none := by kernel_rfl
theorem laidOut : laidOutB Try.prog = true := by kernel_rfl

/-- WHAT THE WALK IS TOLD OF A SLICE OF INTEGERS THAT CAME IN: it is nil; or it leads to a row of 'cap' cells, the numbers 'zs' (the first 'len' are its elements, the rest its spare room), each fitting its kind. -/
def IsRow (k : IntKind) (w : World) (a : Option Addr) (len cap : Nat) (zs : List Int) : Prop :=
  (a = none ∧ len = 0 ∧ cap = 0 ∧ zs = []) ∨
  ∃ x, a = some x ∧ len ≤ cap ∧ cap ≤ maxLen ∧ zs.length = cap ∧ (∀ i, i < zs.length → w.cell? (x.add i) = some (.int k (zs.getD i 0))) ∧ ∀ n ∈ zs, (Lit.int k n).wf = true

/-! ### STEP 1: THE WALK: the Go text returns true, AND WRITES NOTHING THAT WAS THERE: 'Below w.heap.size w w'' (Derived/Below.lean: '.refl', '.alloc', '.drew', '.setCell' at a new block, '.trans'). Open each 'IsRow' by 'rcases' AHEAD of 'go_enter'; part every test ahead of the walk. -/
/-- What holds of the two times, and of memory. -/
def RttSt (b5 b6 : Nat) (m d : Int) (w wr : World) : Prop :=
  8 ≤ m ∧ m ≤ 512 ∧ 0 ≤ d ∧ d ≤ 259 ∧ At wr b5 46 [.int .i64 m, .int .i64 d] ∧ At wr b6 49 [.int .i64 m, .int .i64 d] ∧ Below w.heap.size w wr
def RttSome (b5 b6 : Nat) (w wr : World) : Prop := ∃ m d, RttSt b5 b6 m d w wr

theorem rm_bd (m t : Int) (hm : 8 ≤ m) (hm' : m ≤ 512) : 8 ≤ rm m t ∧ rm m t ≤ 512 := by unfold rm rx cutZ; omega
theorem rd_bd (m d t : Int) (hm : 8 ≤ m) (hm' : m ≤ 512) (hd : 0 ≤ d) (hd' : d ≤ 259) : 0 ≤ rd m d t ∧ rd m d t ≤ 259 := by unfold rd rx cutZ; omega
theorem lm_bd (m : Int) (hm : 8 ≤ m) (hm' : m ≤ 512) : 8 ≤ lm m ∧ lm m ≤ 512 := by unfold lm; omega

set_option maxRecDepth 100000 in
set_option maxHeartbeats 2000000 in
theorem walk (a0 : Int) (a1 : Option Addr) (len1 cap1 : Nat) (z1 : List Int) (w : World) (w0 : (Lit.int .i64 a0).wf = true) (w1 : IsRow .i64 w a1 len1 cap1 z1) :
    Calls Try.prog 7 #[.int .i64 a0, .slice a1 len1 cap1] w fun e w' => e = .returned (.bool true) ∧ Below w.heap.size w w' := by
  clear w0
  by_cases hlong : 500 < len1
  · go_enter Try.func7, Try.ntmps7
    go_wp2
    go_ret
    exact ⟨rfl, Below.refl _ _⟩
  have hlen : len1 ≤ 500 := by omega
  clear hlong
  go_enter Try.func7, Try.ntmps7
  go_wp2_with fail
  refine (rtt_new _ _).mono ?_; rintro e wa ⟨rfl, hC⟩
  have HC := Lib.hid hC; clear hC
  go_wp2_with fail
  refine (rrtt_new _ _).mono ?_; rintro e wb ⟨rfl, hC2⟩
  have HC2 := Lib.hid hC2; clear hC2
  go_wp2_with fail
  have st : RttSome wa.heap.size wb.heap.size w (wb.alloc (.cells #[.int .i64 (8 * cutZ a0 1 64), .int .i64 0] 49)) := by
    have h1 : At (wa.alloc (.cells #[.int .i64 (8 * cutZ a0 1 64), .int .i64 0] 46)) wa.heap.size 46 [.int .i64 (8 * cutZ a0 1 64), .int .i64 0] := At.new wa 46 [_, _]
    refine ⟨8 * cutZ a0 1 64, 0, ?_, ?_, by omega, by omega, (h1.chg HC2.out (by simp)).alloc _, At.new wb 49 [_, _], ?_⟩
    · unfold cutZ; omega
    · unfold cutZ; omega
    · have hz := HC.out.size
      have hz2 := HC2.out.size
      simp at hz2
      exact ((((HC.out.below (Nat.le_refl _) (by simp)).alloc (by omega) _).trans (HC2.out.below (by simp; omega) (by simp))).alloc (by omega) _)
  have hz2 : wa.heap.size < wb.heap.size := by have := HC2.out.size; simp at this; omega
  have hz1 : w.heap.size ≤ wa.heap.size := HC.out.size
  have ST := Lib.hid st; clear st HC HC2
  go_loopg [7] len1 (fun g i wr => ∃ k : Nat, g = len1 - k ∧ k ≤ len1 ∧ i = .int .i64 k ∧ RttSome wa.heap.size wb.heap.size w wr)
  case atStart => exact ⟨0, rfl, Nat.zero_le _, rfl, ST.out⟩
  case round =>
    obtain ⟨k, rfl, hk, rfl, m, d, hm, hm', hd, hd', hA1, hA2, hb⟩ := hrel
    by_cases hlt : k < len1
    · obtain ⟨b, off, rfl, hbl, hcell, hwf⟩ := row_at w1 k hlt
      obtain ⟨hn, hn'⟩ := bounds_i64 hwf
      have hcr : wr.cell? ⟨b, off + k, none⟩ = some (.int .i64 (z1.getD k 0)) := by rw [hb.cell hbl]; exact hcell
      clear hcell hwf w1
      obtain ⟨n, hnz⟩ : ∃ n, n = z1.getD k 0 := ⟨_, rfl⟩
      rw [← hnz] at hn hn' hcr
      clear hnz
      have hi0 : (0 : Int) ≤ (k : Int) := by omega
      have hi1 : (k : Int) < (len1 : Int) := by omega
      have HA1 := Lib.hid hA1
      have HA2 := Lib.hid hA2
      have HB := Lib.hid hb
      have hs := hb.size
      have hs1 := hA1.lt
      have hs2 := hA2.lt
      have c0 := hA1.cell 0
      have c1 := hA1.cell 1
      have e0 := hA2.cell 0
      have e1 := hA2.cell 1
      simp at c0 c1 e0 e1
      clear hA1 hA2 hb
      go_upto_if 25 with (fail)
      go_cut [] (fun wx => RttSome wa.heap.size wb.heap.size w wx)
      case first =>
        by_cases hneg : n < 0
        · go_wp2_with fail
          refine wp_region_phase 4 (fun w' => w'.cell? ⟨wa.heap.size, 0, none⟩ = some (.int .i64 m) ∧ w'.cell? ⟨wa.heap.size, 1, none⟩ = some (.int .i64 d) ∧ w'.cell? ⟨wb.heap.size, 0, none⟩ = some (.int .i64 m) ∧ w'.cell? ⟨wb.heap.size, 1, none⟩ = some (.int .i64 d)) (by kernel_rfl) ?_
          refine wpAnyP_with (by first | (go_keep; done) | ((go_split_ands; refine ⟨?_, ?_, ?_, ?_⟩ <;> (first | (rw [hq2.cell (by have hz := hq1.size; simp at hz ⊢; omega) (by simp)]; assumption) | (rw [hq1.cell (by simp; omega) (by simp)]; assumption))))) (fun hSw => ?_)
          refine wpAnyP_take 0 [] (v := ?_) rfl (by kernel_rfl) (fun _ _ _ h => h) (by assumption) (Or.inl ⟨by rfl, ?_⟩) ?_
          rotate_left
          · (intro w hSw; (try dsimp only at hSw); go_simp; try with_reducible rfl)
          simp only [Act.put, List.setIfInBounds_toArray, List.set_cons_zero, List.set_cons_succ]
          refine wpAnyP_take 2 [3] (v := ?_) rfl (by kernel_rfl) (fun _ _ _ h => h) (by assumption) (Or.inl ⟨by rfl, ?_⟩) ?_
          rotate_left
          · (intro w hSw; (try dsimp only at hSw); go_simp; try with_reducible rfl)
          simp only [Act.put, List.setIfInBounds_toArray, List.set_cons_zero, List.set_cons_succ]
          refine wpAnyP_one 1 rfl (by kernel_rfl) (fun K hK => ?_)
          rw [if_pos (by rfl)]
          go_wp2_with (first | (go_at_call 26; refine (rtt_late _ _ _ hm hm').mono ?_; rintro e wc ⟨rfl, hq1⟩) | (go_at_call 27; refine (rrtt_late _ _ _ hm hm').mono ?_; rintro e wd ⟨rfl, hq2⟩; have tA := Lib.hid ((HA1.out.drew.chg hq1 (by simp)).chg hq2 (by simp)); have tB := Lib.hid ((HA2.out.drew.chg hq1 (by simp)).chg hq2 (by simp)); obtain ⟨p0, p1, p2, p3⟩ := tA.out.two; obtain ⟨r0, r1, r2, r3⟩ := tB.out.two))
          refine hold_with (by first | (go_keep; done) | ((try dsimp only at hSw); (go_split_ands; refine ⟨?_, ?_, ?_, ?_⟩ <;> (first | (rw [hq2.cell (by have hz := hq1.size; simp at hz ⊢; omega) (by simp)]; assumption) | (rw [hq1.cell (by simp; omega) (by simp)]; assumption))))) (fun hSn => ?_)
          clear hSw; have hSw := hSn; clear hSn
          refine wpAnyP_one 3 rfl (by kernel_rfl) (fun K hK => ?_)
          rw [if_pos (by rfl)]
          go_wp2_with (first | (go_at_call 26; refine (rtt_late _ _ _ hm hm').mono ?_; rintro e wc ⟨rfl, hq1⟩) | (go_at_call 27; refine (rrtt_late _ _ _ hm hm').mono ?_; rintro e wd ⟨rfl, hq2⟩; have tA := Lib.hid ((HA1.out.drew.chg hq1 (by simp)).chg hq2 (by simp)); have tB := Lib.hid ((HA2.out.drew.chg hq1 (by simp)).chg hq2 (by simp)); obtain ⟨p0, p1, p2, p3⟩ := tA.out.two; obtain ⟨r0, r1, r2, r3⟩ := tB.out.two))
          refine hold_with (by first | (go_keep; done) | ((try dsimp only at hSw); (go_split_ands; refine ⟨?_, ?_, ?_, ?_⟩ <;> (first | (rw [hq2.cell (by have hz := hq1.size; simp at hz ⊢; omega) (by simp)]; assumption) | (rw [hq1.cell (by simp; omega) (by simp)]; assumption))))) (fun hSn => ?_)
          clear hSw; have hSw := hSn; clear hSn
          refine wpAnyP_one 4 rfl (by kernel_rfl) (fun K hK => ?_)
          rw [if_pos (by rfl)]
          go_wp2_with (fail)
          refine ⟨fun hz => (by simp at hz), ?_⟩
          refine wpAnyP_one 5 rfl (by kernel_rfl) (fun K hK => ?_)
          rw [if_pos (by rfl)]
          go_wp2_with (fail)
          refine ⟨fun hz => (by simp at hz), ?_⟩
          refine wpAnyP_done (by kernel_rfl) ?_ _
          go_wp2_with fail
          go_meet
          exact ⟨lm m, d, (lm_bd m hm hm').1, (lm_bd m hm hm').2, hd, hd', ((tA.out.set 0 _).set 1 _).far2 (by omega) _ _ _ _, ((tB.out.far2 (by omega) _ _ _ _).set 0 _).set 1 _, ((((((HB.out.drew.trans (hq1.below (by simp; omega) (by simp))).trans (hq2.below (by have hz := hq1.size; simp at hz; omega) (by simp))).setCell (by show w.heap.size ≤ wa.heap.size; omega) _).setCell (by show w.heap.size ≤ wa.heap.size; omega) _).setCell (by show w.heap.size ≤ wb.heap.size; omega) _).setCell (by show w.heap.size ≤ wb.heap.size; omega) _)⟩
        · go_wp2_with fail
          refine wp_region_phase 12 (fun w' => w'.cell? ⟨wa.heap.size, 0, none⟩ = some (.int .i64 m) ∧ w'.cell? ⟨wa.heap.size, 1, none⟩ = some (.int .i64 d) ∧ w'.cell? ⟨wb.heap.size, 0, none⟩ = some (.int .i64 m) ∧ w'.cell? ⟨wb.heap.size, 1, none⟩ = some (.int .i64 d) ∧ w'.cell? ⟨b, off + k, none⟩ = some (.int .i64 n)) (by kernel_rfl) ?_
          refine wpAnyP_with (by first | (go_keep; done) | ((go_split_ands; refine ⟨?_, ?_, ?_, ?_, ?_⟩ <;> (first | (rw [hq2.cell (by have hz := hq1.size; simp at hz ⊢; omega) (by simp)]; assumption) | (rw [hq1.cell (by simp; omega) (by simp)]; assumption))))) (fun hSw => ?_)
          refine wpAnyP_take 0 [] (v := ?_) rfl (by kernel_rfl) (fun _ _ _ h => h) (by assumption) (Or.inl ⟨by rfl, ?_⟩) ?_
          rotate_left
          · (intro w hSw; (try dsimp only at hSw); go_simp; try with_reducible rfl)
          simp only [Act.put, List.setIfInBounds_toArray, List.set_cons_zero, List.set_cons_succ]
          refine wpAnyP_take 1 [] (v := ?_) rfl (by kernel_rfl) (fun _ _ _ h => h) (by assumption) (Or.inl ⟨by rfl, ?_⟩) ?_
          rotate_left
          · (intro w hSw; (try dsimp only at hSw); go_simp; try with_reducible rfl)
          simp only [Act.put, List.setIfInBounds_toArray, List.set_cons_zero, List.set_cons_succ]
          refine wpAnyP_take 2 [] (v := ?_) rfl (by kernel_rfl) (fun _ _ _ h => h) (by assumption) (Or.inl ⟨by rfl, ?_⟩) ?_
          rotate_left
          · (intro w hSw; (try dsimp only at hSw); go_simp; try with_reducible rfl)
          simp only [Act.put, List.setIfInBounds_toArray, List.set_cons_zero, List.set_cons_succ]
          refine wpAnyP_take 3 [] (v := ?_) rfl (by kernel_rfl) (fun _ _ _ h => h) (by assumption) (Or.inl ⟨by rfl, ?_⟩) ?_
          rotate_left
          · (intro w hSw; (try dsimp only at hSw); go_simp; try with_reducible rfl)
          simp only [Act.put, List.setIfInBounds_toArray, List.set_cons_zero, List.set_cons_succ]
          refine wpAnyP_take 4 [] (v := ?_) rfl (by kernel_rfl) (fun _ _ _ h => h) (by assumption) (Or.inl ⟨by rfl, ?_⟩) ?_
          rotate_left
          · (intro w hSw; (try dsimp only at hSw); go_simp; try with_reducible rfl)
          simp only [Act.put, List.setIfInBounds_toArray, List.set_cons_zero, List.set_cons_succ]
          refine wpAnyP_take 6 [11] (v := ?_) rfl (by kernel_rfl) (fun _ _ _ h => h) (by assumption) (Or.inl ⟨by rfl, ?_⟩) ?_
          rotate_left
          · (intro w hSw; (try dsimp only at hSw); go_simp; try with_reducible rfl)
          simp only [Act.put, List.setIfInBounds_toArray, List.set_cons_zero, List.set_cons_succ]
          refine wpAnyP_take 7 [11, 10, 9] (v := ?_) rfl (by kernel_rfl) (fun _ _ _ h => h) (by assumption) (Or.inl ⟨by rfl, ?_⟩) ?_
          rotate_left
          · (intro w hSw; (try dsimp only at hSw); go_simp; try with_reducible rfl)
          simp only [Act.put, List.setIfInBounds_toArray, List.set_cons_zero, List.set_cons_succ]
          refine wpAnyP_take 8 [11, 10, 9] (v := ?_) rfl (by kernel_rfl) (fun _ _ _ h => h) (by assumption) (Or.inl ⟨by rfl, ?_⟩) ?_
          rotate_left
          · (intro w hSw; (try dsimp only at hSw); go_simp; try with_reducible rfl)
          simp only [Act.put, List.setIfInBounds_toArray, List.set_cons_zero, List.set_cons_succ]
          refine wpAnyP_take 9 [11, 10] (v := ?_) rfl (by kernel_rfl) (fun _ _ _ h => h) (by assumption) (Or.inl ⟨by rfl, ?_⟩) ?_
          rotate_left
          · (intro w hSw; (try dsimp only at hSw); go_simp; try with_reducible rfl)
          simp only [Act.put, List.setIfInBounds_toArray, List.set_cons_zero, List.set_cons_succ]
          refine wpAnyP_take 10 [11] (v := ?_) rfl (by kernel_rfl) (fun _ _ _ h => h) (by assumption) (Or.inl ⟨by rfl, ?_⟩) ?_
          rotate_left
          · (intro w hSw; (try dsimp only at hSw); go_simp; try with_reducible rfl)
          simp only [Act.put, List.setIfInBounds_toArray, List.set_cons_zero, List.set_cons_succ]
          refine wpAnyP_one 5 rfl (by kernel_rfl) (fun K hK => ?_)
          rw [if_pos (by rfl)]
          go_wp2_with (first | (go_at_call 28; refine (rtt_sample _ _ _ _ hm hm' hd hd').mono ?_; rintro e wc ⟨rfl, hq1⟩) | (go_at_call 29; refine (rrtt_sample _ _ _ _ hm hm' hd hd').mono ?_; rintro e wd ⟨rfl, hq2⟩; have tA := Lib.hid ((HA1.out.drew.chg hq1 (by simp)).chg hq2 (by simp)); have tB := Lib.hid ((HA2.out.drew.chg hq1 (by simp)).chg hq2 (by simp)); obtain ⟨p0, p1, p2, p3⟩ := tA.out.two; obtain ⟨r0, r1, r2, r3⟩ := tB.out.two))
          refine hold_with (by first | (go_keep; done) | ((try dsimp only at hSw); (go_split_ands; refine ⟨?_, ?_, ?_, ?_, ?_⟩ <;> (first | (rw [hq2.cell (by have hz := hq1.size; simp at hz ⊢; omega) (by simp)]; assumption) | (rw [hq1.cell (by simp; omega) (by simp)]; assumption))))) (fun hSn => ?_)
          clear hSw; have hSw := hSn; clear hSn
          refine wpAnyP_one 11 rfl (by kernel_rfl) (fun K hK => ?_)
          rw [if_pos (by rfl)]
          go_wp2_with (first | (go_at_call 28; refine (rtt_sample _ _ _ _ hm hm' hd hd').mono ?_; rintro e wc ⟨rfl, hq1⟩) | (go_at_call 29; refine (rrtt_sample _ _ _ _ hm hm' hd hd').mono ?_; rintro e wd ⟨rfl, hq2⟩; have tA := Lib.hid ((HA1.out.drew.chg hq1 (by simp)).chg hq2 (by simp)); have tB := Lib.hid ((HA2.out.drew.chg hq1 (by simp)).chg hq2 (by simp)); obtain ⟨p0, p1, p2, p3⟩ := tA.out.two; obtain ⟨r0, r1, r2, r3⟩ := tB.out.two))
          refine hold_with (by first | (go_keep; done) | ((try dsimp only at hSw); (go_split_ands; refine ⟨?_, ?_, ?_, ?_, ?_⟩ <;> (first | (rw [hq2.cell (by have hz := hq1.size; simp at hz ⊢; omega) (by simp)]; assumption) | (rw [hq1.cell (by simp; omega) (by simp)]; assumption))))) (fun hSn => ?_)
          clear hSw; have hSw := hSn; clear hSn
          refine wpAnyP_one 12 rfl (by kernel_rfl) (fun K hK => ?_)
          rw [if_pos (by rfl)]
          go_wp2_with (fail)
          refine ⟨fun hz => (by simp at hz), ?_⟩
          refine wpAnyP_one 13 rfl (by kernel_rfl) (fun K hK => ?_)
          rw [if_pos (by rfl)]
          go_wp2_with (fail)
          refine ⟨fun hz => (by simp at hz), ?_⟩
          refine wpAnyP_done (by kernel_rfl) ?_ _
          go_wp2_with fail
          go_meet
          exact ⟨rm m n, rd m d n, (rm_bd m n hm hm').1, (rm_bd m n hm hm').2, (rd_bd m d n hm hm' hd hd').1, (rd_bd m d n hm hm' hd hd').2, ((tA.out.set 0 _).set 1 _).far2 (by omega) _ _ _ _, ((tB.out.far2 (by omega) _ _ _ _).set 0 _).set 1 _, ((((((HB.out.drew.trans (hq1.below (by simp; omega) (by simp))).trans (hq2.below (by have hz := hq1.size; simp at hz; omega) (by simp))).setCell (by show w.heap.size ≤ wa.heap.size; omega) _).setCell (by show w.heap.size ≤ wa.heap.size; omega) _).setCell (by show w.heap.size ≤ wb.heap.size; omega) _).setCell (by show w.heap.size ≤ wb.heap.size; omega) _)⟩
      case rest =>
        clear c0 c1 e0 e1 HA1 HA2 HB hs hs1 hs2 hm hm' hd hd' hcr
        obtain ⟨m, d, hm, hm', hd, hd', hA1, hA2, hb⟩ := hcut
        have HA1 := Lib.hid hA1
        have HA2 := Lib.hid hA2
        have HB := Lib.hid hb
        have hs1 := hA1.lt
        have hs2 := hA2.lt
        obtain ⟨c0, c1, _, _⟩ := hA1.two
        obtain ⟨e0, e1, _, _⟩ := hA2.two
        clear hA1 hA2 hb
        have g1 : decide (m / 8 < 1) = false := by simp; omega
        have g2 : decide (64 < m / 8) = false := by simp; omega
        have hL := Lib.hid (Chg.refl [] wc)
        have hz0 : wc.heap.size ≤ wc.heap.size := Nat.le_refl _
        go_wp2_with fail
        refine wp_region_phase 30 (fun w' => w'.cell? ⟨wa.heap.size, 0, none⟩ = some (.int .i64 m) ∧ w'.cell? ⟨wa.heap.size, 1, none⟩ = some (.int .i64 d) ∧ w'.cell? ⟨wb.heap.size, 0, none⟩ = some (.int .i64 m) ∧ w'.cell? ⟨wb.heap.size, 1, none⟩ = some (.int .i64 d) ∧ Chg [] wc w') (by kernel_rfl) ?_
        refine wpAnyP_with (by first | (go_keep; done) | ((go_split_ands; first | exact ⟨by simpa using c0, by simpa using c1, by simpa using e0, by simpa using e1, (Chg.refl _ _).drew⟩ | (have hy := Chg.trans (by assumption) hq; refine ⟨?_, ?_, ?_, ?_, hy⟩ <;> (rw [hy.cell (by simp; omega) (by simp)]; assumption))))) (fun hSw => ?_)
        refine wpAnyP_take 0 [26, 25, 21, 20, 14, 13, 6, 1] (v := ?_) rfl (by kernel_rfl) (fun _ _ _ h => h) (by assumption) (Or.inl ⟨by rfl, ?_⟩) ?_
        rotate_left
        · (intro w hSw; (try dsimp only at hSw); go_simp; try with_reducible rfl)
        simp only [Act.put, List.setIfInBounds_toArray, List.set_cons_zero, List.set_cons_succ]
        refine wpAnyP_take 2 [26, 25, 21, 20, 14, 13, 6, 5, 4, 3] (v := ?_) rfl (by kernel_rfl) (fun _ _ _ h => h) (by assumption) (Or.inl ⟨by rfl, ?_⟩) ?_
        rotate_left
        · (intro w hSw; (try dsimp only at hSw); go_simp; try with_reducible rfl)
        simp only [Act.put, List.setIfInBounds_toArray, List.set_cons_zero, List.set_cons_succ]
        refine wpAnyP_take 3 [26, 25, 21, 20, 14, 13, 6, 5, 4] (v := ?_) rfl (by kernel_rfl) (fun _ _ _ h => h) (by assumption) (Or.inl ⟨by rfl, ?_⟩) ?_
        rotate_left
        · (intro w hSw; (try dsimp only at hSw); go_simp; try with_reducible rfl)
        simp only [Act.put, List.setIfInBounds_toArray, List.set_cons_zero, List.set_cons_succ]
        refine wpAnyP_take 4 [26, 25, 21, 20, 14, 13, 6, 5] (v := ?_) rfl (by kernel_rfl) (fun _ _ _ h => h) (by assumption) (Or.inl ⟨by rfl, ?_⟩) ?_
        rotate_left
        · (intro w hSw; (try dsimp only at hSw); go_simp; try with_reducible rfl)
        simp only [Act.put, List.setIfInBounds_toArray, List.set_cons_zero, List.set_cons_succ]
        refine wpAnyP_one 1 rfl (by kernel_rfl) (fun K hK => ?_)
        rw [if_pos (by rfl)]
        go_wp2_with (first | (go_at_call 30; refine (rtt_mean _ _ _ hm hm').mono ?_; rintro e wx ⟨rfl, hq⟩) | (go_at_call 31; refine (rtt_off _ _ _ hd hd').mono ?_; rintro e wx ⟨rfl, hq⟩) | (go_at_call 32; refine (rtt_wait _ _ _ hm hm' hd hd').mono ?_; rintro e wx ⟨rfl, hq⟩) | (go_at_call 33; refine (rrtt_wait _ _ _ hm hm' hd hd').mono ?_; rintro e wx ⟨rfl, hq⟩))
        refine hold_with (by first | (go_keep; done) | ((try dsimp only at hSw); (go_split_ands; first | exact ⟨by simpa using c0, by simpa using c1, by simpa using e0, by simpa using e1, (Chg.refl _ _).drew⟩ | (have hy := Chg.trans (by assumption) hq; refine ⟨?_, ?_, ?_, ?_, hy⟩ <;> (rw [hy.cell (by simp; omega) (by simp)]; assumption))))) (fun hSn => ?_)
        clear hSw; have hSw := hSn; clear hSn
        refine wpAnyP_take 5 [26, 25, 21, 20, 14, 13, 6] (v := ?_) rfl (by kernel_rfl) (fun _ _ _ h => h) (by assumption) (Or.inl ⟨by rfl, ?_⟩) ?_
        rotate_left
        · (intro w hSw; (try dsimp only at hSw); go_simp; try with_reducible rfl)
        simp only [Act.put, List.setIfInBounds_toArray, List.set_cons_zero, List.set_cons_succ]
        refine wpAnyP_take 6 [26, 25, 21, 20, 14, 13] (v := ?_) rfl (by kernel_rfl) (fun _ _ _ h => h) (by assumption) (Or.inl ⟨by rfl, ?_⟩) ?_
        rotate_left
        · (intro w hSw; (try dsimp only at hSw); go_simp; try with_reducible rfl)
        simp only [Act.put, List.setIfInBounds_toArray, List.set_cons_zero, List.set_cons_succ]
        refine wpAnyP_take 7 [26, 25, 21, 20, 14, 8] (v := ?_) rfl (by kernel_rfl) (fun _ _ _ h => h) (by assumption) (Or.inl ⟨by rfl, ?_⟩) ?_
        rotate_left
        · (intro w hSw; (try dsimp only at hSw); go_simp; try with_reducible rfl)
        simp only [Act.put, List.setIfInBounds_toArray, List.set_cons_zero, List.set_cons_succ]
        refine wpAnyP_take 9 [26, 25, 21, 20, 14, 13, 12, 11, 10] (v := ?_) rfl (by kernel_rfl) (fun _ _ _ h => h) (by assumption) (Or.inl ⟨by rfl, ?_⟩) ?_
        rotate_left
        · (intro w hSw; (try dsimp only at hSw); go_simp; try with_reducible rfl)
        simp only [Act.put, List.setIfInBounds_toArray, List.set_cons_zero, List.set_cons_succ]
        refine wpAnyP_take 10 [26, 25, 21, 20, 14, 13, 12, 11] (v := ?_) rfl (by kernel_rfl) (fun _ _ _ h => h) (by assumption) (Or.inl ⟨by rfl, ?_⟩) ?_
        rotate_left
        · (intro w hSw; (try dsimp only at hSw); go_simp; try with_reducible rfl)
        simp only [Act.put, List.setIfInBounds_toArray, List.set_cons_zero, List.set_cons_succ]
        refine wpAnyP_take 11 [26, 25, 21, 20, 14, 13, 12] (v := ?_) rfl (by kernel_rfl) (fun _ _ _ h => h) (by assumption) (Or.inl ⟨by rfl, ?_⟩) ?_
        rotate_left
        · (intro w hSw; (try dsimp only at hSw); go_simp; try with_reducible rfl)
        simp only [Act.put, List.setIfInBounds_toArray, List.set_cons_zero, List.set_cons_succ]
        refine wpAnyP_one 8 rfl (by kernel_rfl) (fun K hK => ?_)
        rw [if_pos (by rfl)]
        go_wp2_with (first | (go_at_call 30; refine (rtt_mean _ _ _ hm hm').mono ?_; rintro e wx ⟨rfl, hq⟩) | (go_at_call 31; refine (rtt_off _ _ _ hd hd').mono ?_; rintro e wx ⟨rfl, hq⟩) | (go_at_call 32; refine (rtt_wait _ _ _ hm hm' hd hd').mono ?_; rintro e wx ⟨rfl, hq⟩) | (go_at_call 33; refine (rrtt_wait _ _ _ hm hm' hd hd').mono ?_; rintro e wx ⟨rfl, hq⟩))
        refine hold_with (by first | (go_keep; done) | ((try dsimp only at hSw); (go_split_ands; first | exact ⟨by simpa using c0, by simpa using c1, by simpa using e0, by simpa using e1, (Chg.refl _ _).drew⟩ | (have hy := Chg.trans (by assumption) hq; refine ⟨?_, ?_, ?_, ?_, hy⟩ <;> (rw [hy.cell (by simp; omega) (by simp)]; assumption))))) (fun hSn => ?_)
        clear hSw; have hSw := hSn; clear hSn
        refine wpAnyP_take 12 [26, 25, 21, 20, 14, 13] (v := ?_) rfl (by kernel_rfl) (fun _ _ _ h => h) (by assumption) (Or.inl ⟨by rfl, ?_⟩) ?_
        rotate_left
        · (intro w hSw; (try dsimp only at hSw); go_simp; try with_reducible rfl)
        simp only [Act.put, List.setIfInBounds_toArray, List.set_cons_zero, List.set_cons_succ]
        refine wpAnyP_take 13 [26, 25, 21, 20, 14] (v := ?_) rfl (by kernel_rfl) (fun _ _ _ h => h) (by assumption) (Or.inl ⟨by rfl, ?_⟩) ?_
        rotate_left
        · (intro w hSw; (try dsimp only at hSw); go_simp; try with_reducible rfl)
        simp only [Act.put, List.setIfInBounds_toArray, List.set_cons_zero, List.set_cons_succ]
        refine wpAnyP_take 14 [26, 25, 21, 20] (v := ?_) rfl (by kernel_rfl) (fun _ _ _ h => h) (by assumption) (Or.inl ⟨by rfl, ?_⟩) ?_
        rotate_left
        · (intro w hSw; (try dsimp only at hSw); go_simp; try with_reducible rfl)
        simp only [Act.put, List.setIfInBounds_toArray, List.set_cons_zero, List.set_cons_succ]
        refine wpAnyP_take 15 [26, 25, 21, 18, 16] (v := ?_) rfl (by kernel_rfl) (fun _ _ _ h => h) (by assumption) (Or.inl ⟨by rfl, ?_⟩) ?_
        rotate_left
        · (intro w hSw; (try dsimp only at hSw); go_simp; try with_reducible rfl)
        simp only [Act.put, List.setIfInBounds_toArray, List.set_cons_zero, List.set_cons_succ]
        refine wpAnyP_take 17 [26, 25, 21, 18] (v := ?_) rfl (by kernel_rfl) (fun _ _ _ h => h) (by assumption) (Or.inl ⟨by rfl, ?_⟩) ?_
        rotate_left
        · (intro w hSw; (try dsimp only at hSw); go_simp; try with_reducible rfl)
        simp only [Act.put, List.setIfInBounds_toArray, List.set_cons_zero, List.set_cons_succ]
        refine wpAnyP_one 16 rfl (by kernel_rfl) (fun K hK => ?_)
        rw [if_pos (by rfl)]
        go_wp2_with (first | (go_at_call 30; refine (rtt_mean _ _ _ hm hm').mono ?_; rintro e wx ⟨rfl, hq⟩) | (go_at_call 31; refine (rtt_off _ _ _ hd hd').mono ?_; rintro e wx ⟨rfl, hq⟩) | (go_at_call 32; refine (rtt_wait _ _ _ hm hm' hd hd').mono ?_; rintro e wx ⟨rfl, hq⟩) | (go_at_call 33; refine (rrtt_wait _ _ _ hm hm' hd hd').mono ?_; rintro e wx ⟨rfl, hq⟩))
        refine hold_with (by first | (go_keep; done) | ((try dsimp only at hSw); (go_split_ands; first | exact ⟨by simpa using c0, by simpa using c1, by simpa using e0, by simpa using e1, (Chg.refl _ _).drew⟩ | (have hy := Chg.trans (by assumption) hq; refine ⟨?_, ?_, ?_, ?_, hy⟩ <;> (rw [hy.cell (by simp; omega) (by simp)]; assumption))))) (fun hSn => ?_)
        clear hSw; have hSw := hSn; clear hSn
        refine wpAnyP_one 18 rfl (by kernel_rfl) (fun K hK => ?_)
        rw [if_pos (by rfl)]
        go_wp2_with (first | (go_at_call 30; refine (rtt_mean _ _ _ hm hm').mono ?_; rintro e wx ⟨rfl, hq⟩) | (go_at_call 31; refine (rtt_off _ _ _ hd hd').mono ?_; rintro e wx ⟨rfl, hq⟩) | (go_at_call 32; refine (rtt_wait _ _ _ hm hm' hd hd').mono ?_; rintro e wx ⟨rfl, hq⟩) | (go_at_call 33; refine (rrtt_wait _ _ _ hm hm' hd hd').mono ?_; rintro e wx ⟨rfl, hq⟩))
        refine hold_with (by first | (go_keep; done) | ((try dsimp only at hSw); (go_split_ands; first | exact ⟨by simpa using c0, by simpa using c1, by simpa using e0, by simpa using e1, (Chg.refl _ _).drew⟩ | (have hy := Chg.trans (by assumption) hq; refine ⟨?_, ?_, ?_, ?_, hy⟩ <;> (rw [hy.cell (by simp; omega) (by simp)]; assumption))))) (fun hSn => ?_)
        clear hSw; have hSw := hSn; clear hSn
        refine wpAnyP_take 19 [26, 25, 21, 20] (v := ?_) rfl (by kernel_rfl) (fun _ _ _ h => h) (by assumption) (Or.inl ⟨by rfl, ?_⟩) ?_
        rotate_left
        · (intro w hSw; (try dsimp only at hSw); go_simp; try with_reducible rfl)
        simp only [Act.put, List.setIfInBounds_toArray, List.set_cons_zero, List.set_cons_succ]
        refine wpAnyP_take 20 [26, 25, 21] (v := ?_) rfl (by kernel_rfl) (fun _ _ _ h => h) (by assumption) (Or.inl ⟨by rfl, ?_⟩) ?_
        rotate_left
        · (intro w hSw; (try dsimp only at hSw); go_simp; try with_reducible rfl)
        simp only [Act.put, List.setIfInBounds_toArray, List.set_cons_zero, List.set_cons_succ]
        refine wpAnyP_take 21 [26, 25] (v := ?_) rfl (by kernel_rfl) (fun _ _ _ h => h) (by assumption) (Or.inl ⟨by rfl, ?_⟩) ?_
        rotate_left
        · (intro w hSw; (try dsimp only at hSw); go_simp; try with_reducible rfl)
        simp only [Act.put, List.setIfInBounds_toArray, List.set_cons_zero, List.set_cons_succ]
        refine wpAnyP_one 22 rfl (by kernel_rfl) (fun K hK => ?_)
        rw [if_pos (by rfl)]
        go_wp2_with (fail)
        refine hold_with (by first | (go_keep; done) | ((try dsimp only at hSw); (go_split_ands; first | exact ⟨by simpa using c0, by simpa using c1, by simpa using e0, by simpa using e1, (Chg.refl _ _).drew⟩ | (have hy := Chg.trans (by assumption) hq; refine ⟨?_, ?_, ?_, ?_, hy⟩ <;> (rw [hy.cell (by simp; omega) (by simp)]; assumption))))) (fun hSn => ?_)
        clear hSw; have hSw := hSn; clear hSn
        refine wpAnyP_one 23 rfl (by kernel_rfl) (fun K hK => ?_)
        rw [if_pos (by rfl)]
        go_wp2_with (first | (go_at_call 30; refine (rtt_mean _ _ _ hm hm').mono ?_; rintro e wx ⟨rfl, hq⟩) | (go_at_call 31; refine (rtt_off _ _ _ hd hd').mono ?_; rintro e wx ⟨rfl, hq⟩) | (go_at_call 32; refine (rtt_wait _ _ _ hm hm' hd hd').mono ?_; rintro e wx ⟨rfl, hq⟩) | (go_at_call 33; refine (rrtt_wait _ _ _ hm hm' hd hd').mono ?_; rintro e wx ⟨rfl, hq⟩))
        refine hold_with (by first | (go_keep; done) | ((try dsimp only at hSw); (go_split_ands; first | exact ⟨by simpa using c0, by simpa using c1, by simpa using e0, by simpa using e1, (Chg.refl _ _).drew⟩ | (have hy := Chg.trans (by assumption) hq; refine ⟨?_, ?_, ?_, ?_, hy⟩ <;> (rw [hy.cell (by simp; omega) (by simp)]; assumption))))) (fun hSn => ?_)
        clear hSw; have hSw := hSn; clear hSn
        refine wpAnyP_take 24 [26, 25] (v := ?_) rfl (by kernel_rfl) (fun _ _ _ h => h) (by assumption) (Or.inl ⟨by rfl, ?_⟩) ?_
        rotate_left
        · (intro w hSw; (try dsimp only at hSw); go_simp; try with_reducible rfl)
        simp only [Act.put, List.setIfInBounds_toArray, List.set_cons_zero, List.set_cons_succ]
        refine wpAnyP_take 25 [26] (v := ?_) rfl (by kernel_rfl) (fun _ _ _ h => h) (by assumption) (Or.inl ⟨by rfl, ?_⟩) ?_
        rotate_left
        · (intro w hSw; (try dsimp only at hSw); go_simp; try with_reducible rfl)
        simp only [Act.put, List.setIfInBounds_toArray, List.set_cons_zero, List.set_cons_succ]
        refine wpAnyP_take 26 [] (v := ?_) rfl (by kernel_rfl) (fun _ _ _ h => h) (by assumption) (Or.inl ⟨by rfl, ?_⟩) ?_
        rotate_left
        · (intro w hSw; (try dsimp only at hSw); go_simp; try with_reducible rfl)
        simp only [Act.put, List.setIfInBounds_toArray, List.set_cons_zero, List.set_cons_succ]
        refine wpAnyP_one 27 rfl (by kernel_rfl) (fun K hK => ?_)
        rw [if_pos (by rfl)]
        go_wp2_with (fail)
        refine hold_with (by first | (go_keep; done) | ((try dsimp only at hSw); (go_split_ands; first | exact ⟨by simpa using c0, by simpa using c1, by simpa using e0, by simpa using e1, (Chg.refl _ _).drew⟩ | (have hy := Chg.trans (by assumption) hq; refine ⟨?_, ?_, ?_, ?_, hy⟩ <;> (rw [hy.cell (by simp; omega) (by simp)]; assumption))))) (fun hSn => ?_)
        clear hSw; have hSw := hSn; clear hSn
        refine wpAnyP_one 28 rfl (by kernel_rfl) (fun K hK => ?_)
        rw [if_pos (by rfl)]
        go_wp2_with (first | (go_at_call 30; refine (rtt_mean _ _ _ hm hm').mono ?_; rintro e wx ⟨rfl, hq⟩) | (go_at_call 31; refine (rtt_off _ _ _ hd hd').mono ?_; rintro e wx ⟨rfl, hq⟩) | (go_at_call 32; refine (rtt_wait _ _ _ hm hm' hd hd').mono ?_; rintro e wx ⟨rfl, hq⟩) | (go_at_call 33; refine (rrtt_wait _ _ _ hm hm' hd hd').mono ?_; rintro e wx ⟨rfl, hq⟩))
        refine hold_with (by first | (go_keep; done) | ((try dsimp only at hSw); (go_split_ands; first | exact ⟨by simpa using c0, by simpa using c1, by simpa using e0, by simpa using e1, (Chg.refl _ _).drew⟩ | (have hy := Chg.trans (by assumption) hq; refine ⟨?_, ?_, ?_, ?_, hy⟩ <;> (rw [hy.cell (by simp; omega) (by simp)]; assumption))))) (fun hSn => ?_)
        clear hSw; have hSw := hSn; clear hSn
        refine wpAnyP_take 29 [] (v := ?_) rfl (by kernel_rfl) (fun _ _ _ h => h) (by assumption) (Or.inl ⟨by rfl, ?_⟩) ?_
        rotate_left
        · (intro w hSw; (try dsimp only at hSw); go_simp; try with_reducible rfl)
        simp only [Act.put, List.setIfInBounds_toArray, List.set_cons_zero, List.set_cons_succ]
        refine wpAnyP_one 30 rfl (by kernel_rfl) (fun K hK => ?_)
        rw [if_pos (by rfl)]
        go_wp2_with (fail)
        refine ⟨fun hz => (by simp at hz), ?_⟩
        refine wpAnyP_done (by kernel_rfl) ?_ _
        obtain ⟨_, _, _, _, hy⟩ := hSw
        have HY := Lib.hid hy; clear hy
        go_wp2_with fail
        go_roundg (len1 - (k + 1))
        case measure => omega
        case rel =>
          exact ⟨k + 1, rfl, by omega, by go_num, m, d, hm, hm', hd, hd', HA1.out.chg HY.out (by simp), HA2.out.chg HY.out (by simp), HB.out.trans (HY.out.below (by omega) (by simp))⟩
    · go_wp2_with fail
      refine (alive19_any _).mono ?_; rintro e w' ⟨rfl, hC⟩
      go_wp2_with fail
      go_ret
      exact ⟨rfl, hb.trans (hC.below hb.size (by simp))⟩

/-! ### THE ROW's STEP: WRITTEN OUT: LEAVE IT -/
set_option maxRecDepth 100000 in
theorem lifted (os : Os) (started : os.Started) (H : Type) (enc : TypeId × Value → H) :
    ReturnsInHanded {} Try.checked os 7 .any (Rows.rttPlaysSpec.pre6 enc Try.prog Try.f7 Rows.rttPlaysRow.domain false) (Rows.rttPlaysSpec.post enc Try.prog Try.f7 false true false false) := by
  refine returnsInHanded_of_change (C := Try.checked) own started (by kernel_rfl) Try.func7
    (ChangeSpec.witness6 (enc := enc) (C := Try.checked) false ⟨#[], #[.int .i64 0, .slice none 0 0], []⟩ 8 (by kernel_rfl) (by kernel_rfl) (by kernel_rfl) (by kernel_rfl)) ?_
  intro W base args ds gs before hval0 hW hcnd _
  have hval : ∀ (j : Nat) t v, Try.f7.params[j]? = some t → args[j]? = some v → Value.okWide Try.prog W .any base t v := hval0
  have hW' := hW
  obtain ⟨p, q, hA0, hV, rfl, hfz, hnd⟩ := hW
  have hA : DataW.TrodAll enc Try.prog W 0 (fun _ => true) true Try.f7.params.toList args.toList ds p := hA0
  rw [Try.params7] at hA hval
  obtain ⟨v0, vs0, d0, ds0, p0, q0, hargs, rfl, rfl, h0, r0⟩ := trodAll_cons hA
  obtain ⟨v1, vs1, d1, ds1, p1, q1, rfl, rfl, rfl, h1, r1⟩ := trodAll_cons r0
  obtain ⟨rfl, rfl, rfl⟩ := trodAll_nil r1
  obtain rfl : args = #[v0, v1] := by cases args; simp_all
  obtain ⟨rfl, rfl⟩ := trodVars_none hV
  obtain ⟨a0, rfl, rfl, rfl, w0⟩ := open_int Try.underlying3 (hval 0 3 v0 rfl rfl) h0
  obtain ⟨a1, len1, cap1, rfl⟩ := okWide_slice Try.underlying44 (hval 1 44 v1 rfl rfl)
  have k1 := h1
  have lt1 : ∀ x ∈ p1, x.block < W.heap.size := by obtain ⟨m, hm⟩ := k1; exact DataW.trod_lt m _ _ _ hm
  obtain ⟨z1, w1⟩ : ∃ zs, IsRow .i64 W a1 len1 cap1 zs := by
    obtain ⟨fuel, hf⟩ := h1
    rcases open_ints Try.underlying44 Try.underlying3 (by kernel_rfl) hf with ⟨hcs, _⟩ | ⟨x, l, c, zs, hcs, _, hl, hm, hz, _, hcell, hwz⟩
    · simp [Value.cells] at hcs
      obtain ⟨rfl, rfl, rfl⟩ := hcs
      exact ⟨[], .inl ⟨rfl, rfl, rfl, rfl⟩⟩
    · simp [Value.cells] at hcs
      obtain ⟨rfl, rfl, rfl⟩ := hcs
      exact ⟨zs, .inr ⟨_, rfl, hl, hm, by simpa using hz, hcell, hwz⟩⟩
  clear hA0 hval0
  refine (walk a0 a1 len1 cap1 z1 W w0 w1).mono fun e W' ⟨he, bel⟩ => ?_
  subst he
  exact ⟨_, rfl, _, _, _, [], _, [], hW', trodAll_mk1 (shut_bool Try.underlying4 _), (trodAll_cons_mk (shut_int Try.underlying3 w0) (trodAll_cons_mk (Below.trod laidOut (by kernel_rfl) (of_decide_eq_true (by kernel_rfl)) k1 bel lt1) trodAll_mk0)), rfl, bel.frame _, fun h => by cases h⟩

theorem over : Rows.rttPlaysRow.holds Try.pinned (OpenSpec.ofChange Rows.rttPlaysSpec) :=
  OpenClaim.holds_of_wide 7 Try.f7 rfl rfl rfl rfl rfl rfl rfl ⟨rfl, rfl, rfl, rfl, rfl⟩ rfl rfl rfl rfl rfl (by kernel_rfl) Try.func7 (by kernel_rfl)
    (of_decide_eq_true (by kernel_rfl)) (by unfold Func.isWrapper; first | (rw [if_pos (by decide +kernel)]; kernel_rfl) | (rw [if_neg (by decide +kernel)]; exact ⟨rfl, rfl⟩))
    (fun os started H enc _ => lifted os started H enc)

/-- ████ THE STATEMENT ████ -/
theorem proved : Rows.RttPlaysSaid := over
#print axioms proved
end Go.Proofs.Ytnmjfeeogphlcaa.rttPlays
