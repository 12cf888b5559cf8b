/- Proved: for every int and every slice of ints the Go law catwalklaw20.WinOpens returns true, and its arguments read behind the call as they read before. Conditions: none.
The frame of this text was written by the kit's proof-skeleton program; the walk and its lemmas are ours. -/
import Derived.Test.YtnmjfeeogphlcaaWinWalks
import Derived.Test.YtnmjfeeogphlcaaRow
import Derived.Test.YtnmjfeeogphlcaaPhase
import Derived.WalkKit
import Derived.ProofKit
import Derived.OpenShut
import Derived.ShutString
import Derived.ChangeOld
import Derived.Below
namespace Go.Proofs.Ytnmjfeeogphlcaa.winOpens
open Go.ChangeShapes Go.WideShapes Go.ChangeAt Go.RowKit
open Go.ChangeMaps (open_string shut_string)
set_option linter.unusedVariables false
set_option linter.unusedSimpArgs false
attribute [local go_sem ↓] Go.wp_at_zero Go.wp_at_succ

theorem own : ownKnob Try.prog.godebug = none := by kernel_rfl
theorem laidOut : laidOutB Try.prog = true := by kernel_rfl

/-- WHAT THE WALK IS TOLD OF A SLICE OF INTEGERS THAT CAME IN: it is nil; or it leads to a row of 'cap' cells, the numbers 'zs' (the first 'len' are its elements, the rest its spare room), each fitting its kind. -/
def IsRow (k : IntKind) (w : World) (a : Option Addr) (len cap : Nat) (zs : List Int) : Prop :=
  (a = none ∧ len = 0 ∧ cap = 0 ∧ zs = []) ∨
  ∃ x, a = some x ∧ len ≤ cap ∧ cap ≤ maxLen ∧ zs.length = cap ∧ (∀ i, i < zs.length → w.cell? (x.add i) = some (.int k (zs.getD i 0))) ∧ ∀ n ∈ zs, (Lit.int k n).wf = true

/-! ### STEP 1: THE WALK: the Go text returns true, AND WRITES NOTHING THAT WAS THERE: 'Below w.heap.size w w'' (Derived/Below.lean: '.refl', '.alloc', '.drew', '.setCell' at a new block, '.trans'). Open each 'IsRow' by 'rcases' AHEAD of 'go_enter'; part every test ahead of the walk. -/
/-- Behind j acks in a row either nothing has grown, and so many were acked since; or it has grown, or is as great as it may be. -/
theorem wit_grow {s a mo : Int} (h : Win s a mo) : ∀ j : Nat, ((wit mo j (s, a)).1 = s ∧ (wit mo j (s, a)).2 = a + j) ∨ min (s + 1) mo ≤ (wit mo j (s, a)).1
  | 0 => Or.inl ⟨rfl, by show a = a + 0; omega⟩
  | j + 1 => by
    have ih := wit_grow h j
    obtain ⟨h1, h2, h3, h4, h5⟩ := h.it j
    show ((wst mo (wit mo j (s, a))).1 = s ∧ (wst mo (wit mo j (s, a))).2 = a + ((j + 1 : Nat) : Int)) ∨ min (s + 1) mo ≤ (wst mo (wit mo j (s, a))).1
    generalize wit mo j (s, a) = p at *
    obtain ⟨x, y⟩ := p
    unfold wst
    simp only at *
    split <;> simp only <;> omega
theorem wit_16 {s a mo : Int} (h : Win s a mo) : min (s + 1) mo ≤ (wit mo 16 (s, a)).1 := by
  have h1 := wit_grow h 16
  obtain ⟨_, _, _, _, h6⟩ := h.it 16
  obtain ⟨_, _, _, h4, _⟩ := h
  omega
theorem cut16 : (cutZ 16 0 16).toNat = 16 := by decide

/-- A window behind n rounds of 16 acks. -/
def OpenSt (b : Nat) (n : Nat) (w wr : World) : Prop := ∃ s a mo, Win s a mo ∧ min ((n : Int) + 1) mo ≤ s ∧ At wr b 57 [.int .i64 s, .int .i64 mo, .int .i64 a] ∧ Below w.heap.size w wr

set_option maxRecDepth 100000 in
set_option maxHeartbeats 4000000 in
theorem walk (a0 : Int) (a1 : Option Addr) (len1 cap1 : Nat) (z1 : List Int) (w : World) (w0 : (Lit.int .i64 a0).wf = true) (w1 : IsRow .i64 w a1 len1 cap1 z1) :
    Calls Try.prog 10 #[.int .i64 a0, .slice a1 len1 cap1] w fun e w' => e = .returned (.bool true) ∧ Below w.heap.size w w' := by
  clear w0
  by_cases hlong : 100 < len1
  · go_enter Try.func10, Try.ntmps10
    go_wp2
    go_ret
    exact ⟨rfl, Below.refl _ _⟩
  have hlen : len1 ≤ 100 := by omega
  clear hlong
  have hW0 := win_new a0
  go_enter Try.func10, Try.ntmps10
  go_wp2_with fail
  refine (w_new _ _).mono ?_; rintro e wa ⟨rfl, hC⟩
  have HC := Lib.hid hC; clear hC
  go_wp2_with fail
  have st : OpenSt wa.heap.size 0 w (wa.alloc (.cells #[.int .i64 ((cutZ a0 1 16 + 1) / 2), .int .i64 (cutZ a0 1 16), .int .i64 0] 57)) :=
    ⟨_, _, _, hW0, by have := hW0.1; omega, At.new wa 57 [_, _, _], (HC.out.below (Nat.le_refl _) (by simp)).alloc HC.out.size _⟩
  have hz1 : w.heap.size ≤ wa.heap.size := HC.out.size
  have ST := Lib.hid st; clear st HC hW0
  go_loopg [6] len1 (fun g i wr => ∃ k : Nat, g = len1 - k ∧ k ≤ len1 ∧ i = .int .i64 k ∧ OpenSt wa.heap.size 0 w wr)
  case atStart => exact ⟨0, rfl, Nat.zero_le _, rfl, ST.out⟩
  case round =>
    obtain ⟨k, rfl, hk, rfl, s, a, mo, hw, hgr, hA1, hb⟩ := hrel
    have HW := Lib.hid hw
    have HA1 := Lib.hid hA1
    have HB := Lib.hid hb
    have hs := hb.size
    have hs1 := hA1.lt
    obtain ⟨c0, c1, c2, f0, f1, f2⟩ := hA1.three
    clear hw hA1 hb
    by_cases hlt : k < len1
    · obtain ⟨b, off, rfl, hbl, hcell, hwf⟩ := row_at w1 k hlt
      obtain ⟨hn, hn'⟩ := bounds_i64 hwf
      have hcr : wr.cell? ⟨b, off + k, none⟩ = some (.int .i64 (z1.getD k 0)) := by rw [HB.out.cell hbl]; exact hcell
      clear hcell hwf w1
      obtain ⟨n, hnz⟩ : ∃ n, n = z1.getD k 0 := ⟨_, rfl⟩
      rw [← hnz] at hn hn' hcr
      clear hnz
      have hi0 : (0 : Int) ≤ (k : Int) := by omega
      have hi1 : (k : Int) < (len1 : Int) := by omega
      by_cases hneg : n < 0
      · go_wp2_with fail
        refine (w_late _ _ _ _ HW.out).mono ?_; rintro e wc ⟨rfl, hq⟩
        have tA := Lib.hid (HA1.out.chg hq (by simp)); obtain ⟨p0, p1, p2, p3, p4, p5⟩ := tA.out.three
        go_wp2_with fail
        go_roundg (len1 - (k + 1))
        case measure => omega
        case rel =>
          exact ⟨k + 1, rfl, by omega, by go_num, _, _, _, HW.out.late, by have := HW.out.late.1; omega, ((tA.out.set 0 _).set 1 _).set 2 _,
            (((HB.out.trans (hq.below hs (by simp))).setCell (by show w.heap.size ≤ wa.heap.size; omega) _).setCell (by show w.heap.size ≤ wa.heap.size; omega) _).setCell (by show w.heap.size ≤ wa.heap.size; omega) _⟩
      · clear c0 c1 c2 f0 f1 f2
        go_wp2_with fail
        refine wp_region_phase 6 (fun w' => At w' wa.heap.size 57 [.int .i64 s, .int .i64 mo, .int .i64 a] ∧ Chg [] wr w') (by kernel_rfl) ?_
        refine wpAnyP_with (by first | (go_keep; done) | ((first | exact ⟨HA1.out.drew, (Chg.refl _ _).drew⟩ | exact ⟨hSw.1.chg hq (by simp), hSw.2.trans hq⟩))) (fun hSw => ?_)
        refine wpAnyP_take 0 [] (v := ?_) rfl (by kernel_rfl) (fun _ _ _ h => h) (by assumption) (Or.inl ⟨by rfl, ?_⟩) ?_
        rotate_left
        · (intro w hSw; (try dsimp only at hSw); obtain ⟨c0, c1, c2, _⟩ := hSw.1.three; have hcx := hSw.2.cell (p := ⟨b, off + k, none⟩) (by simp; omega) (by simp); rw [hcr] at hcx; go_simp; try with_reducible rfl)
        simp only [Act.put, List.setIfInBounds_toArray, List.set_cons_zero, List.set_cons_succ]
        refine wpAnyP_take 1 [] (v := ?_) rfl (by kernel_rfl) (fun _ _ _ h => h) (by assumption) (Or.inl ⟨by rfl, ?_⟩) ?_
        rotate_left
        · (intro w hSw; (try dsimp only at hSw); obtain ⟨c0, c1, c2, _⟩ := hSw.1.three; have hcx := hSw.2.cell (p := ⟨b, off + k, none⟩) (by simp; omega) (by simp); rw [hcr] at hcx; go_simp; try with_reducible rfl)
        simp only [Act.put, List.setIfInBounds_toArray, List.set_cons_zero, List.set_cons_succ]
        refine wpAnyP_take 2 [] (v := ?_) rfl (by kernel_rfl) (fun _ _ _ h => h) (by assumption) (Or.inl ⟨by rfl, ?_⟩) ?_
        rotate_left
        · (intro w hSw; (try dsimp only at hSw); obtain ⟨c0, c1, c2, _⟩ := hSw.1.three; have hcx := hSw.2.cell (p := ⟨b, off + k, none⟩) (by simp; omega) (by simp); rw [hcr] at hcx; go_simp; try with_reducible rfl)
        simp only [Act.put, List.setIfInBounds_toArray, List.set_cons_zero, List.set_cons_succ]
        refine wpAnyP_take 3 [] (v := ?_) rfl (by kernel_rfl) (fun _ _ _ h => h) (by assumption) (Or.inl ⟨by rfl, ?_⟩) ?_
        rotate_left
        · (intro w hSw; (try dsimp only at hSw); obtain ⟨c0, c1, c2, _⟩ := hSw.1.three; have hcx := hSw.2.cell (p := ⟨b, off + k, none⟩) (by simp; omega) (by simp); rw [hcr] at hcx; go_simp; try with_reducible rfl)
        simp only [Act.put, List.setIfInBounds_toArray, List.set_cons_zero, List.set_cons_succ]
        refine wpAnyP_take 4 [] (v := ?_) rfl (by kernel_rfl) (fun _ _ _ h => h) (by assumption) (Or.inl ⟨by rfl, ?_⟩) ?_
        rotate_left
        · (intro w hSw; (try dsimp only at hSw); obtain ⟨c0, c1, c2, _⟩ := hSw.1.three; have hcx := hSw.2.cell (p := ⟨b, off + k, none⟩) (by simp; omega) (by simp); rw [hcr] at hcx; go_simp; try with_reducible rfl)
        simp only [Act.put, List.setIfInBounds_toArray, List.set_cons_zero, List.set_cons_succ]
        refine wpAnyP_one 5 rfl (by kernel_rfl) (fun K hK => ?_)
        rw [if_pos (by rfl)]
        go_wp2_with ((go_at_call 39; refine (w_acked _ _ _ _ _ HW.out).mono ?_; rintro e wc ⟨rfl, hq⟩; have tA := Lib.hid (hSw.1.chg hq (by simp)); have tC := Lib.hid (hSw.2.trans hq); obtain ⟨p0, p1, p2, p3, p4, p5⟩ := tA.out.three))
        refine hold_with (by first | (go_keep; done) | ((try dsimp only at hSw); (first | exact ⟨HA1.out.drew, (Chg.refl _ _).drew⟩ | exact ⟨hSw.1.chg hq (by simp), hSw.2.trans hq⟩))) (fun hSn => ?_)
        clear hSw; have hSw := hSn; clear hSn
        refine wpAnyP_one 6 rfl (by kernel_rfl) (fun K hK => ?_)
        rw [if_pos (by rfl)]
        go_wp2_with (fail)
        refine ⟨fun hz => (by simp at hz), ?_⟩
        refine wpAnyP_done (by kernel_rfl) ?_ _
        go_wp2_with fail
        go_roundg (len1 - (k + 1))
        case measure => omega
        case rel =>
          exact ⟨k + 1, rfl, by omega, by go_num, _, _, _, HW.out.it (cutZ n 0 16).toNat, by have := (HW.out.it (cutZ n 0 16).toNat).1; omega, ((tA.out.set 0 _).set 1 _).set 2 _,
            (((HB.out.trans (tC.out.below hs (by simp))).setCell (by show w.heap.size ≤ wa.heap.size; omega) _).setCell (by show w.heap.size ≤ wa.heap.size; omega) _).setCell (by show w.heap.size ≤ wa.heap.size; omega) _⟩
    · go_wp2_with fail
      have ST2 := Lib.hid (show OpenSt wa.heap.size 0 w wr from ⟨s, a, mo, HW.out, hgr, HA1.out, HB.out⟩)
      clear c0 c1 c2 f0 f1 f2 HA1 HB HW hgr hs hs1
      go_loopg [7] 20 (fun g i wr => ∃ k : Nat, g = 20 - k ∧ k ≤ 20 ∧ i = .int .i64 k ∧ OpenSt wa.heap.size k w wr)
      case atStart => exact ⟨0, rfl, Nat.zero_le _, rfl, ST2.out⟩
      case round =>
        obtain ⟨j, rfl, hj, rfl, s, a, mo, hw, hgr, hA1, hb⟩ := hrel
        have HG := Lib.hid hgr
        have HW := Lib.hid hw
        have HA1 := Lib.hid hA1
        have HB := Lib.hid hb
        have hs := hb.size
        have hs1 := hA1.lt
        obtain ⟨x1, x2, x3, x4, x5⟩ := hw
        obtain ⟨c0, c1, c2, f0, f1, f2⟩ := hA1.three
        clear hA1 hb hgr
        by_cases hlt : j < 20
        · go_wp2_with fail
          refine (w_acked _ _ _ _ _ HW.out).mono ?_; rintro e wc ⟨rfl, hq⟩
          rw [cut16]
          have tA := Lib.hid (HA1.out.chg hq (by simp)); obtain ⟨p0, p1, p2, p3, p4, p5⟩ := tA.out.three
          go_wp2_with fail
          go_roundg (20 - (j + 1))
          case measure => omega
          case rel =>
            exact ⟨j + 1, rfl, by omega, by go_num, _, _, _, HW.out.it 16, by have h1 := wit_16 HW.out; have h2 := HG.out; omega, ((tA.out.set 0 _).set 1 _).set 2 _,
              (((HB.out.trans (hq.below hs (by simp))).setCell (by show w.heap.size ≤ wa.heap.size; omega) _).setCell (by show w.heap.size ≤ wa.heap.size; omega) _).setCell (by show w.heap.size ≤ wa.heap.size; omega) _⟩
        · have hsm : (s == mo) = true := by have := HG.out; simp; omega
          clear c0 c1 c2 f0 f1 f2
          go_wp2_with fail
          refine wp_region_phase 8 (fun w' => At w' wa.heap.size 57 [.int .i64 s, .int .i64 mo, .int .i64 a] ∧ Chg [] wr w') (by kernel_rfl) ?_
          refine wpAnyP_with (by first | (go_keep; done) | ((first | exact ⟨HA1.out.drew, (Chg.refl _ _).drew⟩ | exact ⟨hSw.1.chg hq (by simp), hSw.2.trans hq⟩))) (fun hSw => ?_)
          refine wpAnyP_take 0 [] (v := ?_) rfl (by kernel_rfl) (fun _ _ _ h => h) (by assumption) (Or.inl ⟨by rfl, ?_⟩) ?_
          rotate_left
          · (intro w hSw; (try dsimp only at hSw); obtain ⟨c0, c1, c2, _⟩ := hSw.1.three; go_simp; try with_reducible rfl)
          simp only [Act.put, List.setIfInBounds_toArray, List.set_cons_zero, List.set_cons_succ]
          refine wpAnyP_take 2 [] (v := ?_) rfl (by kernel_rfl) (fun _ _ _ h => h) (by assumption) (Or.inl ⟨by rfl, ?_⟩) ?_
          rotate_left
          · (intro w hSw; (try dsimp only at hSw); obtain ⟨c0, c1, c2, _⟩ := hSw.1.three; go_simp; try with_reducible rfl)
          simp only [Act.put, List.setIfInBounds_toArray, List.set_cons_zero, List.set_cons_succ]
          refine wpAnyP_one 1 rfl (by kernel_rfl) (fun K hK => ?_)
          rw [if_pos (by rfl)]
          go_wp2_with (first | (go_at_call 41; refine (w_size _ _ _ _).mono ?_; rintro e wx ⟨rfl, hq⟩) | (go_at_call 42; refine (w_most _ _ _ _).mono ?_; rintro e wx ⟨rfl, hq⟩) | (go_at_call 43; refine (alive20_any _).mono ?_; rintro e wx ⟨rfl, hq⟩))
          refine hold_with (by first | (go_keep; done) | ((try dsimp only at hSw); (first | exact ⟨HA1.out.drew, (Chg.refl _ _).drew⟩ | exact ⟨hSw.1.chg hq (by simp), hSw.2.trans hq⟩))) (fun hSn => ?_)
          clear hSw; have hSw := hSn; clear hSn
          refine wpAnyP_one 3 rfl (by kernel_rfl) (fun K hK => ?_)
          rw [if_pos (by rfl)]
          go_wp2_with (first | (go_at_call 41; refine (w_size _ _ _ _).mono ?_; rintro e wx ⟨rfl, hq⟩) | (go_at_call 42; refine (w_most _ _ _ _).mono ?_; rintro e wx ⟨rfl, hq⟩) | (go_at_call 43; refine (alive20_any _).mono ?_; rintro e wx ⟨rfl, hq⟩))
          refine hold_with (by first | (go_keep; done) | ((try dsimp only at hSw); (first | exact ⟨HA1.out.drew, (Chg.refl _ _).drew⟩ | exact ⟨hSw.1.chg hq (by simp), hSw.2.trans hq⟩))) (fun hSn => ?_)
          clear hSw; have hSw := hSn; clear hSn
          refine wpAnyP_take 4 [] (v := ?_) rfl (by kernel_rfl) (fun _ _ _ h => h) (by assumption) (Or.inl ⟨by rfl, ?_⟩) ?_
          rotate_left
          · (intro w hSw; (try dsimp only at hSw); obtain ⟨c0, c1, c2, _⟩ := hSw.1.three; go_simp; try with_reducible rfl)
          simp only [Act.put, List.setIfInBounds_toArray, List.set_cons_zero, List.set_cons_succ]
          refine wpAnyP_take 5 [] (v := ?_) rfl (by kernel_rfl) (fun _ _ _ h => h) (by assumption) (Or.inl ⟨by rfl, ?_⟩) ?_
          rotate_left
          · (intro w hSw; (try dsimp only at hSw); obtain ⟨c0, c1, c2, _⟩ := hSw.1.three; go_simp; try with_reducible rfl)
          simp only [Act.put, List.setIfInBounds_toArray, List.set_cons_zero, List.set_cons_succ]
          refine wpAnyP_one 6 rfl (by kernel_rfl) (fun K hK => ?_)
          rw [if_pos (by rfl)]
          go_wp2_with (first | (go_at_call 41; refine (w_size _ _ _ _).mono ?_; rintro e wx ⟨rfl, hq⟩) | (go_at_call 42; refine (w_most _ _ _ _).mono ?_; rintro e wx ⟨rfl, hq⟩) | (go_at_call 43; refine (alive20_any _).mono ?_; rintro e wx ⟨rfl, hq⟩))
          refine hold_with (by first | (go_keep; done) | ((try dsimp only at hSw); (first | exact ⟨HA1.out.drew, (Chg.refl _ _).drew⟩ | exact ⟨hSw.1.chg hq (by simp), hSw.2.trans hq⟩))) (fun hSn => ?_)
          clear hSw; have hSw := hSn; clear hSn
          refine wpAnyP_take 7 [] (v := ?_) rfl (by kernel_rfl) (fun _ _ _ h => h) (by assumption) (Or.inl ⟨by rfl, ?_⟩) ?_
          rotate_left
          · (intro w hSw; (try dsimp only at hSw); obtain ⟨c0, c1, c2, _⟩ := hSw.1.three; go_simp; try with_reducible rfl)
          simp only [Act.put, List.setIfInBounds_toArray, List.set_cons_zero, List.set_cons_succ]
          refine wpAnyP_one 8 rfl (by kernel_rfl) (fun K hK => ?_)
          rw [if_pos (by rfl)]
          go_wp2_with (fail)
          refine ⟨fun hz => (by simp at hz), ?_⟩
          refine wpAnyP_done (by kernel_rfl) ?_ _
          have HS := Lib.hid hSw; clear hSw
          go_wp2_with fail
          go_ret
          exact ⟨rfl, HB.out.trans (HS.out.2.below hs (by simp))⟩

/-! ### THE ROW's STEP: WRITTEN OUT: LEAVE IT -/
set_option maxRecDepth 100000 in
theorem lifted (os : Os) (started : os.Started) (H : Type) (enc : TypeId × Value → H) :
    ReturnsInHanded {} Try.checked os 10 .any (Rows.winOpensSpec.pre6 enc Try.prog Try.f10 Rows.winOpensRow.domain false) (Rows.winOpensSpec.post enc Try.prog Try.f10 false true false false) := by
  refine returnsInHanded_of_change (C := Try.checked) own started (by kernel_rfl) Try.func10
    (ChangeSpec.witness6 (enc := enc) (C := Try.checked) false ⟨#[], #[.int .i64 0, .slice none 0 0], []⟩ 8 (by kernel_rfl) (by kernel_rfl) (by kernel_rfl) (by kernel_rfl)) ?_
  intro W base args ds gs before hval0 hW hcnd _
  have hval : ∀ (j : Nat) t v, Try.f10.params[j]? = some t → args[j]? = some v → Value.okWide Try.prog W .any base t v := hval0
  have hW' := hW
  obtain ⟨p, q, hA0, hV, rfl, hfz, hnd⟩ := hW
  have hA : DataW.TrodAll enc Try.prog W 0 (fun _ => true) true Try.f10.params.toList args.toList ds p := hA0
  rw [Try.params10] at hA hval
  obtain ⟨v0, vs0, d0, ds0, p0, q0, hargs, rfl, rfl, h0, r0⟩ := trodAll_cons hA
  obtain ⟨v1, vs1, d1, ds1, p1, q1, rfl, rfl, rfl, h1, r1⟩ := trodAll_cons r0
  obtain ⟨rfl, rfl, rfl⟩ := trodAll_nil r1
  obtain rfl : args = #[v0, v1] := by cases args; simp_all
  obtain ⟨rfl, rfl⟩ := trodVars_none hV
  obtain ⟨a0, rfl, rfl, rfl, w0⟩ := open_int Try.underlying3 (hval 0 3 v0 rfl rfl) h0
  obtain ⟨a1, len1, cap1, rfl⟩ := okWide_slice Try.underlying44 (hval 1 44 v1 rfl rfl)
  have k1 := h1
  have lt1 : ∀ x ∈ p1, x.block < W.heap.size := by obtain ⟨m, hm⟩ := k1; exact DataW.trod_lt m _ _ _ hm
  obtain ⟨z1, w1⟩ : ∃ zs, IsRow .i64 W a1 len1 cap1 zs := by
    obtain ⟨fuel, hf⟩ := h1
    rcases open_ints Try.underlying44 Try.underlying3 (by kernel_rfl) hf with ⟨hcs, _⟩ | ⟨x, l, c, zs, hcs, _, hl, hm, hz, _, hcell, hwz⟩
    · simp [Value.cells] at hcs
      obtain ⟨rfl, rfl, rfl⟩ := hcs
      exact ⟨[], .inl ⟨rfl, rfl, rfl, rfl⟩⟩
    · simp [Value.cells] at hcs
      obtain ⟨rfl, rfl, rfl⟩ := hcs
      exact ⟨zs, .inr ⟨_, rfl, hl, hm, by simpa using hz, hcell, hwz⟩⟩
  clear hA0 hval0
  refine (walk a0 a1 len1 cap1 z1 W w0 w1).mono fun e W' ⟨he, bel⟩ => ?_
  subst he
  exact ⟨_, rfl, _, _, _, [], _, [], hW', trodAll_mk1 (shut_bool Try.underlying4 _), (trodAll_cons_mk (shut_int Try.underlying3 w0) (trodAll_cons_mk (Below.trod laidOut (by kernel_rfl) (of_decide_eq_true (by kernel_rfl)) k1 bel lt1) trodAll_mk0)), rfl, bel.frame _, fun h => by cases h⟩

theorem over : Rows.winOpensRow.holds Try.pinned (OpenSpec.ofChange Rows.winOpensSpec) :=
  OpenClaim.holds_of_wide 10 Try.f10 rfl rfl rfl rfl rfl rfl rfl ⟨rfl, rfl, rfl, rfl, rfl⟩ rfl rfl rfl rfl rfl (by kernel_rfl) Try.func10 (by kernel_rfl)
    (of_decide_eq_true (by kernel_rfl)) (by unfold Func.isWrapper; first | (rw [if_pos (by decide +kernel)]; kernel_rfl) | (rw [if_neg (by decide +kernel)]; exact ⟨rfl, rfl⟩))
    (fun os started H enc _ => lifted os started H enc)

/-- ████ THE STATEMENT ████ -/
theorem proved : Rows.WinOpensSaid := over
#print axioms proved
end Go.Proofs.Ytnmjfeeogphlcaa.winOpens
