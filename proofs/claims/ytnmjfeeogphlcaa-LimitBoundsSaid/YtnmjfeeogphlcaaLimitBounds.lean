/- Proved: for every two ints and every slice of catwalklaw24.Op the Go law catwalklaw24.LimitBounds returns true, and its arguments read behind the call as they read before. Conditions: none.
The frame of this text follows the kit's own shell of a law's proof; the walk and its lemmas are ours. -/
import Derived.Test.YtnmjfeeogphlcaaLimitWalks
import Derived.Test.YtnmjfeeogphlcaaStructs
import Derived.Test.YtnmjfeeogphlcaaPhase
import Derived.Deep.LoopGhost
import Derived.Deep.DeepCutAuto
import Derived.WalkKit
import Derived.ProofKit
import Derived.OpenShut
import Derived.ShutString
import Derived.ChangeOld
import Derived.Below
import Derived.Lib.SmallJoins
namespace Go.Proofs.Ytnmjfeeogphlcaa.limitBounds
open Go.ChangeShapes Go.WideShapes Go.ChangeAt Go.RowKit Go.Joins
open Go.ChangeMaps (open_string shut_string)
set_option linter.unusedVariables false
set_option linter.unusedSimpArgs false
attribute [local go_sem ↓] Go.wp_at_zero Go.wp_at_succ

theorem own : ownKnob Try.prog.godebug = none := by kernel_rfl
theorem laidOut : laidOutB Try.prog = true := by kernel_rfl

def IsRow (k : IntKind) (w : World) (a : Option Addr) (len cap : Nat) (zs : List Int) : Prop :=
  (a = none ∧ len = 0 ∧ cap = 0 ∧ zs = []) ∨
  ∃ x, a = some x ∧ len ≤ cap ∧ cap ≤ maxLen ∧ zs.length = cap ∧ (∀ i, i < zs.length → w.cell? (x.add i) = some (.int k (zs.getD i 0))) ∧ ∀ n ∈ zs, (Lit.int k n).wf = true

/-- The bucket, how much went, and memory. -/
def LimSt (b : Nat) (r d : Int) (k : Nat) (now went : Int) (w wr : World) : Prop :=
  ∃ h, Bkt r d h now ∧ 0 ≤ went ∧ went + h ≤ d + r * now ∧ now ≤ 1000 * (k : Int) ∧ At wr b 66 [.int .i64 r, .int .i64 d, .int .i64 h, .int .i64 now] ∧ Below w.heap.size w wr

/-- Behind the call of Take: the new bucket lies in a block g of its own. -/
def LimMid (b g : Nat) (r d h now h2 now2 : Int) (w wx : World) : Prop :=
  b < g ∧ At wx g 66 [.int .i64 r, .int .i64 d, .int .i64 h2, .int .i64 now2] ∧ At wx b 66 [.int .i64 r, .int .i64 d, .int .i64 h, .int .i64 now] ∧ Below w.heap.size w wx

theorem went_step (d r h h2 now now2 went n : Int) (hw : went + h ≤ d + r * now) (ht : h2 + n ≤ h + (now2 - now) * r) : went + n + h2 ≤ d + r * now2 := by
  have : (now2 - now) * r = r * now2 - r * now := by rw [Int.sub_mul, Int.mul_comm, Int.mul_comm now]
  omega

set_option maxRecDepth 100000 in
set_option maxHeartbeats 4000000 in
theorem walk (a0 : Int) (a1 : Int) (a2 : Option Addr) (len2 cap2 : Nat) (w : World) (w0 : (Lit.int .i64 a0).wf = true) (w1 : (Lit.int .i64 a1).wf = true) (w2 : Ops2 w a2 len2) :
    Calls Try.prog 11 #[.int .i64 a0, .int .i64 a1, .slice a2 len2 cap2] w fun e w' => e = .returned (.bool true) ∧ Below w.heap.size w w' := by
  clear w0 w1
  by_cases g1 : 200 < len2
  · go_enter Try.func11, Try.ntmps11
    go_wp2
    go_ret
    exact ⟨rfl, Below.refl _ _⟩
  by_cases g2 : a0 < 0
  · go_enter Try.func11, Try.ntmps11
    go_wp2
    go_ret
    exact ⟨rfl, Below.refl _ _⟩
  by_cases g3 : 1048576 < a0
  · go_enter Try.func11, Try.ntmps11
    go_wp2
    go_ret
    exact ⟨rfl, Below.refl _ _⟩
  by_cases g4 : a1 < 0
  · go_enter Try.func11, Try.ntmps11
    go_wp2
    go_ret
    exact ⟨rfl, Below.refl _ _⟩
  by_cases g5 : 1048576 < a1
  · go_enter Try.func11, Try.ntmps11
    go_wp2
    go_ret
    exact ⟨rfl, Below.refl _ _⟩
  have hlen : len2 ≤ 200 := by omega
  have r0 : 0 ≤ a0 := by omega
  have r1 : a0 ≤ 1048576 := by omega
  have d0 : 0 ≤ a1 := by omega
  have d1 : a1 ≤ 1048576 := by omega
  go_enter Try.func11, Try.ntmps11
  go_wp2_with fail
  refine (b_new a0 a1 0 _ r0 r1 d0 d1).mono ?_; rintro e wa ⟨rfl, hC⟩
  have HC := Lib.hid hC; clear hC
  go_wp2_with fail
  have hz1 : w.heap.size ≤ wa.heap.size := HC.out.size
  have ST : Hid (LimSt wa.heap.size a0 a1 0 0 0 w (wa.alloc (.cells #[.int .i64 a0, .int .i64 a1, .int .i64 a1, .int .i64 0] 66))) :=
    ⟨a1, ⟨r0, r1, d0, d1, d0, by omega, by omega, by omega⟩, by omega, by simp, by omega, At.new wa 66 [_, _, _, _], (HC.out.below (Nat.le_refl _) (by simp)).alloc HC.out.size _⟩
  clear HC
  go_loopg [8, 9, 10] len2 (fun g s8 s9 i wr => ∃ (k : Nat) (now went : Int), g = len2 - k ∧ k ≤ len2 ∧ i = .int .i64 k ∧ s8 = .int .i64 now ∧ s9 = .int .i64 went ∧ LimSt wa.heap.size a0 a1 k now went w wr)
  case atStart => exact ⟨0, 0, 0, rfl, Nat.zero_le _, rfl, rfl, rfl, ST.out⟩
  case round =>
    obtain ⟨k, now, went, rfl, hk, rfl, rfl, rfl, h, hB, hw0, hw1, hnow, hA, hb⟩ := hrel
    have HA := Lib.hid hA
    have HB := Lib.hid hb
    have HK := Lib.hid hB
    have hs := hb.size
    have hs1 := hA.lt
    obtain ⟨_, _, _, _, b5, b6, b7, b8⟩ := hB
    clear hA hb
    by_cases hlt : k < len2
    · obtain ⟨b, off, n, t, rfl, hbl, hc0, hc1, ⟨n0, n1⟩, t0, t1⟩ := w2 k hlt
      have c0 : wr.cell? ⟨b, off + k * 2, none⟩ = some (.int .i64 n) := by rw [HB.out.cell hbl]; exact hc0
      have c1 : wr.cell? ⟨b, off + k * 2 + 1, none⟩ = some (.int .i64 t) := by rw [HB.out.cell hbl]; exact hc1
      have HC0 := Lib.hid hc0
      clear hc0 hc1 w2
      have hi0 : (0 : Int) ≤ (k : Int) := by omega
      have hi1 : (k : Int) < (len2 : Int) := by omega
      have hcb : 0 ≤ cutZ t 0 1000 ∧ cutZ t 0 1000 ≤ 1000 := by unfold cutZ; omega
      obtain ⟨now2, hn2⟩ : ∃ x, now + cutZ t 0 1000 = x := ⟨_, rfl⟩
      have m0 : now ≤ now2 := by omega
      have m1 : now2 ≤ 1000 * ((k : Int) + 1) := by omega
      have m2 : now2 ≤ 1000000 := by omega
      have TB := take_bd a0 a1 h now n now2 HK.out m0 m2
      have CT := Lib.hid (fun w => b_take a0 a1 h now n now2 w HK.out m0 m2)
      obtain ⟨ok, hok⟩ : ∃ x, x = takeOk a0 a1 h now n now2 := ⟨_, rfl⟩
      obtain ⟨h2, hh2⟩ : ∃ x, x = takeH a0 a1 h now n now2 := ⟨_, rfl⟩
      rw [← hok, ← hh2] at TB CT
      clear hok hh2
      obtain ⟨hB2, hle, hyes⟩ := TB
      have HK2 := Lib.hid hB2
      obtain ⟨_, _, _, _, v5, v6, v7, v8⟩ := hB2
      have W0 := Lib.hid (went_step a1 a0 h h2 now now2 went 0 hw1 (by simpa using hle))
      have W1 := Lib.hid (fun hx => went_step a1 a0 h h2 now now2 went n hw1 (hyes hx).2.2)
      have hn1 : ok = true → 0 ≤ n ∧ n ≤ 1048576 := fun hx => ⟨(hyes hx).1, (hyes hx).2.1⟩
      have HN := Lib.hid hn1
      have G0 : 0 ≤ a0 * now2 := Int.mul_nonneg r0 v7
      have G1 : a0 * now2 ≤ 1048576000000 := by
        have a := Int.mul_le_mul r1 m2 v7 (by omega)
        simpa using a
      obtain ⟨G, hG⟩ : ∃ x, a0 * now2 = x := ⟨_, rfl⟩
      rw [hG] at G0 G1 W0 W1
      have hw1' : went ≤ 1048576 + 1048576000000 := by have := W0.out; omega
      clear hn1 hyes hle hw1
      go_upto_region 9 with (go_at_call 45; refine (cut24 _ _ _ _ (by omega)).mono ?_; rintro e w' ⟨rfl, rfl⟩)
      go_cut [11, 12] (fun s11 s12 wx => ∃ g, s11 = .pointer (some ⟨g, 0, none⟩) ∧ s12 = .bool ok ∧ LimMid wa.heap.size g a0 a1 h now h2 now2 w wx)
      case first =>
        clear hG hn2 G0 G1 m0 m1 m2 hw1' b5 b6 b7 b8 v5 v6 v7 v8 hw0 hnow hcb t0 t1 n0 n1 HK HK2 HN W0 W1 c1 ST
        go_wp2_with fail
        refine wp_region_phase 13 (fun w' => At w' wa.heap.size 66 [.int .i64 a0, .int .i64 a1, .int .i64 h, .int .i64 now] ∧ Chg [] wr w') (by kernel_rfl) ?_
        refine wpAnyP_with (by exact ⟨HA.out.drew, (Chg.refl _ _).drew⟩) (fun hSw => ?_)
        refine wpAnyP_take 0 [] (v := ?_) rfl (by kernel_rfl) (fun _ _ _ h => h) (by assumption) (Or.inl ⟨by rfl, ?_⟩) ?_
        rotate_left
        · (intro w hSw; (try dsimp only at hSw); obtain ⟨x0, x1, x2, x3, _⟩ := hSw.1.four; have hcx := hSw.2.cell (p := ⟨b, off + k * 2, none⟩) (by simp; omega) (by simp); rw [c0] at hcx; go_simp; try with_reducible rfl)
        simp only [Act.put, List.setIfInBounds_toArray, List.set_cons_zero, List.set_cons_succ]
        refine wpAnyP_take 1 [] (v := ?_) rfl (by kernel_rfl) (fun _ _ _ h => h) (by assumption) (Or.inl ⟨by rfl, ?_⟩) ?_
        rotate_left
        · (intro w hSw; (try dsimp only at hSw); obtain ⟨x0, x1, x2, x3, _⟩ := hSw.1.four; have hcx := hSw.2.cell (p := ⟨b, off + k * 2, none⟩) (by simp; omega) (by simp); rw [c0] at hcx; go_simp; try with_reducible rfl)
        simp only [Act.put, List.setIfInBounds_toArray, List.set_cons_zero, List.set_cons_succ]
        refine wpAnyP_take 2 [] (v := ?_) rfl (by kernel_rfl) (fun _ _ _ h => h) (by assumption) (Or.inl ⟨by rfl, ?_⟩) ?_
        rotate_left
        · (intro w hSw; (try dsimp only at hSw); obtain ⟨x0, x1, x2, x3, _⟩ := hSw.1.four; have hcx := hSw.2.cell (p := ⟨b, off + k * 2, none⟩) (by simp; omega) (by simp); rw [c0] at hcx; go_simp; try with_reducible rfl)
        simp only [Act.put, List.setIfInBounds_toArray, List.set_cons_zero, List.set_cons_succ]
        refine wpAnyP_take 3 [] (v := ?_) rfl (by kernel_rfl) (fun _ _ _ h => h) (by assumption) (Or.inl ⟨by rfl, ?_⟩) ?_
        rotate_left
        · (intro w hSw; (try dsimp only at hSw); obtain ⟨x0, x1, x2, x3, _⟩ := hSw.1.four; have hcx := hSw.2.cell (p := ⟨b, off + k * 2, none⟩) (by simp; omega) (by simp); rw [c0] at hcx; go_simp; try with_reducible rfl)
        simp only [Act.put, List.setIfInBounds_toArray, List.set_cons_zero, List.set_cons_succ]
        refine wpAnyP_take 4 [] (v := ?_) rfl (by kernel_rfl) (fun _ _ _ h => h) (by assumption) (Or.inl ⟨by rfl, ?_⟩) ?_
        rotate_left
        · (intro w hSw; (try dsimp only at hSw); obtain ⟨x0, x1, x2, x3, _⟩ := hSw.1.four; have hcx := hSw.2.cell (p := ⟨b, off + k * 2, none⟩) (by simp; omega) (by simp); rw [c0] at hcx; go_simp; try with_reducible rfl)
        simp only [Act.put, List.setIfInBounds_toArray, List.set_cons_zero, List.set_cons_succ]
        refine wpAnyP_take 5 [] (v := ?_) rfl (by kernel_rfl) (fun _ _ _ h => h) (by assumption) (Or.inl ⟨by rfl, ?_⟩) ?_
        rotate_left
        · (intro w hSw; (try dsimp only at hSw); obtain ⟨x0, x1, x2, x3, _⟩ := hSw.1.four; have hcx := hSw.2.cell (p := ⟨b, off + k * 2, none⟩) (by simp; omega) (by simp); rw [c0] at hcx; go_simp; try with_reducible rfl)
        simp only [Act.put, List.setIfInBounds_toArray, List.set_cons_zero, List.set_cons_succ]
        refine wpAnyP_take 6 [] (v := ?_) rfl (by kernel_rfl) (fun _ _ _ h => h) (by assumption) (Or.inl ⟨by rfl, ?_⟩) ?_
        rotate_left
        · (intro w hSw; (try dsimp only at hSw); obtain ⟨x0, x1, x2, x3, _⟩ := hSw.1.four; have hcx := hSw.2.cell (p := ⟨b, off + k * 2, none⟩) (by simp; omega) (by simp); rw [c0] at hcx; go_simp; try with_reducible rfl)
        simp only [Act.put, List.setIfInBounds_toArray, List.set_cons_zero, List.set_cons_succ]
        refine wpAnyP_two 7 11 rfl rfl (by kernel_rfl) (fun K hK => ?_) (fun K hK => ?_)
        · skip
          rw [if_pos (by rfl)]
          go_wp2_with ((go_at_call 46; refine (CT.out _).mono ?_; rintro e wt ⟨rfl, hq⟩; have sA := Lib.hid (hSw.1.chg hq (by simp)); have sC := Lib.hid (hSw.2.trans hq); clear hq))
          refine hold_with (by (try dsimp only at hSw); exact ⟨sA.out, sC.out⟩) (fun hSn => ?_)
          clear hSw; have hSw := hSn; clear hSn
          refine wpAnyP_take 8 [] (v := ?_) rfl (by kernel_rfl) (fun _ _ _ h => h) (by assumption) (Or.inl ⟨by rfl, ?_⟩) ?_
          rotate_left
          · (intro w hSw; (try dsimp only at hSw); obtain ⟨x0, x1, x2, x3, _⟩ := hSw.1.four; have hcx := hSw.2.cell (p := ⟨b, off + k * 2, none⟩) (by simp; omega) (by simp); rw [c0] at hcx; go_simp; try with_reducible rfl)
          simp only [Act.put, List.setIfInBounds_toArray, List.set_cons_zero, List.set_cons_succ]
          refine wpAnyP_take 9 [] (v := ?_) rfl (by kernel_rfl) (fun _ _ _ h => h) (by assumption) (Or.inl ⟨by rfl, ?_⟩) ?_
          rotate_left
          · (intro w hSw; (try dsimp only at hSw); obtain ⟨x0, x1, x2, x3, _⟩ := hSw.1.four; have hcx := hSw.2.cell (p := ⟨b, off + k * 2, none⟩) (by simp; omega) (by simp); rw [c0] at hcx; go_simp; try with_reducible rfl)
          simp only [Act.put, List.setIfInBounds_toArray, List.set_cons_zero, List.set_cons_succ]
          refine wpAnyP_take 10 [] (v := ?_) rfl (by kernel_rfl) (fun _ _ _ h => h) (by assumption) (Or.inl ⟨by rfl, ?_⟩) ?_
          rotate_left
          · (intro w hSw; (try dsimp only at hSw); obtain ⟨x0, x1, x2, x3, _⟩ := hSw.1.four; have hcx := hSw.2.cell (p := ⟨b, off + k * 2, none⟩) (by simp; omega) (by simp); rw [c0] at hcx; go_simp; try with_reducible rfl)
          simp only [Act.put, List.setIfInBounds_toArray, List.set_cons_zero, List.set_cons_succ]
          refine wpAnyP_one 11 rfl (by kernel_rfl) (fun K hK => ?_)
          rw [if_pos (by rfl)]
          go_wp2_with (fail)
          refine hold_with (by (try dsimp only at hSw); exact ⟨hSw.1.alloc _, hSw.2.alloc _⟩) (fun hSn => ?_)
          clear hSw; have hSw := hSn; clear hSn
          refine wpAnyP_one 12 rfl (by kernel_rfl) (fun K hK => ?_)
          rw [if_pos (by rfl)]
          go_wp2_with (fail)
          refine hold_with (by (try dsimp only at hSw); exact ⟨sA.out.alloc _, sC.out.alloc _⟩) (fun hSn => ?_)
          clear hSw; have hSw := hSn; clear hSn
          refine wpAnyP_one 13 rfl (by kernel_rfl) (fun K hK => ?_)
          rw [if_pos (by rfl)]
          go_wp2_with (fail)
          refine ⟨fun hz => (by simp at hz), ?_⟩
          refine wpAnyP_done (by kernel_rfl) ?_ _
          go_wp2_with fail
          go_meet
          exact ⟨_, rfl, rfl, by have hz := sA.out.lt; omega, At.new wt 66 [_, _, _, _], sA.out.alloc _, (HB.out.trans (sC.out.below hs (by simp))).alloc (by have hz := sC.out.size; omega) _⟩
        · skip
          rw [if_pos (by rfl)]
          go_wp2_with (fail)
          refine hold_with (by (try dsimp only at hSw); exact ⟨(HA.out.alloc _).drew, ((Chg.refl _ _).alloc _).drew⟩) (fun hSn => ?_)
          clear hSw; have hSw := hSn; clear hSn
          refine wpAnyP_one 7 rfl (by kernel_rfl) (fun K hK => ?_)
          rw [if_pos (by rfl)]
          go_wp2_with ((go_at_call 46; refine (CT.out _).mono ?_; rintro e wt ⟨rfl, hq⟩; have sA := Lib.hid (hSw.1.chg hq (by simp)); have sC := Lib.hid (hSw.2.trans hq); have hN := Lib.hid ((At.new wr 66 [.int .i64 0, .int .i64 0, .int .i64 0, .int .i64 0]).drew.chg hq (by simp)); obtain ⟨y0, y1, y2, y3, y4, y5, y6, y7⟩ := hN.out.four; clear hq))
          refine hold_with (by (try dsimp only at hSw); exact ⟨sA.out, sC.out⟩) (fun hSn => ?_)
          clear hSw; have hSw := hSn; clear hSn
          refine wpAnyP_take 8 [] (v := ?_) rfl (by kernel_rfl) (fun _ _ _ h => h) (by assumption) (Or.inl ⟨by rfl, ?_⟩) ?_
          rotate_left
          · (intro w hSw; (try dsimp only at hSw); obtain ⟨x0, x1, x2, x3, _⟩ := hSw.1.four; have hcx := hSw.2.cell (p := ⟨b, off + k * 2, none⟩) (by simp; omega) (by simp); rw [c0] at hcx; go_simp; try with_reducible rfl)
          simp only [Act.put, List.setIfInBounds_toArray, List.set_cons_zero, List.set_cons_succ]
          refine wpAnyP_take 9 [] (v := ?_) rfl (by kernel_rfl) (fun _ _ _ h => h) (by assumption) (Or.inl ⟨by rfl, ?_⟩) ?_
          rotate_left
          · (intro w hSw; (try dsimp only at hSw); obtain ⟨x0, x1, x2, x3, _⟩ := hSw.1.four; have hcx := hSw.2.cell (p := ⟨b, off + k * 2, none⟩) (by simp; omega) (by simp); rw [c0] at hcx; go_simp; try with_reducible rfl)
          simp only [Act.put, List.setIfInBounds_toArray, List.set_cons_zero, List.set_cons_succ]
          refine wpAnyP_take 10 [] (v := ?_) rfl (by kernel_rfl) (fun _ _ _ h => h) (by assumption) (Or.inl ⟨by rfl, ?_⟩) ?_
          rotate_left
          · (intro w hSw; (try dsimp only at hSw); obtain ⟨x0, x1, x2, x3, _⟩ := hSw.1.four; have hcx := hSw.2.cell (p := ⟨b, off + k * 2, none⟩) (by simp; omega) (by simp); rw [c0] at hcx; go_simp; try with_reducible rfl)
          simp only [Act.put, List.setIfInBounds_toArray, List.set_cons_zero, List.set_cons_succ]
          refine wpAnyP_one 12 rfl (by kernel_rfl) (fun K hK => ?_)
          rw [if_pos (by rfl)]
          go_wp2_with (fail)
          refine hold_with (by (try dsimp only at hSw); exact ⟨(((hSw.1.far (by simp; omega) _).far (by simp; omega) _).far (by simp; omega) _).far (by simp; omega) _, (((hSw.2.set (by simp) _).set (by simp) _).set (by simp) _).set (by simp) _⟩) (fun hSn => ?_)
          clear hSw; have hSw := hSn; clear hSn
          refine wpAnyP_one 13 rfl (by kernel_rfl) (fun K hK => ?_)
          rw [if_pos (by rfl)]
          go_wp2_with (fail)
          refine ⟨fun hz => (by simp at hz), ?_⟩
          refine wpAnyP_done (by kernel_rfl) ?_ _
          go_wp2_with fail
          go_meet
          exact ⟨_, rfl, rfl, by omega, (((hN.out.set 0 _).set 1 _).set 2 _).set 3 _, (((sA.out.far (by simp; omega) _).far (by simp; omega) _).far (by simp; omega) _).far (by simp; omega) _, ((((HB.out.trans (sC.out.below hs (by simp))).setCell (by show w.heap.size ≤ wr.heap.size; omega) _).setCell (by show w.heap.size ≤ wr.heap.size; omega) _).setCell (by show w.heap.size ≤ wr.heap.size; omega) _).setCell (by show w.heap.size ≤ wr.heap.size; omega) _⟩
      case rest =>
        clear HA HB hs hs1 HK CT hn2 c0 c1 ST t0 t1 hcb b5 b6 b7 b8 n0 n1
        obtain ⟨g, rfl, rfl, hgb, hA1, hA2, hb⟩ := hcut
        have c0' := (hb.cell (p := ⟨b, off + k * 2, none⟩) hbl).trans HC0.out
        have HB := Lib.hid hb
        have hs := hb.size
        have HA1 := Lib.hid hA1
        have HA2 := Lib.hid hA2
        obtain ⟨x0, x1, x2, x3, _⟩ := hA1.four
        obtain ⟨y0, y1, y2, y3, y4, y5, y6, y7⟩ := hA2.four
        clear hA1 hA2 hb
        have m1' : now2 ≤ 1000 * ((k + 1 : Nat) : Int) := by omega
        have hGc : a0 * now2 = G := hG
        have HG := Lib.hid hGc
        clear hGc
        cases ok
        · have hle : went ≤ a1 + G := by have := W0.out; omega
          go_wp2_with fail
          go_roundg (len2 - (k + 1))
          case measure => omega
          case rel =>
            exact ⟨k + 1, now2, went, rfl, by omega, by go_num, rfl, rfl, h2, HK2.out, hw0, by have := W0.out; have := HG.out; omega, m1', (((HA2.out.set 0 _).set 1 _).set 2 _).set 3 _, ((((HB.out.setCell (by show w.heap.size ≤ wa.heap.size; omega) _).setCell (by show w.heap.size ≤ wa.heap.size; omega) _).setCell (by show w.heap.size ≤ wa.heap.size; omega) _).setCell (by show w.heap.size ≤ wa.heap.size; omega) _)⟩
        · obtain ⟨y8, y9⟩ := HN.out rfl
          have hle : went + n ≤ a1 + G := by have := W1.out rfl; omega
          go_wp2_with fail
          go_roundg (len2 - (k + 1))
          case measure => omega
          case rel =>
            exact ⟨k + 1, now2, went + n, rfl, by omega, by go_num, rfl, rfl, h2, HK2.out, by omega, by have := W1.out (by trivial); have := HG.out; omega, m1', (((HA2.out.set 0 _).set 1 _).set 2 _).set 3 _, ((((HB.out.setCell (by show w.heap.size ≤ wa.heap.size; omega) _).setCell (by show w.heap.size ≤ wa.heap.size; omega) _).setCell (by show w.heap.size ≤ wa.heap.size; omega) _).setCell (by show w.heap.size ≤ wa.heap.size; omega) _)⟩
    · go_wp2_with fail
      refine (alive24_any _).mono ?_; rintro e w' ⟨rfl, hC⟩
      go_wp2_with fail
      go_ret
      exact ⟨rfl, HB.out.trans (hC.below hs (by simp))⟩

/-! ### The row's step -/
set_option maxRecDepth 100000 in
theorem lifted (os : Os) (started : os.Started) (H : Type) (enc : TypeId × Value → H) :
    ReturnsInHanded {} Try.checked os 11 .any (Rows.limitBoundsSpec.pre6 enc Try.prog Try.f11 Rows.limitBoundsRow.domain false) (Rows.limitBoundsSpec.post enc Try.prog Try.f11 false true false false) := by
  refine returnsInHanded_of_change (C := Try.checked) own started (by kernel_rfl) Try.func11
    (ChangeSpec.witness6 (enc := enc) (C := Try.checked) false ⟨#[], #[.int .i64 0, .int .i64 0, .slice none 0 0], []⟩ 8 (by kernel_rfl) (by kernel_rfl) (by kernel_rfl) (by kernel_rfl)) ?_
  intro W base args ds gs before hval0 hW hcnd _
  have hval : ∀ (j : Nat) t v, Try.f11.params[j]? = some t → args[j]? = some v → Value.okWide Try.prog W .any base t v := hval0
  have hW' := hW
  obtain ⟨p, q, hA0, hV, rfl, hfz, hnd⟩ := hW
  have hA : DataW.TrodAll enc Try.prog W 0 (fun _ => true) true Try.f11.params.toList args.toList ds p := hA0
  rw [Try.params11] at hA hval
  obtain ⟨v0, vs0, d0, ds0, p0, q0, hargs, rfl, rfl, h0, r0⟩ := trodAll_cons hA
  obtain ⟨v1, vs1, d1, ds1, p1, q1, rfl, rfl, rfl, h1, r1⟩ := trodAll_cons r0
  obtain ⟨v2, vs2, d2, ds2, p2, q2, rfl, rfl, rfl, h2, r2⟩ := trodAll_cons r1
  obtain ⟨rfl, rfl, rfl⟩ := trodAll_nil r2
  obtain rfl : args = #[v0, v1, v2] := by cases args; simp_all
  obtain ⟨rfl, rfl⟩ := trodVars_none hV
  obtain ⟨a0, rfl, rfl, rfl, w0⟩ := open_int Try.underlying3 (hval 0 3 v0 rfl rfl) h0
  obtain ⟨a1, rfl, rfl, rfl, w1⟩ := open_int Try.underlying3 (hval 1 3 v1 rfl rfl) h1
  have k2 := h2
  have lt2 : ∀ x ∈ p2, x.block < W.heap.size := by obtain ⟨m, hm⟩ := k2; exact DataW.trod_lt m _ _ _ hm
  obtain ⟨a2, len2, cap2, rfl⟩ := okWide_slice Try.underlying64 (hval 2 64 v2 rfl rfl)
  have w2 : Ops2 W a2 len2 := by
    obtain ⟨fuel, hf⟩ := h2
    exact ops2_of Try.underlying64 Try.underlying70 (by kernel_rfl) (by kernel_rfl) Try.underlying3 Try.underlying3 hf
  clear hA0 hval0
  refine (walk a0 a1 a2 len2 cap2 W w0 w1 w2).mono fun e W' ⟨he, bel⟩ => ?_
  subst he
  exact ⟨_, rfl, _, _, _, [], _, [], hW', trodAll_mk1 (shut_bool Try.underlying4 _), (trodAll_cons_mk (shut_int Try.underlying3 w0) (trodAll_cons_mk (shut_int Try.underlying3 w1) (trodAll_cons_mk (Below.trod laidOut (by kernel_rfl) (of_decide_eq_true (by kernel_rfl)) k2 bel lt2) trodAll_mk0))), rfl, bel.frame _, fun h => by cases h⟩

theorem over : Rows.limitBoundsRow.holds Try.pinned (OpenSpec.ofChange Rows.limitBoundsSpec) :=
  OpenClaim.holds_of_wide 11 Try.f11 rfl rfl rfl rfl rfl rfl rfl ⟨rfl, rfl, rfl, rfl, rfl⟩ rfl rfl rfl rfl rfl (by kernel_rfl) Try.func11 (by kernel_rfl)
    (of_decide_eq_true (by kernel_rfl)) (by unfold Func.isWrapper; first | (rw [if_pos (by decide +kernel)]; kernel_rfl) | (rw [if_neg (by decide +kernel)]; exact ⟨rfl, rfl⟩))
    (fun os started H enc _ => lifted os started H enc)

/-- The statement. -/
theorem proved : Rows.LimitBoundsSaid := over
#print axioms proved
end Go.Proofs.Ytnmjfeeogphlcaa.limitBounds
