/- Contracts of catwalk/limit over this seat's translation. -/
import Derived.Test.YtnmjfeeogphlcaaRttWalks
import Derived.Deep.LoopGhost
import Derived.Deep.DeepCutAuto
namespace Go.Proofs.Ytnmjfeeogphlcaa
open Go.RowKit
set_option linter.unusedVariables false

theorem At.four {w : World} {b T : Nat} {x y z u : Value} (h : At w b T [x, y, z, u]) : w.cell? ⟨b, 0, none⟩ = some x ∧ w.cell? ⟨b, 1, none⟩ = some y ∧ w.cell? ⟨b, 2, none⟩ = some z ∧ w.cell? ⟨b, 3, none⟩ = some u ∧
    w.frozen? ⟨b, 0, none⟩ = false ∧ w.frozen? ⟨b, 1, none⟩ = false ∧ w.frozen? ⟨b, 2, none⟩ = false ∧ w.frozen? ⟨b, 3, none⟩ = false :=
  ⟨by rw [h.cell]; rfl, by rw [h.cell]; rfl, by rw [h.cell]; rfl, by rw [h.cell]; rfl, h.frozen 0, h.frozen 1, h.frozen 2, h.frozen 3⟩

def bk (r d h t : Int) : Value := .agg #[.int .i64 r, .int .i64 d, .int .i64 h, .int .i64 t]
/-- How much there is at a tick. -/
def fillH (r d h t now : Int) : Int := if now ≤ t then h else if 1048576 < now - t ∨ d - h < (now - t) * r then (if 0 < r then d else h) else h + (now - t) * r
def Bkt (r d h t : Int) : Prop := 0 ≤ r ∧ r ≤ 1048576 ∧ 0 ≤ d ∧ d ≤ 1048576 ∧ 0 ≤ h ∧ h ≤ d ∧ 0 ≤ t ∧ t ≤ 1000000

set_option maxHeartbeats 400000 in
theorem b_new (r d now : Int) (w : World) (h1 : 0 ≤ r) (h2 : r ≤ 1048576) (h3 : 0 ≤ d) (h4 : d ≤ 1048576) :
    Calls Try.prog 44 #[.int .i64 r, .int .i64 d, .int .i64 now] w fun e w' => e = .returned (.agg #[.int .i64 r, .int .i64 d, .int .i64 d, .int .i64 now]) ∧ Chg [] w w' := by
  have q1 : ¬ r < 0 := by omega
  have q2 : ¬ 1048576 < r := by omega
  have q3 : ¬ d < 0 := by omega
  have q4 : ¬ 1048576 < d := by omega
  go_enter Try.func44, Try.ntmps44
  go_wp2
  all_goals
    refine bodyPost_ret (v := .agg #[.int .i64 r, .int .i64 d, .int .i64 d, .int .i64 now]) ?_ rfl ⟨rfl, (Chg.refl _ _).alloc _⟩
    simp [results, Try.results44, go_sem]
    try omega

set_option maxHeartbeats 400000 in
theorem cut24 (n lo hi : Int) (w : World) (h : lo ≤ hi) :
    Calls Try.prog 45 #[.int .i64 n, .int .i64 lo, .int .i64 hi] w fun e w' => e = .returned (.int .i64 (cutZ n lo hi)) ∧ w = w' := by
  go_enter Try.func45, Try.ntmps45
  go_wp2
  all_goals
    go_ret
    exact ⟨ret_int (by unfold cutZ; first | omega | (split <;> omega) | (split <;> split <;> omega)), rfl⟩

set_option maxHeartbeats 1000000 in
theorem b_fill (r d h t now : Int) (w : World) (hB : Bkt r d h t) (hn : t ≤ now) (hn' : now ≤ 1000000) :
    Calls Try.prog 50 #[.agg #[.int .i64 r, .int .i64 d, .int .i64 h, .int .i64 t], .int .i64 now] w fun e w' =>
      e = .returned (.agg #[.int .i64 r, .int .i64 d, .int .i64 (fillH r d h t now), .int .i64 now]) ∧ Chg [] w w' := by
  obtain ⟨h1, h2, h3, h4, h5, h6, h7, h8⟩ := hB
  by_cases hle : now ≤ t
  · obtain rfl : now = t := by omega
    have e : fillH r d h now now = h := by unfold fillH; rw [if_pos (Int.le_refl _)]
    have E := Lib.hid e; clear e
    go_enter Try.func50, Try.ntmps50
    go_wp2
    refine bodyPost_ret (v := .agg #[.int .i64 r, .int .i64 d, .int .i64 (fillH r d h now now), .int .i64 now]) ?_ rfl ⟨rfl, ((Chg.refl _ _).alloc _).alloc _⟩
    rw [E.out]
    simp [results, Try.results50, go_sem]
  · have g0 : 0 ≤ (now - t) * r := Int.mul_nonneg (by omega) h1
    have g1 : (now - t) * r ≤ 1048576000000 := by
      have a := Int.mul_le_mul (show now - t ≤ 1000000 by omega) h2 h1 (by omega)
      simpa using a
    have hF : fillH r d h t now = if 1048576 < now - t ∨ d - h < (now - t) * r then (if 0 < r then d else h) else h + (now - t) * r := if_neg hle
    obtain ⟨G, hG⟩ : ∃ G, (now - t) * r = G := ⟨_, rfl⟩
    rw [hG] at g0 g1 hF
    have HF := Lib.hid hF; clear hF
    by_cases hbig : d - h < G
    · by_cases hr : 0 < r
      · have e : fillH r d h t now = d := by rw [HF.out, if_pos (Or.inr hbig), if_pos hr]
        have E := Lib.hid e; clear e
        go_enter Try.func50, Try.ntmps50
        go_wp2
        all_goals
          refine bodyPost_ret (v := .agg #[.int .i64 r, .int .i64 d, .int .i64 (fillH r d h t now), .int .i64 now]) ?_ rfl ⟨rfl, ((Chg.refl _ _).alloc _).alloc _⟩
          rw [E.out]
          simp [results, Try.results50, go_sem]
      · have e : fillH r d h t now = h := by rw [HF.out, if_pos (Or.inr hbig), if_neg hr]
        have E := Lib.hid e; clear e
        go_enter Try.func50, Try.ntmps50
        go_wp2
        all_goals
          refine bodyPost_ret (v := .agg #[.int .i64 r, .int .i64 d, .int .i64 (fillH r d h t now), .int .i64 now]) ?_ rfl ⟨rfl, ((Chg.refl _ _).alloc _).alloc _⟩
          rw [E.out]
          simp [results, Try.results50, go_sem]
    · have e : fillH r d h t now = h + G := by rw [HF.out, if_neg (by omega)]
      have E := Lib.hid e; clear e
      go_enter Try.func50, Try.ntmps50
      go_wp2
      all_goals
        refine bodyPost_ret (v := .agg #[.int .i64 r, .int .i64 d, .int .i64 (fillH r d h t now), .int .i64 now]) ?_ rfl ⟨rfl, ((Chg.refl _ _).alloc _).alloc _⟩
        rw [E.out]
        simp [results, Try.results50, go_sem]

theorem fillH_bd (r d h t now : Int) (hB : Bkt r d h t) (hn : t ≤ now) (hn' : now ≤ 1000000) : Bkt r d (fillH r d h t now) now ∧ fillH r d h t now ≤ h + (now - t) * r := by
  obtain ⟨h1, h2, h3, h4, h5, h6, h7, h8⟩ := hB
  have g0 : 0 ≤ (now - t) * r := Int.mul_nonneg (by omega) h1
  unfold fillH Bkt
  generalize (now - t) * r = G at *
  split
  · omega
  · split
    · split <;> omega
    · omega

/-- Behind the filling. -/
def TakeSt (b : Nat) (r d f now : Int) (w wx : World) : Prop :=
  At wx b 66 [.int .i64 r, .int .i64 d, .int .i64 f, .int .i64 now] ∧ At wx (b + 1) 66 [.int .i64 0, .int .i64 0, .int .i64 0, .int .i64 0] ∧ Chg [] w wx

set_option maxRecDepth 100000 in
set_option maxHeartbeats 1000000 in
theorem b_take_no (r d h t n now : Int) (w : World) (hB : Bkt r d h t) (hn : t ≤ now) (hn' : now ≤ 1000000) (hno : n < 0 ∨ fillH r d h t now < n) :
    Calls Try.prog 46 #[.agg #[.int .i64 r, .int .i64 d, .int .i64 h, .int .i64 t], .int .i64 n, .int .i64 now] w fun e w' =>
      e = .returned (.tuple #[.agg #[.int .i64 r, .int .i64 d, .int .i64 (fillH r d h t now), .int .i64 now], .bool false]) ∧ Chg [] w w' := by
  obtain ⟨hF, -⟩ := fillH_bd r d h t now hB hn hn'
  have C := Lib.hid (fun w => b_fill r d h t now w hB hn hn')
  obtain ⟨f, hf⟩ : ∃ f, f = fillH r d h t now := ⟨_, rfl⟩
  rw [← hf] at hF hno C ⊢
  clear hf hB hn hn'
  obtain ⟨h1, h2, h3, h4, h5, h6, h7, h8⟩ := hF
  go_enter Try.func46, Try.ntmps46
  go_upto_region 1 with (fail)
  go_cut [] (fun wx => TakeSt w.heap.size r d f now w wx)
  case first =>
    have C0 := Lib.hid ((At.new w 66 [.int .i64 r, .int .i64 d, .int .i64 h, .int .i64 t]).alloc (.cells #[.int .i64 0, .int .i64 0, .int .i64 0, .int .i64 0] 66))
    have C1 : At ((w.alloc (.cells #[.int .i64 r, .int .i64 d, .int .i64 h, .int .i64 t] 66)).alloc (.cells #[.int .i64 0, .int .i64 0, .int .i64 0, .int .i64 0] 66)) (w.heap.size + 1) 66 [.int .i64 0, .int .i64 0, .int .i64 0, .int .i64 0] := by
      have h := At.new (w.alloc (.cells #[.int .i64 r, .int .i64 d, .int .i64 h, .int .i64 t] 66)) 66 [.int .i64 0, .int .i64 0, .int .i64 0, .int .i64 0]
      simpa using h
    have D1 := Lib.hid C1; clear C1
    go_wp2_with fail
    refine (C.out _).mono ?_; rintro e w1 ⟨rfl, hq⟩
    have tA := Lib.hid (C0.out.chg hq (by simp)); obtain ⟨p0, p1, p2, p3, p4, p5, p6, p7⟩ := tA.out.four
    have tB := Lib.hid (D1.out.chg hq (by simp))
    have HQ := Lib.hid (show Chg [] w w1 from (((Chg.refl [] w).alloc _).alloc _).trans hq); clear hq
    go_wp2_with fail
    go_meet
    exact ⟨(((tA.out.set 0 _).set 1 _).set 2 _).set 3 _, (((tB.out.far (by simp) _).far (by simp) _).far (by simp) _).far (by simp) _,
      (((HQ.out.set (by simp) _).set (by simp) _).set (by simp) _).set (by simp) _⟩
  case rest =>
    obtain ⟨hA, hB, hC⟩ := hcut
    have HA := Lib.hid hA
    have HB := Lib.hid hB
    have HC := Lib.hid hC
    obtain ⟨p0, p1, p2, p3, p4, p5, p6, p7⟩ := hA.four
    obtain ⟨r0, r1, r2, r3, r4, r5, r6, r7⟩ := hB.four
    clear hA hB hC
    rcases hno with hno | hno
    all_goals
      go_wp2_with fail
      refine bodyPost_ret (v := .tuple #[.agg #[.int .i64 r, .int .i64 d, .int .i64 f, .int .i64 now], .bool false]) ?_ rfl ⟨rfl, ?_⟩
      · have hfin := (((HB.out.set 0 (.int .i64 r)).set 1 (.int .i64 d)).set 2 (.int .i64 f)).set 3 (.int .i64 now)
        generalize ((((wc.setCell ⟨w.heap.size + 1, 0, none⟩ (.int .i64 r)).setCell ⟨w.heap.size + 1, 1, none⟩ (.int .i64 d)).setCell ⟨w.heap.size + 1, 2, none⟩ (.int .i64 f)).setCell ⟨w.heap.size + 1, 3, none⟩ (.int .i64 now)) = wf at hfin ⊢
        obtain ⟨q0, q1, q2, q3, _⟩ := (hfin.to (cs' := [.int .i64 r, .int .i64 d, .int .i64 f, .int .i64 now]) rfl).four
        simp [results, Try.results46, go_sem, q0, q1, q2, q3]
      · exact (((HC.out.set (by simp) _).set (by simp) _).set (by simp) _).set (by simp) _

set_option maxRecDepth 100000 in
set_option maxHeartbeats 1000000 in
theorem b_take_yes (r d h t n now : Int) (w : World) (hB : Bkt r d h t) (hn : t ≤ now) (hn' : now ≤ 1000000) (hy0 : 0 ≤ n) (hy : n ≤ fillH r d h t now) :
    Calls Try.prog 46 #[.agg #[.int .i64 r, .int .i64 d, .int .i64 h, .int .i64 t], .int .i64 n, .int .i64 now] w fun e w' =>
      e = .returned (.tuple #[.agg #[.int .i64 r, .int .i64 d, .int .i64 ((fillH r d h t now) - n), .int .i64 now], .bool true]) ∧ Chg [] w w' := by
  obtain ⟨hF, -⟩ := fillH_bd r d h t now hB hn hn'
  have C := Lib.hid (fun w => b_fill r d h t now w hB hn hn')
  obtain ⟨f, hf⟩ : ∃ f, f = fillH r d h t now := ⟨_, rfl⟩
  rw [← hf] at hF hy C ⊢
  clear hf hB hn hn'
  obtain ⟨h1, h2, h3, h4, h5, h6, h7, h8⟩ := hF
  go_enter Try.func46, Try.ntmps46
  go_upto_region 1 with (fail)
  go_cut [] (fun wx => TakeSt w.heap.size r d f now w wx)
  case first =>
    have C0 := Lib.hid ((At.new w 66 [.int .i64 r, .int .i64 d, .int .i64 h, .int .i64 t]).alloc (.cells #[.int .i64 0, .int .i64 0, .int .i64 0, .int .i64 0] 66))
    have C1 : At ((w.alloc (.cells #[.int .i64 r, .int .i64 d, .int .i64 h, .int .i64 t] 66)).alloc (.cells #[.int .i64 0, .int .i64 0, .int .i64 0, .int .i64 0] 66)) (w.heap.size + 1) 66 [.int .i64 0, .int .i64 0, .int .i64 0, .int .i64 0] := by
      have h := At.new (w.alloc (.cells #[.int .i64 r, .int .i64 d, .int .i64 h, .int .i64 t] 66)) 66 [.int .i64 0, .int .i64 0, .int .i64 0, .int .i64 0]
      simpa using h
    have D1 := Lib.hid C1; clear C1
    go_wp2_with fail
    refine (C.out _).mono ?_; rintro e w1 ⟨rfl, hq⟩
    have tA := Lib.hid (C0.out.chg hq (by simp)); obtain ⟨p0, p1, p2, p3, p4, p5, p6, p7⟩ := tA.out.four
    have tB := Lib.hid (D1.out.chg hq (by simp))
    have HQ := Lib.hid (show Chg [] w w1 from (((Chg.refl [] w).alloc _).alloc _).trans hq); clear hq
    go_wp2_with fail
    go_meet
    exact ⟨(((tA.out.set 0 _).set 1 _).set 2 _).set 3 _, (((tB.out.far (by simp) _).far (by simp) _).far (by simp) _).far (by simp) _,
      (((HQ.out.set (by simp) _).set (by simp) _).set (by simp) _).set (by simp) _⟩
  case rest =>
    obtain ⟨hA, hB, hC⟩ := hcut
    have HA := Lib.hid hA
    have HB := Lib.hid hB
    have HC := Lib.hid hC
    obtain ⟨p0, p1, p2, p3, p4, p5, p6, p7⟩ := hA.four
    obtain ⟨r0, r1, r2, r3, r4, r5, r6, r7⟩ := hB.four
    clear hA hB hC
    go_wp2_with fail
    refine bodyPost_ret (v := .tuple #[.agg #[.int .i64 r, .int .i64 d, .int .i64 (f - n), .int .i64 now], .bool true]) ?_ rfl ⟨rfl, ?_⟩
    · have hfin := ((((HB.out.far (a := ⟨w.heap.size, 2, none⟩) (by simp) (.int .i64 (f - n))).set 0 (.int .i64 r)).set 1 (.int .i64 d)).set 2 (.int .i64 (f - n))).set 3 (.int .i64 now)
      generalize (((((wc.setCell ⟨w.heap.size, 2, none⟩ (.int .i64 (f - n))).setCell ⟨w.heap.size + 1, 0, none⟩ (.int .i64 r)).setCell ⟨w.heap.size + 1, 1, none⟩ (.int .i64 d)).setCell ⟨w.heap.size + 1, 2, none⟩ (.int .i64 (f - n))).setCell ⟨w.heap.size + 1, 3, none⟩ (.int .i64 now)) = wf at hfin ⊢
      obtain ⟨q0, q1, q2, q3, _⟩ := (hfin.to (cs' := [.int .i64 r, .int .i64 d, .int .i64 (f - n), .int .i64 now]) rfl).four
      simp [results, Try.results46, go_sem, q0, q1, q2, q3]
    · exact ((((HC.out.set (by simp) _).set (by simp) _).set (by simp) _).set (by simp) _).set (by simp) _

set_option maxHeartbeats 1000000 in
theorem b_ready (w : World) :
    Calls Try.prog 51 #[.agg #[.int .i64 2, .int .i64 10, .int .i64 0, .int .i64 0], .int .i64 3] w fun e w' => e = .returned (.int .i64 2) ∧ Chg [] w w' := by
  go_enter Try.func51, Try.ntmps51
  go_wp2
  go_ret
  exact ⟨rfl, (Chg.refl _ _).alloc _⟩

theorem l8 : fillH 2 10 10 0 0 = 10 := by decide
set_option maxHeartbeats 1000000 in
theorem alive24_any (w : World) : Calls Try.prog 47 #[] w fun e w' => e = .returned (.bool true) ∧ Chg [] w w' := by
  have H1 := Lib.hid l8
  have W1 := Lib.hid (show Bkt 2 10 10 0 by unfold Bkt; omega)
  go_enter Try.func47, Try.ntmps47
  go_wp2_with fail
  refine (b_new 2 10 0 _ (by omega) (by omega) (by omega) (by omega)).mono ?_; rintro e w1 ⟨rfl, hq1⟩
  go_wp2_with fail
  refine (b_take_yes 2 10 10 0 10 0 _ W1.out (by omega) (by omega) (by omega) (by rw [H1.out]; omega)).mono ?_; rintro e w2 ⟨rfl, hq2⟩
  rw [H1.out]
  go_wp2_with fail
  refine (b_ready _).mono ?_; rintro e w3 ⟨rfl, hq3⟩
  go_wp2_with fail
  go_ret
  exact ⟨rfl, ((hq1.trans hq2).alloc _).trans hq3⟩

def takeOk (r d h t n now : Int) : Bool := decide (0 ≤ n) && decide (n ≤ fillH r d h t now)
def takeH (r d h t n now : Int) : Int := if takeOk r d h t n now then fillH r d h t now - n else fillH r d h t now
theorem b_take (r d h t n now : Int) (w : World) (hB : Bkt r d h t) (hn : t ≤ now) (hn' : now ≤ 1000000) :
    Calls Try.prog 46 #[.agg #[.int .i64 r, .int .i64 d, .int .i64 h, .int .i64 t], .int .i64 n, .int .i64 now] w fun e w' =>
      e = .returned (.tuple #[.agg #[.int .i64 r, .int .i64 d, .int .i64 (takeH r d h t n now), .int .i64 now], .bool (takeOk r d h t n now)]) ∧ Chg [] w w' := by
  by_cases hy : 0 ≤ n ∧ n ≤ fillH r d h t now
  · have e : takeOk r d h t n now = true := by simp [takeOk, hy]
    rw [show takeH r d h t n now = fillH r d h t now - n by rw [takeH, e]; rfl, e]
    exact b_take_yes r d h t n now w hB hn hn' hy.1 hy.2
  · have e : takeOk r d h t n now = false := by simp only [takeOk, Bool.and_eq_false_iff, decide_eq_false_iff_not]; omega
    rw [show takeH r d h t n now = fillH r d h t now by rw [takeH, e]; rfl, e]
    exact b_take_no r d h t n now w hB hn hn' (by omega)
theorem take_bd (r d h t n now : Int) (hB : Bkt r d h t) (hn : t ≤ now) (hn' : now ≤ 1000000) :
    Bkt r d (takeH r d h t n now) now ∧ takeH r d h t n now ≤ h + (now - t) * r ∧ (takeOk r d h t n now = true → 0 ≤ n ∧ n ≤ 1048576 ∧ takeH r d h t n now + n ≤ h + (now - t) * r) := by
  have hF := fillH_bd r d h t now hB hn hn'
  generalize (now - t) * r = G at *
  unfold takeH
  cases e : takeOk r d h t n now
  · simp only [Bool.false_eq_true, if_false, false_implies, and_true]; exact hF
  · simp only [takeOk, Bool.and_eq_true, decide_eq_true_eq] at e
    simp only [if_true]
    unfold Bkt at *
    omega
end Go.Proofs.Ytnmjfeeogphlcaa
