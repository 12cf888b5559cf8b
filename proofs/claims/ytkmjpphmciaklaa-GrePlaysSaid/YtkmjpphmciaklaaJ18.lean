/- The reference's sender (catwalkref30): Pump. -/
import Derived.Test.YtkmjpphmciaklaaJ17
import Derived.Test.YtkmjpphmciaklaaJ12
import Derived.Deep.LoopGhost
import Derived.Deep.DeepCutAuto
import Derived.Deep.CutBlock
namespace Go.Proofs.Ytkmjpphmciaklaa
open Go.RowKit
set_option linter.unusedVariables false
set_option linter.unusedSimpArgs false
attribute [local go_sem ↓] Go.wp_at_zero Go.wp_at_succ

theorem ones_flat {l : List Value} (h : ∀ u ∈ l, u.oneCell' = true) : Flat 1 (ones l) := fun x hx => by
  simp only [ones, List.mem_map] at hx
  obtain ⟨u, hu, rfl⟩ := hx
  exact ⟨rfl, fun y hy => by simp at hy; subst hy; exact h _ hu⟩
/-- What a row's block may be. -/
def From (v v0 : Value) (n : Nat) : Prop := ∀ b, v.ownBlock = some b → v0.ownBlock = some b ∨ n ≤ b
theorem From.refl (v : Value) (n : Nat) : From v v n := fun b h => .inl h
theorem RSAt.kind {w : World} {q : Nat} {vw va : Value} {x : Snd Value} (h : RSAt w q vw va x) : ∀ b ∈ rsF q vw va, IsT w b 153 ∨ IsT w b 29 ∨ IsT w b 166 := fun b hb => by
  simp only [rsF, List.mem_cons, List.mem_append] at hb
  rcases hb with rfl | hb | hb
  · exact .inl h.str.isT
  · exact .inr (.inl (h.wait.lt b (by simpa using hb)).2)
  · exact .inr (.inr (h.air.lt b (by simpa using hb)).2)
/-- At the head of a round of Pump. -/
def RPumpInv (q : Nat) (vw0 va0 : Value) (x : Snd Value) (now : Int) (w : World) (n : Nat) (v5 : Value) (wr : World) : Prop :=
  ∃ done nx air l vw va, n = l.length ∧ Own 31 2 wr w.heap.size v5 (pk done) ∧ RSAt wr q vw va { x with nx := nx, air := air, wait := l } ∧ Chg [q] w wr ∧ From vw vw0 w.heap.size ∧ From va va0 w.heap.size ∧
    0 ≤ nx ∧ nx < 4294967296 ∧ air.length ≤ 16 ∧ done.length + l.length = x.wait.length ∧ (∀ u ∈ l, ∃ a n c, u = .slice a n c) ∧
    (pumpF x.s now x.nx x.air x.wait).1 = done ++ (pumpF x.s now nx air l).1 ∧ (pumpF x.s now x.nx x.air x.wait).2 = (pumpF x.s now nx air l).2
def RPumpPost (q : Nat) (vw0 va0 : Value) (x : Snd Value) (now : Int) (w : World) (e : Ending) (w' : World) : Prop :=
  ∃ o vw va, e = .returned o ∧ Own 31 2 w' w.heap.size o (pk (x.pump now).2) ∧ RSAt w' q vw va (x.pump now).1 ∧ Chg [q] w w' ∧ From vw vw0 w.heap.size ∧ From va va0 w.heap.size
theorem RPumpInv.stop {q : Nat} {vw0 va0 : Value} {x : Snd Value} {now : Int} {w wr w' : World} {done : List (Int × Value)} {nx : Int} {air : List (Int × Int)} {l : List Value} {vw va v5 : Value}
    (hO : Own 31 2 wr w.heap.size v5 (pk done)) (hS : RSAt wr q vw va { x with nx := nx, air := air, wait := l }) (hC : Chg [q] w wr) (hvw : From vw vw0 w.heap.size) (hva : From va va0 w.heap.size)
    (e1 : (pumpF x.s now x.nx x.air x.wait).1 = done ++ (pumpF x.s now nx air l).1) (e2 : (pumpF x.s now x.nx x.air x.wait).2 = (pumpF x.s now nx air l).2) (hz : pumpF x.s now nx air l = ([], nx, air, l)) (hc : Chg [] wr w') :
    RPumpPost q vw0 va0 x now w (.returned v5) w' := by
  rw [hz] at e1 e2
  simp only [List.append_nil] at e1
  refine ⟨v5, vw, va, rfl, ?_, ?_, hC.trans' hc (by simp), hvw, hva⟩
  · show Own 31 2 w' w.heap.size v5 (pk (pumpF x.s now x.nx x.air x.wait).1)
    rw [e1]; exact hO.keep hc
  · show RSAt w' q vw va { x with nx := (pumpF x.s now x.nx x.air x.wait).2.1, air := (pumpF x.s now x.nx x.air x.wait).2.2.1, wait := (pumpF x.s now x.nx x.air x.wait).2.2.2 }
    rw [e2]; exact hS.keep hc

set_option maxRecDepth 100000 in
set_option maxHeartbeats 2000000 in
theorem rs_pump (w : World) (q : Nat) (vw0 va0 : Value) (x : Snd Value) (now : Int) (h : RSAt w q vw0 va0 x) (ok : x.Ok) (hform : ∀ u ∈ x.wait, ∃ a n c, u = .slice a n c) :
    Calls Try.prog 112 #[.pointer (some ⟨q, 0, none⟩), .int .i64 now] w (RPumpPost q vw0 va0 x now w) := by
  have H := Lib.hid h
  have hs16 : x.s ≤ 16 := by have := ok.win; unfold Win at this; omega
  have hw16 := ok.wait
  have hx0 := ok.nx0
  have hx1 := ok.nx1
  have ha16 := ok.air
  clear h ok
  go_enter Try.func112, Try.ntmps112
  go_wp2_with fail
  go_loopg [5, 6] x.wait.length (fun n v5 v6 wr => RPumpInv q vw0 va0 x now w n v5 wr)
  case atStart => exact ⟨[], x.nx, x.air, x.wait, vw0, va0, rfl, Own.nil _ _ _ _, H.out, Chg.refl _ _, From.refl _ _, From.refl _ _, hx0, hx1, ha16, by simp, hform, by simp, rfl⟩
  case round =>
    obtain ⟨w9, hw9⟩ : ∃ w9, w9 = wr := ⟨_, rfl⟩
    subst hw9
    clear hform
    obtain ⟨done, nx, air, l, vw, va, rfl, hO, hS, hC, hvw, hva, n0, n1, ha, hdl, hfm, e1, e2⟩ := hrel
    obtain ⟨A, cw, rfl, hcw, _⟩ := hS.wait.form
    obtain ⟨aa, ac, rfl, hac, _⟩ := hS.air.form
    rw [ones_len] at hS hvw
    rw [fl_len] at hS hva
    simp only [ones_len] at hcw
    have hA := hS.str
    simp only at hA
    obtain ⟨c0, c1, c2, c3, _⟩ := hA.nine
    have HO := Lib.hid hO
    have HS := Lib.hid hS
    have HC := Lib.hid hC
    have HVW := Lib.hid hvw
    have HVA := Lib.hid hva
    have E1 := Lib.hid e1
    have E2 := Lib.hid e2
    have HA := Lib.hid hA
    have HDL := Lib.hid hdl
    have HFM := Lib.hid hfm
    have hsz := hC.size
    have hpw := hA.lt
    clear hO hS hC hvw hva e1 e2 hA hdl hfm
    go_upto_region 2 with (fail)
    go_cut [25] (fun s25 wq => s25 = .bool (decide (0 < l.length ∧ (air.length : Int) < x.s)) ∧ Drawn w9 wq)
    case first =>
      by_cases hl0 : 0 < l.length
      · by_cases hlt : (air.length : Int) < x.s
        · have hd : decide (0 < l.length ∧ (air.length : Int) < x.s) = true := decide_eq_true ⟨by omega, hlt⟩
          have HD := Lib.hid hd
          clear hd
          go_quiet (fail)
          go_wp2_with fail
          go_meet
          exact ⟨by rw [HD.out], (Drawn.refl _).drewN _⟩
        · have hd : decide (0 < l.length ∧ (air.length : Int) < x.s) = false := decide_eq_false (fun h => hlt h.2)
          have HD := Lib.hid hd
          clear hd
          go_quiet (fail)
          go_wp2_with fail
          go_meet
          exact ⟨by rw [HD.out], (Drawn.refl _).drewN _⟩
      · have hd : decide (0 < l.length ∧ (air.length : Int) < x.s) = false := decide_eq_false (fun h => hl0 (by omega))
        have HD := Lib.hid hd
        clear hd
        go_quiet (fail)
        go_wp2_with fail
        go_meet
        exact ⟨by rw [HD.out], (Drawn.refl _).drewN _⟩
    case rest =>
      obtain ⟨rfl, hdr⟩ := hcut
      obtain ⟨w1, hw1⟩ : ∃ z, z = wc := ⟨_, rfl⟩
      subst hw1
      have HC1 := Lib.hid (hdr.chg [])
      clear hdr c0 c1 c2 c3
      by_cases hgo : 0 < l.length ∧ (air.length : Int) < x.s
      · have HD := decide_eq_true hgo
        rw [HD]
        clear HD
        obtain ⟨hl0, hlt⟩ := hgo
        cases l with
        | nil => simp at hl0
        | cons v l' =>
          obtain ⟨xa, xn, xc, rfl⟩ := HFM.out v (by simp)
          have HS1 := HS.out.keep HC1.out
          obtain ⟨gw, ow, rfl, hgT, hcell⟩ := HS1.wait.cells (by simp [ones])
          have cv : w1.cell? ⟨gw, ow, none⟩ = some (.slice xa xn xc) := by simpa using hcell 0 _ rfl
          have hgl := hgT.lt
          have hA1 : At w1 q 153 [.int .u32 nx, .slice (some ⟨gw, ow, none⟩) (l'.length + 1) cw, .slice aa air.length ac, .int .i64 x.s, .int .i64 x.a, .int .i64 x.mo, .int .i64 x.m, .int .i64 x.d, .int .i64 x.lost] := HS1.str
          have hcw1 : l'.length + 1 ≤ cw := hcw
          have hdl2 : done.length + (l'.length + 1) = x.wait.length := HDL.out
          have hs1 : w.heap.size ≤ w1.heap.size := Nat.le_trans hsz HC1.out.size
          have hcd : Chg [] w1 w1.drew := (Chg.refl _ _).drew
          have hOut1 := (HO.out.keep HC1.out).keep hcd
          obtain ⟨v5', w3, happ, hO3, hc3, hob3⟩ := own_push (w := w1.drew) elem31 27 hOut1 hs1 (x := [.int .u32 nx, .slice xa xn xc]) (c := 1) rfl (by intro u hu; simp at hu; rcases hu with rfl | rfl <;> rfl) (by rw [pk_len]; omega)
          have e3 : w1.drew.alloc (.cells [Value.int .u32 nx, Value.slice xa xn xc].toArray 31) = (w1.alloc (.cells #[.int .u32 nx, .slice xa xn xc] 31)).drew := rfl
          rw [e3] at happ
          have hl5 : ∀ b ∈ (Value.ownBlock u5).toList, w.heap.size ≤ b := fun b hb => (hOut1.lt b (by simpa using hb)).1
          have hS3 := (HS1.keep hcd).chg hc3 (fun b hb hm => by
            have ht := hOut1.isT (by simpa using hb)
            rcases (HS1.keep hcd).kind b hm with k | k | k <;> exact ht.ne k (by decide) rfl)
          have hs3 : w.heap.size ≤ w3.heap.size := Nat.le_trans hs1 hc3.size
          obtain ⟨v6, w4, r1, r2, r3, r4⟩ := own_app elem166 147 (Own.nil 166 2 w3 w3.heap.size) (Nat.le_refl _) (A := aa) (m := air.length) (c := ac) (news := fl air) (fl_len _) hS3.air.1 (fun hp => by
            obtain ⟨g, o, e, _, hc⟩ := hS3.air.cells (by rw [fl_len]; exact hp)
            exact ⟨g, o, e, hc⟩) (by simp; omega)
          have hc4 : Chg [] w3 w4 := r3
          obtain ⟨v7, w5, p1, p2, p3, p4⟩ := own_push (w := w4) elem166 147 r2 hc4.size (x := [.int .u32 nx, .int .i64 now]) (c := 1) rfl (by intro u hu; simp at hu; rcases hu with rfl | rfl <;> rfl) (by simp [fl_len]; omega)
          have hc5 : Chg [] w3 w5 := hc4.trans' p3 (fun b hb => .inr (r2.lt b (by simpa using hb)).1)
          obtain ⟨a7, n7, hv7⟩ := p2.slice
          obtain ⟨k7, hk7⟩ : ∃ k, k = ([] ++ fl air ++ [[Value.int .u32 nx, Value.int .i64 now]]).length := ⟨_, rfl⟩
          rw [← hk7] at hv7
          subst hv7
          obtain ⟨a6, n6, hv6⟩ := r2.slice
          obtain ⟨k6, hk6⟩ : ∃ k, k = ([] ++ fl air).length := ⟨_, rfl⟩
          rw [← hk6] at hv6
          subst hv6
          have hA3 : At w3 q 153 [.int .u32 nx, .slice (some ⟨gw, ow, none⟩) (l'.length + 1) cw, .slice aa air.length ac, .int .i64 x.s, .int .i64 x.a, .int .i64 x.mo, .int .i64 x.m, .int .i64 x.d, .int .i64 x.lost] := hS3.str
          have hA4 := hA3.chg hc4 (by simp)
          have hA5 := hA3.chg hc5 (by simp)
          obtain ⟨A', hA'⟩ : ∃ A', A' = (if cw = 1 then some ⟨gw, ow, none⟩ else some ⟨gw, ow + 1, none⟩ : Option Addr) := ⟨_, rfl⟩
          have hdrop : View 29 1 w3 (.slice A' l'.length (cw - 1)) (ones l') := by
            have h := hS3.wait.drop (k := 1) (by simp [ones])
            rw [hA']
            simpa [ones] using h
          obtain ⟨nx', hnx'⟩ : ∃ nx', nx' = (nx + 1) % 4294967296 := ⟨_, rfl⟩
          obtain ⟨wf, hwf⟩ : ∃ wf, wf = ((w5.setCell ⟨q, 2, none⟩ (.slice a7 k7 n7)).setCell ⟨q, 1, none⟩ (.slice A' l'.length (cw - 1))).setCell ⟨q, 0, none⟩ (.int .u32 nx') := ⟨_, rfl⟩
          have hcf : Chg [q] w5 wf := by rw [hwf]; exact (((Chg.refl [q] w5).set (by simp) _).set (by simp) _).set (by simp) _
          have hSf : RSAt wf q (.slice A' l'.length (cw - 1)) (.slice a7 k7 n7) { x with nx := nx', air := air ++ [(nx, now)], wait := l' } := by
            refine ⟨by rw [hwf]; exact ((hA5.set 2 _).set 1 _).set 0 _, (hdrop.keep hc5).chg hcf (by simp; exact (hdrop.keep hc5).ne hA5 (by decide)), ?_⟩
            have hv := p2.view.chg hcf (by simp; exact p2.ne hA5 (by decide))
            rw [List.nil_append] at hv
            rw [fl_app]
            exact hv
          have hrun := pumpF_go (now := now) (nx := nx) (v := Value.slice xa xn xc) (l := l') hlt
          have e1 := E1.out
          have e2 := E2.out
          rw [hrun, ← hnx'] at e1 e2
          have hfin : RPumpInv q vw0 va0 x now w l'.length v5' wf := by
            refine ⟨done ++ [(nx, .slice xa xn xc)], nx', air ++ [(nx, now)], l', .slice A' l'.length (cw - 1), .slice a7 k7 n7, rfl, ?_, hSf, ?_, fun b hb => ?_, fun b hb => ?_, by omega, by omega, by simp; omega, by simp; omega, fun u hu => HFM.out u (by simp [hu]), by rw [e1]; simp, e2⟩
            · rw [pk_app]
              exact (hO3.keep hc5).chg hcf (fun b hb => by simp at hb; subst hb; exact (hO3.keep hc5).ne hA5 (by decide))
            · exact (((((HC.out.trans' HC1.out (by simp)).drew).trans' hc3 (fun b hb => .inr (hl5 b hb))).trans' hc5 (by simp)).trans hcf)
            · refine HVW.out b ?_
              rw [hA'] at hb
              split at hb <;> exact hb
            · exact .inr (Nat.le_trans hs3 (p2.lt b hb).1)
          have g3 : w3.cell? ⟨gw, ow, none⟩ = some (.slice xa xn xc) := by
            obtain ⟨g', o', e, _, hc⟩ := hS3.wait.cells (by simp [ones])
            simp only [Option.some.injEq, Addr.mk.injEq] at e
            obtain ⟨rfl, rfl, -⟩ := e
            simpa using hc 0 _ rfl
          have HF := Lib.hid hfin
          have R1 := Lib.hid r1
          have P1 := Lib.hid p1
          have HAPP := Lib.hid happ
          have HWF := Lib.hid hwf
          have HNX := Lib.hid hnx'
          have hif := hA'.symm
          obtain ⟨f0, f1, _⟩ := hA1.nine
          obtain ⟨g0, g1, g2, _⟩ := hA3.nine
          have KK : Hid (∀ o, (w1.alloc o).cell? ⟨q, 0, none⟩ = some (.int .u32 nx) ∧ (w1.alloc o).cell? ⟨q, 1, none⟩ = some (.slice (some ⟨gw, ow, none⟩) (l'.length + 1) cw) ∧ (w1.alloc o).cell? ⟨gw, ow, none⟩ = some (.slice xa xn xc)) :=
            Lib.hid (fun o => ⟨(((Chg.refl [] w1).alloc o).cell (p := ⟨q, 0, none⟩) hA1.lt (by simp)).trans f0, (((Chg.refl [] w1).alloc o).cell (p := ⟨q, 1, none⟩) hA1.lt (by simp)).trans f1, (((Chg.refl [] w1).alloc o).cell (p := ⟨gw, ow, none⟩) hgl (by simp)).trans cv⟩)
          have y0 : w4.cell? ⟨q, 0, none⟩ = some (.int .u32 nx) := hA4.nine.1
          have k0 : w5.cell? ⟨q, 0, none⟩ = some (.int .u32 nx) := hA5.nine.1
          have k1 : w5.cell? ⟨q, 1, none⟩ = some (.slice (some ⟨gw, ow, none⟩) (l'.length + 1) cw) := hA5.nine.2.1
          have k2 : w5.cell? ⟨q, 2, none⟩ = some (.slice aa air.length ac) := hA5.nine.2.2.1
          have z0 : w5.frozen? ⟨q, 0, none⟩ = false := hA5.frozen 0
          have z1 : w5.frozen? ⟨q, 1, none⟩ = false := hA5.frozen 1
          have z2 : w5.frozen? ⟨q, 2, none⟩ = false := hA5.frozen 2
          clear HS1 hgT hcell hA1 hs1 hcd hOut1 happ hO3 hc3 hob3 e3 hl5 hS3 hs3 r1 r2 r3 r4 hc4 p1 p2 p3 p4 hc5 hk7 hk6 hA3 hA4 hA5 hA' hdrop hnx' hwf hcf hSf hrun e1 e2 hfin
          go_upto_region 3 with (fail)
          refine wp_region_phase 14 (fun w' => w'.cell? ⟨q, 0, none⟩ = some (.int .u32 nx) ∧ w'.cell? ⟨q, 1, none⟩ = some (.slice (some ⟨gw, ow, none⟩) (l'.length + 1) cw) ∧ w'.cell? ⟨gw, ow, none⟩ = some (.slice xa xn xc)) (by kernel_rfl) ?_
          refine wpAnyP_with (by exact ⟨f0, f1, cv⟩) (fun hSw => ?_)
          refine wpAnyP_take 0 [] (v := ?_) rfl (by kernel_rfl) (fun _ _ _ h => h) (by assumption) (Or.inl ⟨by rfl, ?_⟩) ?_
          rotate_left
          · (intro w hSw; (try dsimp only at hSw); obtain ⟨s0, s1, s2⟩ := hSw; go_simp; try with_reducible rfl)
          simp only [List.getElem_toArray, List.getElem_cons_succ, List.getElem_cons_zero, Act.put, List.setIfInBounds_toArray, List.set_cons_zero, List.set_cons_succ]
          refine wpAnyP_take 1 [] (v := ?_) rfl (by kernel_rfl) (fun _ _ _ h => h) (by assumption) (Or.inl ⟨by rfl, ?_⟩) ?_
          rotate_left
          · (intro w hSw; (try dsimp only at hSw); obtain ⟨s0, s1, s2⟩ := hSw; go_simp; try with_reducible rfl)
          simp only [List.getElem_toArray, List.getElem_cons_succ, List.getElem_cons_zero, Act.put, List.setIfInBounds_toArray, List.set_cons_zero, List.set_cons_succ]
          refine wpAnyP_take 2 [] (v := ?_) rfl (by kernel_rfl) (fun _ _ _ h => h) (by assumption) (Or.inl ⟨by rfl, ?_⟩) ?_
          rotate_left
          · (intro w hSw; (try dsimp only at hSw); obtain ⟨s0, s1, s2⟩ := hSw; go_simp; try with_reducible rfl)
          simp only [List.getElem_toArray, List.getElem_cons_succ, List.getElem_cons_zero, Act.put, List.setIfInBounds_toArray, List.set_cons_zero, List.set_cons_succ]
          refine wpAnyP_take 3 [] (v := ?_) rfl (by kernel_rfl) (fun _ _ _ h => h) (by assumption) (Or.inl ⟨by rfl, ?_⟩) ?_
          rotate_left
          · (intro w hSw; (try dsimp only at hSw); obtain ⟨s0, s1, s2⟩ := hSw; go_simp; try with_reducible rfl)
          simp only [List.getElem_toArray, List.getElem_cons_succ, List.getElem_cons_zero, Act.put, List.setIfInBounds_toArray, List.set_cons_zero, List.set_cons_succ]
          refine wpAnyP_take 4 [] (v := ?_) rfl (by kernel_rfl) (fun _ _ _ h => h) (by assumption) (Or.inl ⟨by rfl, ?_⟩) ?_
          rotate_left
          · (intro w hSw; (try dsimp only at hSw); obtain ⟨s0, s1, s2⟩ := hSw; go_simp; try with_reducible rfl)
          simp only [List.getElem_toArray, List.getElem_cons_succ, List.getElem_cons_zero, Act.put, List.setIfInBounds_toArray, List.set_cons_zero, List.set_cons_succ]
          refine wpAnyP_take 5 [] (v := ?_) rfl (by kernel_rfl) (fun _ _ _ h => h) (by assumption) (Or.inl ⟨by rfl, ?_⟩) ?_
          rotate_left
          · (intro w hSw; (try dsimp only at hSw); obtain ⟨s0, s1, s2⟩ := hSw; go_simp; try with_reducible rfl)
          simp only [List.getElem_toArray, List.getElem_cons_succ, List.getElem_cons_zero, Act.put, List.setIfInBounds_toArray, List.set_cons_zero, List.set_cons_succ]
          refine wpAnyP_take 6 [] (v := ?_) rfl (by kernel_rfl) (fun _ _ _ h => h) (by assumption) (Or.inl ⟨by rfl, ?_⟩) ?_
          rotate_left
          · (intro w hSw; (try dsimp only at hSw); obtain ⟨s0, s1, s2⟩ := hSw; go_simp; try with_reducible rfl)
          simp only [List.getElem_toArray, List.getElem_cons_succ, List.getElem_cons_zero, Act.put, List.setIfInBounds_toArray, List.set_cons_zero, List.set_cons_succ]
          refine wpAnyP_take 7 [] (v := ?_) rfl (by kernel_rfl) (fun _ _ _ h => h) (by assumption) (Or.inl ⟨by rfl, ?_⟩) ?_
          rotate_left
          · (intro w hSw; (try dsimp only at hSw); obtain ⟨s0, s1, s2⟩ := hSw; go_simp; try with_reducible rfl)
          simp only [List.getElem_toArray, List.getElem_cons_succ, List.getElem_cons_zero, Act.put, List.setIfInBounds_toArray, List.set_cons_zero, List.set_cons_succ]
          refine wpAnyP_take 8 [] (v := ?_) rfl (by kernel_rfl) (fun _ _ _ h => h) (by assumption) (Or.inl ⟨by rfl, ?_⟩) ?_
          rotate_left
          · (intro w hSw; (try dsimp only at hSw); obtain ⟨s0, s1, s2⟩ := hSw; go_simp; try with_reducible rfl)
          simp only [List.getElem_toArray, List.getElem_cons_succ, List.getElem_cons_zero, Act.put, List.setIfInBounds_toArray, List.set_cons_zero, List.set_cons_succ]
          refine wpAnyP_take 9 [] (v := ?_) rfl (by kernel_rfl) (fun _ _ _ h => h) (by assumption) (Or.inl ⟨by rfl, ?_⟩) ?_
          rotate_left
          · (intro w hSw; (try dsimp only at hSw); obtain ⟨s0, s1, s2⟩ := hSw; go_simp; try with_reducible rfl)
          simp only [List.getElem_toArray, List.getElem_cons_succ, List.getElem_cons_zero, Act.put, List.setIfInBounds_toArray, List.set_cons_zero, List.set_cons_succ]
          refine wpAnyP_take 10 [] (v := ?_) rfl (by kernel_rfl) (fun _ _ _ h => h) (by assumption) (Or.inl ⟨by rfl, ?_⟩) ?_
          rotate_left
          · (intro w hSw; (try dsimp only at hSw); obtain ⟨s0, s1, s2⟩ := hSw; go_simp; try with_reducible rfl)
          simp only [List.getElem_toArray, List.getElem_cons_succ, List.getElem_cons_zero, Act.put, List.setIfInBounds_toArray, List.set_cons_zero, List.set_cons_succ]
          refine wpAnyP_take 11 [] (v := ?_) rfl (by kernel_rfl) (fun _ _ _ h => h) (by assumption) (Or.inl ⟨by rfl, ?_⟩) ?_
          rotate_left
          · (intro w hSw; (try dsimp only at hSw); obtain ⟨s0, s1, s2⟩ := hSw; go_simp; try with_reducible rfl)
          simp only [List.getElem_toArray, List.getElem_cons_succ, List.getElem_cons_zero, Act.put, List.setIfInBounds_toArray, List.set_cons_zero, List.set_cons_succ]
          refine wpAnyP_one 12 rfl (by kernel_rfl) (fun K hK => ?_)
          rw [if_pos (by rfl)]
          go_wp2_with (fail)
          refine hold_with (by (try dsimp only at hSw); exact KK.out _) (fun hSn => ?_)
          clear hSw; have hSw := hSn; clear hSn
          refine wpAnyP_one 13 rfl (by kernel_rfl) (fun K hK => ?_)
          rw [if_pos (by rfl)]
          simp only [List.getElem_toArray, List.getElem_cons_succ, List.getElem_cons_zero, Act.put, List.setIfInBounds_toArray, List.set_cons_zero, List.set_cons_succ]
          (refine wp_app_eq _ _ 27 rfl rfl rfl HAPP.out ?_; go_wp2_with (fail))
          refine hold_with (by (try dsimp only at hSw); exact ⟨g0, g1, g3⟩) (fun hSn => ?_)
          clear hSw; have hSw := hSn; clear hSn
          refine wpAnyP_one 14 rfl (by kernel_rfl) (fun K hK => ?_)
          rw [if_pos (by rfl)]
          go_wp2_with (fail)
          refine ⟨fun hz => (by simp at hz), ?_⟩
          refine wpAnyP_done (by kernel_rfl) ?_ _
          skip
          clear hSw f0 f1 cv
          go_upto_region 5 with (fail)
          go_upto_region 6 with (at_builtin; refine wpList_app_eq rfl _ _ 147 rfl rfl rfl R1.out ?_)
          go_upto_region 7 with (at_builtin; refine wpList_app_eq rfl _ _ 147 rfl rfl rfl P1.out ?_)
          go_wp2_with fail
          rw [← HNX.out, ← HWF.out]
          go_roundg l'.length
          case measure => simp
          case rel => exact HF.out
      · have hz : pumpF x.s now nx air l = ([], nx, air, l) := by
          cases l with
          | nil => rfl
          | cons v l' => exact pumpF_full (fun h => hgo ⟨by simp, h⟩)
        have HF := Lib.hid (RPumpInv.stop HO.out HS.out HC.out HVW.out HVA.out E1.out E2.out hz HC1.out)
        have HD := decide_eq_false hgo
        rw [HD]
        clear HD hz
        go_wp2_with fail
        go_ret
        exact HF.out
end Go.Proofs.Ytkmjpphmciaklaa
