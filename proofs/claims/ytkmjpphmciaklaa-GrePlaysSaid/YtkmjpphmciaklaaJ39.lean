/- GrePlays: a call of both: Take. -/
import Derived.Test.YtkmjpphmciaklaaJ38
import Derived.Test.YtkmjpphmciaklaaJ12
namespace Go.Proofs.Ytkmjpphmciaklaa
open Go.RowKit
set_option linter.unusedVariables false
set_option linter.unusedSimpArgs false
attribute [local go_sem ↓] Go.wp_at_zero Go.wp_at_succ

set_option maxRecDepth 100000 in
set_option maxHeartbeats 2000000 in
theorem step_take32 (w : World) (B qe q k : Nat) (F G : List Nat) (E : End) (kind n ack tk : Int) (ha : Bool) (a : Option Addr) (c : Nat) (d : List Int) (now : Int) (h : Both2 w B qe q F G E E) (hi : EInv k now E) (hsm : Small E) (hk : k ≤ 1000) (hn0 : 0 ≤ now) (hn1 : now ≤ 100000) (hk0 : 0 ≤ kind) (hkd : kind % 6 = 2) (hd : BytS (· < B) w (.slice a d.length c) d) (hdl : d.length ≤ 2000) :
    Calls Try.prog 44 #[.pointer (some ⟨qe, 0, none⟩), .pointer (some ⟨q, 0, none⟩), .agg #[.int .i64 kind, .int .i64 n, .int .i64 ack, .int .i64 tk, .bool ha, .slice a d.length c], .int .i64 now] w (StepP B qe q k now w) := by
  obtain ⟨wx, hwx⟩ : ∃ wx, wx = w.alloc (.cells #[.int .i64 kind, .int .i64 n, .int .i64 ack, .int .i64 tk, .bool ha, .slice a d.length c] 93) := ⟨_, rfl⟩
  have hcx : Chg [] w wx := by rw [hwx]; exact (Chg.refl _ _).alloc _
  have hX : At wx w.heap.size 93 [.int .i64 kind, .int .i64 n, .int .i64 ack, .int .i64 tk, .bool ha, .slice a d.length c] := by rw [hwx]; exact At.new w 93 [_, _, _, _, _, _]
  obtain ⟨gb, hgb⟩ : ∃ gb, gb = w.heap.size := ⟨_, rfl⟩
  rw [← hgb] at hX
  have hB := h.keep hcx
  obtain ⟨p, vw, va, rq, v, hGe, hRE⟩ := hB.r
  obtain ⟨hrl, hrn⟩ := hRE.nx_at
  have hq2 := hRE.str.five.2.2.1
  have hql := hRE.str.lt
  obtain ⟨x0, x1, x2, x3, x4, x5, _⟩ := hX.six
  have HX := Lib.hid hwx
  have HGB := Lib.hid hgb
  have HAX := Lib.hid hX
  have KK : Hid (∀ o, (wx.alloc o).cell? ⟨q, 2, none⟩ = some (.pointer (some ⟨rq, 0, none⟩)) ∧ (wx.alloc o).cell? ⟨rq, 0, none⟩ = some (.int .u32 E.r.nx) ∧ (wx.alloc o).cell? ⟨gb, 1, none⟩ = some (.int .i64 n) ∧ (wx.alloc o).cell? ⟨gb, 2, none⟩ = some (.int .i64 ack) ∧ (wx.alloc o).cell? ⟨gb, 4, none⟩ = some (.bool ha) ∧ (wx.alloc o).cell? ⟨gb, 5, none⟩ = some (.slice a d.length c)) :=
    Lib.hid (fun o => ⟨(((Chg.refl [] wx).alloc o).cell (p := ⟨q, 2, none⟩) hql (by simp)).trans hq2, (((Chg.refl [] wx).alloc o).cell (p := ⟨rq, 0, none⟩) hrl (by simp)).trans hrn, (((Chg.refl [] wx).alloc o).cell (p := ⟨gb, 1, none⟩) hX.lt (by simp)).trans x1, (((Chg.refl [] wx).alloc o).cell (p := ⟨gb, 2, none⟩) hX.lt (by simp)).trans x2, (((Chg.refl [] wx).alloc o).cell (p := ⟨gb, 4, none⟩) hX.lt (by simp)).trans x4, (((Chg.refl [] wx).alloc o).cell (p := ⟨gb, 5, none⟩) hX.lt (by simp)).trans x5⟩)
  have HB := Lib.hid hB
  have HC := Lib.hid (hcx.below h.low (by simp))
  have OK := Lib.hid (hi.ok (by omega) (by omega))
  have HI := Lib.hid hi
  have HS := Lib.hid hsm
  have HD := Lib.hid (hd.kept hcx (by simp))
  clear h hwx hcx hB hX hGe hRE hd hgb hi hsm
  go_enter Try.func44, Try.ntmps44
  go_upto_region 1 with (fail)
  rw [← HX.out, ← HGB.out]
  go_upto_region 6 with (fail)
  refine wp_region_phase 24 (fun w' => w'.cell? ⟨q, 2, none⟩ = some (.pointer (some ⟨rq, 0, none⟩)) ∧ w'.cell? ⟨rq, 0, none⟩ = some (.int .u32 E.r.nx) ∧ w'.cell? ⟨gb, 1, none⟩ = some (.int .i64 n) ∧ w'.cell? ⟨gb, 2, none⟩ = some (.int .i64 ack) ∧ w'.cell? ⟨gb, 4, none⟩ = some (.bool ha) ∧ w'.cell? ⟨gb, 5, none⟩ = some (.slice a d.length c)) (by kernel_rfl) ?_
  refine wpAnyP_with (by exact ⟨hq2, hrn, x1, x2, x4, x5⟩) (fun hSw => ?_)
  refine wpAnyP_take 0 [] (v := ?_) rfl (by kernel_rfl) (fun _ _ _ h => h) (by assumption) (Or.inl ⟨by rfl, ?_⟩) ?_
  rotate_left
  · (intro w hSw; (try dsimp only at hSw); obtain ⟨s0, s1, s2, s3, s4, s5⟩ := hSw; go_simp; try with_reducible rfl)
  simp only [List.getElem_toArray, List.getElem_cons_succ, List.getElem_cons_zero, Act.put, List.setIfInBounds_toArray, List.set_cons_zero, List.set_cons_succ]
  refine wpAnyP_take 1 [] (v := ?_) rfl (by kernel_rfl) (fun _ _ _ h => h) (by assumption) (Or.inl ⟨by rfl, ?_⟩) ?_
  rotate_left
  · (intro w hSw; (try dsimp only at hSw); obtain ⟨s0, s1, s2, s3, s4, s5⟩ := hSw; go_simp; try with_reducible rfl)
  simp only [List.getElem_toArray, List.getElem_cons_succ, List.getElem_cons_zero, Act.put, List.setIfInBounds_toArray, List.set_cons_zero, List.set_cons_succ]
  refine wpAnyP_take 2 [] (v := ?_) rfl (by kernel_rfl) (fun _ _ _ h => h) (by assumption) (Or.inl ⟨by rfl, ?_⟩) ?_
  rotate_left
  · (intro w hSw; (try dsimp only at hSw); obtain ⟨s0, s1, s2, s3, s4, s5⟩ := hSw; go_simp; try with_reducible rfl)
  simp only [List.getElem_toArray, List.getElem_cons_succ, List.getElem_cons_zero, Act.put, List.setIfInBounds_toArray, List.set_cons_zero, List.set_cons_succ]
  refine wpAnyP_take 3 [] (v := ?_) rfl (by kernel_rfl) (fun _ _ _ h => h) (by assumption) (Or.inl ⟨by rfl, ?_⟩) ?_
  rotate_left
  · (intro w hSw; (try dsimp only at hSw); obtain ⟨s0, s1, s2, s3, s4, s5⟩ := hSw; go_simp; try with_reducible rfl)
  simp only [List.getElem_toArray, List.getElem_cons_succ, List.getElem_cons_zero, Act.put, List.setIfInBounds_toArray, List.set_cons_zero, List.set_cons_succ]
  refine wpAnyP_take 4 [] (v := ?_) rfl (by kernel_rfl) (fun _ _ _ h => h) (by assumption) (Or.inl ⟨by rfl, ?_⟩) ?_
  rotate_left
  · (intro w hSw; (try dsimp only at hSw); obtain ⟨s0, s1, s2, s3, s4, s5⟩ := hSw; go_simp; try with_reducible rfl)
  simp only [List.getElem_toArray, List.getElem_cons_succ, List.getElem_cons_zero, Act.put, List.setIfInBounds_toArray, List.set_cons_zero, List.set_cons_succ]
  refine wpAnyP_take 5 [] (v := ?_) rfl (by kernel_rfl) (fun _ _ _ h => h) (by assumption) (Or.inl ⟨by rfl, ?_⟩) ?_
  rotate_left
  · (intro w hSw; (try dsimp only at hSw); obtain ⟨s0, s1, s2, s3, s4, s5⟩ := hSw; go_simp; try with_reducible rfl)
  simp only [List.getElem_toArray, List.getElem_cons_succ, List.getElem_cons_zero, Act.put, List.setIfInBounds_toArray, List.set_cons_zero, List.set_cons_succ]
  refine wpAnyP_take 6 [] (v := ?_) rfl (by kernel_rfl) (fun _ _ _ h => h) (by assumption) (Or.inl ⟨by rfl, ?_⟩) ?_
  rotate_left
  · (intro w hSw; (try dsimp only at hSw); obtain ⟨s0, s1, s2, s3, s4, s5⟩ := hSw; go_simp; try with_reducible rfl)
  simp only [List.getElem_toArray, List.getElem_cons_succ, List.getElem_cons_zero, Act.put, List.setIfInBounds_toArray, List.set_cons_zero, List.set_cons_succ]
  refine wpAnyP_take 7 [] (v := ?_) rfl (by kernel_rfl) (fun _ _ _ h => h) (by assumption) (Or.inl ⟨by rfl, ?_⟩) ?_
  rotate_left
  · (intro w hSw; (try dsimp only at hSw); obtain ⟨s0, s1, s2, s3, s4, s5⟩ := hSw; go_simp; try with_reducible rfl)
  simp only [List.getElem_toArray, List.getElem_cons_succ, List.getElem_cons_zero, Act.put, List.setIfInBounds_toArray, List.set_cons_zero, List.set_cons_succ]
  refine wpAnyP_take 8 [] (v := ?_) rfl (by kernel_rfl) (fun _ _ _ h => h) (by assumption) (Or.inl ⟨by rfl, ?_⟩) ?_
  rotate_left
  · (intro w hSw; (try dsimp only at hSw); obtain ⟨s0, s1, s2, s3, s4, s5⟩ := hSw; go_simp; try with_reducible rfl)
  simp only [List.getElem_toArray, List.getElem_cons_succ, List.getElem_cons_zero, Act.put, List.setIfInBounds_toArray, List.set_cons_zero, List.set_cons_succ]
  refine wpAnyP_take 9 [] (v := ?_) rfl (by kernel_rfl) (fun _ _ _ h => h) (by assumption) (Or.inl ⟨by rfl, ?_⟩) ?_
  rotate_left
  · (intro w hSw; (try dsimp only at hSw); obtain ⟨s0, s1, s2, s3, s4, s5⟩ := hSw; go_simp; try with_reducible rfl)
  simp only [List.getElem_toArray, List.getElem_cons_succ, List.getElem_cons_zero, Act.put, List.setIfInBounds_toArray, List.set_cons_zero, List.set_cons_succ]
  refine wpAnyP_take 10 [] (v := ?_) rfl (by kernel_rfl) (fun _ _ _ h => h) (by assumption) (Or.inl ⟨by rfl, ?_⟩) ?_
  rotate_left
  · (intro w hSw; (try dsimp only at hSw); obtain ⟨s0, s1, s2, s3, s4, s5⟩ := hSw; go_simp; try with_reducible rfl)
  simp only [List.getElem_toArray, List.getElem_cons_succ, List.getElem_cons_zero, Act.put, List.setIfInBounds_toArray, List.set_cons_zero, List.set_cons_succ]
  refine wpAnyP_take 11 [] (v := ?_) rfl (by kernel_rfl) (fun _ _ _ h => h) (by assumption) (Or.inl ⟨by rfl, ?_⟩) ?_
  rotate_left
  · (intro w hSw; (try dsimp only at hSw); obtain ⟨s0, s1, s2, s3, s4, s5⟩ := hSw; go_simp; try with_reducible rfl)
  simp only [List.getElem_toArray, List.getElem_cons_succ, List.getElem_cons_zero, Act.put, List.setIfInBounds_toArray, List.set_cons_zero, List.set_cons_succ]
  refine wpAnyP_take 12 [] (v := ?_) rfl (by kernel_rfl) (fun _ _ _ h => h) (by assumption) (Or.inl ⟨by rfl, ?_⟩) ?_
  rotate_left
  · (intro w hSw; (try dsimp only at hSw); obtain ⟨s0, s1, s2, s3, s4, s5⟩ := hSw; go_simp; try with_reducible rfl)
  simp only [List.getElem_toArray, List.getElem_cons_succ, List.getElem_cons_zero, Act.put, List.setIfInBounds_toArray, List.set_cons_zero, List.set_cons_succ]
  refine wpAnyP_take 13 [] (v := ?_) rfl (by kernel_rfl) (fun _ _ _ h => h) (by assumption) (Or.inl ⟨by rfl, ?_⟩) ?_
  rotate_left
  · (intro w hSw; (try dsimp only at hSw); obtain ⟨s0, s1, s2, s3, s4, s5⟩ := hSw; go_simp; try with_reducible rfl)
  simp only [List.getElem_toArray, List.getElem_cons_succ, List.getElem_cons_zero, Act.put, List.setIfInBounds_toArray, List.set_cons_zero, List.set_cons_succ]
  refine wpAnyP_take 14 [] (v := ?_) rfl (by kernel_rfl) (fun _ _ _ h => h) (by assumption) (Or.inl ⟨by rfl, ?_⟩) ?_
  rotate_left
  · (intro w hSw; (try dsimp only at hSw); obtain ⟨s0, s1, s2, s3, s4, s5⟩ := hSw; go_simp; try with_reducible rfl)
  simp only [List.getElem_toArray, List.getElem_cons_succ, List.getElem_cons_zero, Act.put, List.setIfInBounds_toArray, List.set_cons_zero, List.set_cons_succ]
  refine wpAnyP_take 15 [] (v := ?_) rfl (by kernel_rfl) (fun _ _ _ h => h) (by assumption) (Or.inl ⟨by rfl, ?_⟩) ?_
  rotate_left
  · (intro w hSw; (try dsimp only at hSw); obtain ⟨s0, s1, s2, s3, s4, s5⟩ := hSw; go_simp; try with_reducible rfl)
  simp only [List.getElem_toArray, List.getElem_cons_succ, List.getElem_cons_zero, Act.put, List.setIfInBounds_toArray, List.set_cons_zero, List.set_cons_succ]
  refine wpAnyP_take 16 [] (v := ?_) rfl (by kernel_rfl) (fun _ _ _ h => h) (by assumption) (Or.inl ⟨by rfl, ?_⟩) ?_
  rotate_left
  · (intro w hSw; (try dsimp only at hSw); obtain ⟨s0, s1, s2, s3, s4, s5⟩ := hSw; go_simp; try with_reducible rfl)
  simp only [List.getElem_toArray, List.getElem_cons_succ, List.getElem_cons_zero, Act.put, List.setIfInBounds_toArray, List.set_cons_zero, List.set_cons_succ]
  refine wpAnyP_take 17 [] (v := ?_) rfl (by kernel_rfl) (fun _ _ _ h => h) (by assumption) (Or.inl ⟨by rfl, ?_⟩) ?_
  rotate_left
  · (intro w hSw; (try dsimp only at hSw); obtain ⟨s0, s1, s2, s3, s4, s5⟩ := hSw; go_simp; try with_reducible rfl)
  simp only [List.getElem_toArray, List.getElem_cons_succ, List.getElem_cons_zero, Act.put, List.setIfInBounds_toArray, List.set_cons_zero, List.set_cons_succ]
  refine wpAnyP_take 18 [] (v := ?_) rfl (by kernel_rfl) (fun _ _ _ h => h) (by assumption) (Or.inl ⟨by rfl, ?_⟩) ?_
  rotate_left
  · (intro w hSw; (try dsimp only at hSw); obtain ⟨s0, s1, s2, s3, s4, s5⟩ := hSw; go_simp; try with_reducible rfl)
  simp only [List.getElem_toArray, List.getElem_cons_succ, List.getElem_cons_zero, Act.put, List.setIfInBounds_toArray, List.set_cons_zero, List.set_cons_succ]
  refine wpAnyP_take 19 [] (v := ?_) rfl (by kernel_rfl) (fun _ _ _ h => h) (by assumption) (Or.inl ⟨by rfl, ?_⟩) ?_
  rotate_left
  · (intro w hSw; (try dsimp only at hSw); obtain ⟨s0, s1, s2, s3, s4, s5⟩ := hSw; go_simp; try with_reducible rfl)
  simp only [List.getElem_toArray, List.getElem_cons_succ, List.getElem_cons_zero, Act.put, List.setIfInBounds_toArray, List.set_cons_zero, List.set_cons_succ]
  refine wpAnyP_take 20 [] (v := ?_) rfl (by kernel_rfl) (fun _ _ _ h => h) (by assumption) (Or.inl ⟨by rfl, ?_⟩) ?_
  rotate_left
  · (intro w hSw; (try dsimp only at hSw); obtain ⟨s0, s1, s2, s3, s4, s5⟩ := hSw; go_simp; try with_reducible rfl)
  simp only [List.getElem_toArray, List.getElem_cons_succ, List.getElem_cons_zero, Act.put, List.setIfInBounds_toArray, List.set_cons_zero, List.set_cons_succ]
  refine wpAnyP_take 21 [] (v := ?_) rfl (by kernel_rfl) (fun _ _ _ h => h) (by assumption) (Or.inl ⟨by rfl, ?_⟩) ?_
  rotate_left
  · (intro w hSw; (try dsimp only at hSw); obtain ⟨s0, s1, s2, s3, s4, s5⟩ := hSw; go_simp; try with_reducible rfl)
  simp only [List.getElem_toArray, List.getElem_cons_succ, List.getElem_cons_zero, Act.put, List.setIfInBounds_toArray, List.set_cons_zero, List.set_cons_succ]
  refine wpAnyP_take 22 [] (v := ?_) rfl (by kernel_rfl) (fun _ _ _ h => h) (by assumption) (Or.inl ⟨by rfl, ?_⟩) ?_
  rotate_left
  · (intro w hSw; (try dsimp only at hSw); obtain ⟨s0, s1, s2, s3, s4, s5⟩ := hSw; go_simp; try with_reducible rfl)
  simp only [List.getElem_toArray, List.getElem_cons_succ, List.getElem_cons_zero, Act.put, List.setIfInBounds_toArray, List.set_cons_zero, List.set_cons_succ]
  refine wpAnyP_one 23 rfl (by kernel_rfl) (fun K hK => ?_)
  rw [if_pos (by rfl)]
  go_wp2_with (fail)
  refine hold_with (by (try dsimp only at hSw); exact KK.out _) (fun hSn => ?_)
  clear hSw; have hSw := hSn; clear hSn
  refine wpAnyP_one 24 rfl (by kernel_rfl) (fun K hK => ?_)
  rw [if_pos (by rfl)]
  go_wp2_with (fail)
  refine ⟨fun hz => (by simp at hz), ?_⟩
  refine wpAnyP_done (by kernel_rfl) ?_ _
  skip
  clear hSw
  obtain ⟨seq, hseq⟩ : ∃ z, z = (E.r.nx + n) % 4294967296 := ⟨_, rfl⟩
  obtain ⟨ak, hak⟩ : ∃ z, z = ack % 4294967296 := ⟨_, rfl⟩
  obtain ⟨hs, hhs⟩ : ∃ z, z = decide (0 < d.length) := ⟨_, rfl⟩
  rw [← hseq, ← hak, ← hhs]
  obtain ⟨wt, hwt⟩ : ∃ wt, wt = (wx.alloc (.cells #[.int .u16 0, .bool hs, .int .u32 seq, .bool ha, .int .u32 ak, .slice a d.length c] 138)).drew := ⟨_, rfl⟩
  obtain ⟨gt, hgt⟩ : ∃ gt, gt = wx.heap.size := ⟨_, rfl⟩
  rw [← hwt, ← hgt]
  have hct : Chg [] wx wt := by rw [hwt]; exact ((Chg.refl _ _).alloc _).drew
  have hAt : At wt gt 138 [.int .u16 0, .bool hs, .int .u32 seq, .bool ha, .int .u32 ak, .slice a d.length c] := by rw [hwt, hgt]; exact (At.new wx 138 [_, _, _, _, _, _]).drew
  have hBt := HB.out.keep hct
  have hdt := HD.out.kept hct (by simp)
  have q0 : 0 ≤ seq ∧ seq < 4294967296 := by omega
  have q1 : 0 ≤ ak ∧ ak < 4294967296 := by omega
  have hnF : gt ∉ F := fun hm => by have := (HB.out.e.kind gt hm).2.1; omega
  have CT := Lib.hid (take_end wt B qe F E now 0 hs seq ha ak a c d hBt.e OK.out.1 hBt.low (hdt.mono (fun g _ hg hm => by have := (hBt.e.kind g hm).1; omega)) (by omega) hn0 (by omega) q0.1 q0.2)
  obtain ⟨t0, t1, t2, t3, t4, t5, _⟩ := hAt.six
  have HAT := Lib.hid (And.intro hAt hnF)
  have HBT := Lib.hid hBt
  have HDT := Lib.hid hdt
  have HCT := Lib.hid (HC.out.trans (hct.below HB.out.low (by simp)))
  clear hseq hak hhs hwt hgt hct hAt hBt hdt hnF hq2 hrn x0 x1 x2 x3 x4 x5
  go_wp2_with fail
  refine CT.out.mono ?_
  rintro e w2 ⟨o1, o2, rfl, hR1, hT1, _, _, hM⟩
  obtain ⟨F2, hB2, hc2, hb2⟩ := HBT.out.end_to hM
  have hA2 := HAT.out.1.chg hc2 HAT.out.2
  obtain ⟨u0, u1, u2, u3, u4, u5, _⟩ := hA2.six
  obtain ⟨p', vw', va', rq', v', hGe, hRE⟩ := hB2.r
  have CR := re_take w2 B q p' vw' va' rq' v' E now 0 hs seq ha ak a c d hRE OK.out.1 hB2.low (HDT.out.kept hc2 (fun b hb => (HBT.out.e.kind b hb).1)) hn0 (by omega) q0.1 q0.2 q1.1 q1.2
  rw [← hGe] at CR
  have HCR := Lib.hid CR
  have HB2 := Lib.hid hB2
  have HR := Lib.hid (And.intro hR1 (And.intro hT1 hb2))
  clear hR1 hT1 hM hB2 hc2 hb2 hGe hRE CR CT hA2 t0 t1 t2 t3 t4 t5
  go_wp2_with fail
  refine HCR.out.mono ?_
  rintro e w3 ⟨o3, o4, rfl, hR3, hT3, hM3⟩
  obtain ⟨G3, hB3, hc3, hb3⟩ := HB2.out.re_to hM3
  have hGl : ∀ b ∈ G, b < wt.heap.size := fun b hb => (HBT.out.r.kinds b hb).1
  obtain ⟨z1, z2⟩ := rows_on hGl (fun b hb => (HB2.out.r.kinds b hb).2.1) hc3 HR.out.1 HR.out.2.1
  have z3 := hR3.drows (fun _ _ hb => hb.mono (fun _ _ _ => trivial))
  have z4 := hT3.tuns (fun _ _ hb => hb.mono (fun _ _ _ => trivial))
  have hs1 := HS.out.took now hs seq ha ak d hdl
  have hs2 := hs1.1.pumped now
  have hIv := HI.out.take hs ha ak d q0.1 q0.2 hn0 (by omega)
  have htl : ((E.took now hs seq ha ak d).1.pumped now).2.length ≤ 100000 := by
    have hsk : (E.took now hs seq ha ak d).1.s.Ok := by
      unfold End.took
      cases ha with
      | false => cases hs <;> exact OK.out.1.s
      | true => cases hs <;> exact Snd.ack_ok OK.out.1.s _ _
    have := Snd.pump_len hsk now
    unfold End.pumped
    simp only [List.length_map]
    omega
  have hdl2 : ((E.took now hs seq ha ak d).2.map (·.2)).length ≤ 100000 := by
    rw [List.length_map]
    unfold End.took
    split
    · have h1 := Rcv.put_out (r := E.r) (now := now) (seq := seq) (d := d)
      have h2 := OK.out.1.rl
      show (E.r.put now seq d).2.length ≤ 100000
      omega
    · simp
  have C81 := Lib.hid (same81 w3 o1 o3 o2 o4 _ _ z1 z3 z2 z4 hdl2 htl (fun d hd => by
    obtain ⟨p, hp, rfl⟩ := List.mem_map.1 hd
    have := hs1.2 p hp
    omega) (fun t ht => by have := hs2.2 t ht; omega))
  have HF := Lib.hid (And.intro hIv (And.intro hs2.1 (And.intro hB3 ((HCT.out.trans HR.out.2.2).trans hb3))))
  clear hR3 hT3 hM3 hB3 hc3 hb3 hGl z1 z2 z3 z4 hs1 hs2 htl hdl2 hIv HCR u0 u1 u2 u3 u4 u5
  go_wp2_with fail
  refine C81.out.mono ?_
  rintro e w4 ⟨rfl, hc4⟩
  have HG := Lib.hid (And.intro (HF.out.2.2.1.keep hc4) (HF.out.2.2.2.trans (hc4.below HF.out.2.2.1.low (by simp))))
  clear hc4 C81
  go_wp2_with fail
  go_ret
  exact ⟨rfl, _, _, _, HF.out.1, HF.out.2.1, HG.out⟩
end Go.Proofs.Ytkmjpphmciaklaa
