/- GrePlays: a call of both: Take, the packet stays. A slice of structs of three ints and a slice of bytes that came in, at one place. GrePlays: a call of both, of any kind; how both begin; the calls that the law takes. -/
import Derived.Test.YtkmjpphmciaklaaJ39
import Derived.Test.YtkmjpphmciaklaaJ12
import Derived.Test.YtkmjpphmciaklaaJ36
import Derived.Test.YtkmjpphmciaklaaJ5
import Derived.ChangeSlices
import Derived.Test.YtkmjpphmciaklaaJ38
namespace Go.Proofs.Ytkmjpphmciaklaa
open Go.RowKit
set_option linter.unusedVariables false
set_option linter.unusedSimpArgs false
attribute [local go_sem ↓] Go.wp_at_zero Go.wp_at_succ

set_option maxRecDepth 100000 in
set_option maxHeartbeats 2000000 in
theorem step_take33 (w : World) (B qe q k : Nat) (F G : List Nat) (E : End) (kind n ack tk : Int) (ha : Bool) (a : Option Addr) (c : Nat) (d : List Int) (now : Int) (h : Both2 w B qe q F G E E) (hi : EInv k now E) (hsm : Small E) (hk : k ≤ 1000) (hn0 : 0 ≤ now) (hn1 : now ≤ 100000) (hk0 : 0 ≤ kind) (hkd : kind % 6 = 3) (hd : BytS (· < B) w (.slice a d.length c) d) (hdl : d.length ≤ 2000) :
    Calls Try.prog 44 #[.pointer (some ⟨qe, 0, none⟩), .pointer (some ⟨q, 0, none⟩), .agg #[.int .i64 kind, .int .i64 n, .int .i64 ack, .int .i64 tk, .bool ha, .slice a d.length c], .int .i64 now] w (StepP B qe q k now w) := by
  obtain ⟨wx, hwx⟩ : ∃ wx, wx = w.alloc (.cells #[.int .i64 kind, .int .i64 n, .int .i64 ack, .int .i64 tk, .bool ha, .slice a d.length c] 93) := ⟨_, rfl⟩
  have hcx : Chg [] w wx := by rw [hwx]; exact (Chg.refl _ _).alloc _
  have hX : At wx w.heap.size 93 [.int .i64 kind, .int .i64 n, .int .i64 ack, .int .i64 tk, .bool ha, .slice a d.length c] := by rw [hwx]; exact At.new w 93 [_, _, _, _, _, _]
  obtain ⟨gb, hgb⟩ : ∃ gb, gb = w.heap.size := ⟨_, rfl⟩
  rw [← hgb] at hX
  have hB := h.keep hcx
  obtain ⟨p, vw, va, rq, v, hGe, hRE⟩ := hB.r
  obtain ⟨hrl, hrn⟩ := hRE.nx_at
  have hq2 := hRE.str.five.2.2.1
  have hql := hRE.str.lt
  obtain ⟨x0, x1, x2, x3, x4, x5, _⟩ := hX.six
  have HX := Lib.hid hwx
  have HGB := Lib.hid hgb
  have HAX := Lib.hid hX
  have KK : Hid (∀ o, (wx.alloc o).cell? ⟨q, 2, none⟩ = some (.pointer (some ⟨rq, 0, none⟩)) ∧ (wx.alloc o).cell? ⟨rq, 0, none⟩ = some (.int .u32 E.r.nx) ∧ (wx.alloc o).cell? ⟨gb, 1, none⟩ = some (.int .i64 n) ∧ (wx.alloc o).cell? ⟨gb, 2, none⟩ = some (.int .i64 ack) ∧ (wx.alloc o).cell? ⟨gb, 4, none⟩ = some (.bool ha) ∧ (wx.alloc o).cell? ⟨gb, 5, none⟩ = some (.slice a d.length c)) :=
    Lib.hid (fun o => ⟨(((Chg.refl [] wx).alloc o).cell (p := ⟨q, 2, none⟩) hql (by simp)).trans hq2, (((Chg.refl [] wx).alloc o).cell (p := ⟨rq, 0, none⟩) hrl (by simp)).trans hrn, (((Chg.refl [] wx).alloc o).cell (p := ⟨gb, 1, none⟩) hX.lt (by simp)).trans x1, (((Chg.refl [] wx).alloc o).cell (p := ⟨gb, 2, none⟩) hX.lt (by simp)).trans x2, (((Chg.refl [] wx).alloc o).cell (p := ⟨gb, 4, none⟩) hX.lt (by simp)).trans x4, (((Chg.refl [] wx).alloc o).cell (p := ⟨gb, 5, none⟩) hX.lt (by simp)).trans x5⟩)
  have HB := Lib.hid hB
  have HC := Lib.hid (hcx.below h.low (by simp))
  have OK := Lib.hid (hi.ok (by omega) (by omega))
  have HI := Lib.hid hi
  have HS := Lib.hid hsm
  have HD := Lib.hid (hd.kept hcx (by simp))
  clear h hwx hcx hB hX hGe hRE hd hgb hi hsm
  go_enter Try.func44, Try.ntmps44
  go_upto_region 1 with (fail)
  rw [← HX.out, ← HGB.out]
  go_upto_region 6 with (fail)
  refine wp_region_phase 24 (fun w' => w'.cell? ⟨q, 2, none⟩ = some (.pointer (some ⟨rq, 0, none⟩)) ∧ w'.cell? ⟨rq, 0, none⟩ = some (.int .u32 E.r.nx) ∧ w'.cell? ⟨gb, 1, none⟩ = some (.int .i64 n) ∧ w'.cell? ⟨gb, 2, none⟩ = some (.int .i64 ack) ∧ w'.cell? ⟨gb, 4, none⟩ = some (.bool ha) ∧ w'.cell? ⟨gb, 5, none⟩ = some (.slice a d.length c)) (by kernel_rfl) ?_
  refine wpAnyP_with (by exact ⟨hq2, hrn, x1, x2, x4, x5⟩) (fun hSw => ?_)
  refine wpAnyP_take 0 [] (v := ?_) rfl (by kernel_rfl) (fun _ _ _ h => h) (by assumption) (Or.inl ⟨by rfl, ?_⟩) ?_
  rotate_left
  · (intro w hSw; (try dsimp only at hSw); obtain ⟨s0, s1, s2, s3, s4, s5⟩ := hSw; go_simp; try with_reducible rfl)
  simp only [List.getElem_toArray, List.getElem_cons_succ, List.getElem_cons_zero, Act.put, List.setIfInBounds_toArray, List.set_cons_zero, List.set_cons_succ]
  refine wpAnyP_take 1 [] (v := ?_) rfl (by kernel_rfl) (fun _ _ _ h => h) (by assumption) (Or.inl ⟨by rfl, ?_⟩) ?_
  rotate_left
  · (intro w hSw; (try dsimp only at hSw); obtain ⟨s0, s1, s2, s3, s4, s5⟩ := hSw; go_simp; try with_reducible rfl)
  simp only [List.getElem_toArray, List.getElem_cons_succ, List.getElem_cons_zero, Act.put, List.setIfInBounds_toArray, List.set_cons_zero, List.set_cons_succ]
  refine wpAnyP_take 2 [] (v := ?_) rfl (by kernel_rfl) (fun _ _ _ h => h) (by assumption) (Or.inl ⟨by rfl, ?_⟩) ?_
  rotate_left
  · (intro w hSw; (try dsimp only at hSw); obtain ⟨s0, s1, s2, s3, s4, s5⟩ := hSw; go_simp; try with_reducible rfl)
  simp only [List.getElem_toArray, List.getElem_cons_succ, List.getElem_cons_zero, Act.put, List.setIfInBounds_toArray, List.set_cons_zero, List.set_cons_succ]
  refine wpAnyP_take 3 [] (v := ?_) rfl (by kernel_rfl) (fun _ _ _ h => h) (by assumption) (Or.inl ⟨by rfl, ?_⟩) ?_
  rotate_left
  · (intro w hSw; (try dsimp only at hSw); obtain ⟨s0, s1, s2, s3, s4, s5⟩ := hSw; go_simp; try with_reducible rfl)
  simp only [List.getElem_toArray, List.getElem_cons_succ, List.getElem_cons_zero, Act.put, List.setIfInBounds_toArray, List.set_cons_zero, List.set_cons_succ]
  refine wpAnyP_take 4 [] (v := ?_) rfl (by kernel_rfl) (fun _ _ _ h => h) (by assumption) (Or.inl ⟨by rfl, ?_⟩) ?_
  rotate_left
  · (intro w hSw; (try dsimp only at hSw); obtain ⟨s0, s1, s2, s3, s4, s5⟩ := hSw; go_simp; try with_reducible rfl)
  simp only [List.getElem_toArray, List.getElem_cons_succ, List.getElem_cons_zero, Act.put, List.setIfInBounds_toArray, List.set_cons_zero, List.set_cons_succ]
  refine wpAnyP_take 5 [] (v := ?_) rfl (by kernel_rfl) (fun _ _ _ h => h) (by assumption) (Or.inl ⟨by rfl, ?_⟩) ?_
  rotate_left
  · (intro w hSw; (try dsimp only at hSw); obtain ⟨s0, s1, s2, s3, s4, s5⟩ := hSw; go_simp; try with_reducible rfl)
  simp only [List.getElem_toArray, List.getElem_cons_succ, List.getElem_cons_zero, Act.put, List.setIfInBounds_toArray, List.set_cons_zero, List.set_cons_succ]
  refine wpAnyP_take 6 [] (v := ?_) rfl (by kernel_rfl) (fun _ _ _ h => h) (by assumption) (Or.inl ⟨by rfl, ?_⟩) ?_
  rotate_left
  · (intro w hSw; (try dsimp only at hSw); obtain ⟨s0, s1, s2, s3, s4, s5⟩ := hSw; go_simp; try with_reducible rfl)
  simp only [List.getElem_toArray, List.getElem_cons_succ, List.getElem_cons_zero, Act.put, List.setIfInBounds_toArray, List.set_cons_zero, List.set_cons_succ]
  refine wpAnyP_take 7 [] (v := ?_) rfl (by kernel_rfl) (fun _ _ _ h => h) (by assumption) (Or.inl ⟨by rfl, ?_⟩) ?_
  rotate_left
  · (intro w hSw; (try dsimp only at hSw); obtain ⟨s0, s1, s2, s3, s4, s5⟩ := hSw; go_simp; try with_reducible rfl)
  simp only [List.getElem_toArray, List.getElem_cons_succ, List.getElem_cons_zero, Act.put, List.setIfInBounds_toArray, List.set_cons_zero, List.set_cons_succ]
  refine wpAnyP_take 8 [] (v := ?_) rfl (by kernel_rfl) (fun _ _ _ h => h) (by assumption) (Or.inl ⟨by rfl, ?_⟩) ?_
  rotate_left
  · (intro w hSw; (try dsimp only at hSw); obtain ⟨s0, s1, s2, s3, s4, s5⟩ := hSw; go_simp; try with_reducible rfl)
  simp only [List.getElem_toArray, List.getElem_cons_succ, List.getElem_cons_zero, Act.put, List.setIfInBounds_toArray, List.set_cons_zero, List.set_cons_succ]
  refine wpAnyP_take 9 [] (v := ?_) rfl (by kernel_rfl) (fun _ _ _ h => h) (by assumption) (Or.inl ⟨by rfl, ?_⟩) ?_
  rotate_left
  · (intro w hSw; (try dsimp only at hSw); obtain ⟨s0, s1, s2, s3, s4, s5⟩ := hSw; go_simp; try with_reducible rfl)
  simp only [List.getElem_toArray, List.getElem_cons_succ, List.getElem_cons_zero, Act.put, List.setIfInBounds_toArray, List.set_cons_zero, List.set_cons_succ]
  refine wpAnyP_take 10 [] (v := ?_) rfl (by kernel_rfl) (fun _ _ _ h => h) (by assumption) (Or.inl ⟨by rfl, ?_⟩) ?_
  rotate_left
  · (intro w hSw; (try dsimp only at hSw); obtain ⟨s0, s1, s2, s3, s4, s5⟩ := hSw; go_simp; try with_reducible rfl)
  simp only [List.getElem_toArray, List.getElem_cons_succ, List.getElem_cons_zero, Act.put, List.setIfInBounds_toArray, List.set_cons_zero, List.set_cons_succ]
  refine wpAnyP_take 11 [] (v := ?_) rfl (by kernel_rfl) (fun _ _ _ h => h) (by assumption) (Or.inl ⟨by rfl, ?_⟩) ?_
  rotate_left
  · (intro w hSw; (try dsimp only at hSw); obtain ⟨s0, s1, s2, s3, s4, s5⟩ := hSw; go_simp; try with_reducible rfl)
  simp only [List.getElem_toArray, List.getElem_cons_succ, List.getElem_cons_zero, Act.put, List.setIfInBounds_toArray, List.set_cons_zero, List.set_cons_succ]
  refine wpAnyP_take 12 [] (v := ?_) rfl (by kernel_rfl) (fun _ _ _ h => h) (by assumption) (Or.inl ⟨by rfl, ?_⟩) ?_
  rotate_left
  · (intro w hSw; (try dsimp only at hSw); obtain ⟨s0, s1, s2, s3, s4, s5⟩ := hSw; go_simp; try with_reducible rfl)
  simp only [List.getElem_toArray, List.getElem_cons_succ, List.getElem_cons_zero, Act.put, List.setIfInBounds_toArray, List.set_cons_zero, List.set_cons_succ]
  refine wpAnyP_take 13 [] (v := ?_) rfl (by kernel_rfl) (fun _ _ _ h => h) (by assumption) (Or.inl ⟨by rfl, ?_⟩) ?_
  rotate_left
  · (intro w hSw; (try dsimp only at hSw); obtain ⟨s0, s1, s2, s3, s4, s5⟩ := hSw; go_simp; try with_reducible rfl)
  simp only [List.getElem_toArray, List.getElem_cons_succ, List.getElem_cons_zero, Act.put, List.setIfInBounds_toArray, List.set_cons_zero, List.set_cons_succ]
  refine wpAnyP_take 14 [] (v := ?_) rfl (by kernel_rfl) (fun _ _ _ h => h) (by assumption) (Or.inl ⟨by rfl, ?_⟩) ?_
  rotate_left
  · (intro w hSw; (try dsimp only at hSw); obtain ⟨s0, s1, s2, s3, s4, s5⟩ := hSw; go_simp; try with_reducible rfl)
  simp only [List.getElem_toArray, List.getElem_cons_succ, List.getElem_cons_zero, Act.put, List.setIfInBounds_toArray, List.set_cons_zero, List.set_cons_succ]
  refine wpAnyP_take 15 [] (v := ?_) rfl (by kernel_rfl) (fun _ _ _ h => h) (by assumption) (Or.inl ⟨by rfl, ?_⟩) ?_
  rotate_left
  · (intro w hSw; (try dsimp only at hSw); obtain ⟨s0, s1, s2, s3, s4, s5⟩ := hSw; go_simp; try with_reducible rfl)
  simp only [List.getElem_toArray, List.getElem_cons_succ, List.getElem_cons_zero, Act.put, List.setIfInBounds_toArray, List.set_cons_zero, List.set_cons_succ]
  refine wpAnyP_take 16 [] (v := ?_) rfl (by kernel_rfl) (fun _ _ _ h => h) (by assumption) (Or.inl ⟨by rfl, ?_⟩) ?_
  rotate_left
  · (intro w hSw; (try dsimp only at hSw); obtain ⟨s0, s1, s2, s3, s4, s5⟩ := hSw; go_simp; try with_reducible rfl)
  simp only [List.getElem_toArray, List.getElem_cons_succ, List.getElem_cons_zero, Act.put, List.setIfInBounds_toArray, List.set_cons_zero, List.set_cons_succ]
  refine wpAnyP_take 17 [] (v := ?_) rfl (by kernel_rfl) (fun _ _ _ h => h) (by assumption) (Or.inl ⟨by rfl, ?_⟩) ?_
  rotate_left
  · (intro w hSw; (try dsimp only at hSw); obtain ⟨s0, s1, s2, s3, s4, s5⟩ := hSw; go_simp; try with_reducible rfl)
  simp only [List.getElem_toArray, List.getElem_cons_succ, List.getElem_cons_zero, Act.put, List.setIfInBounds_toArray, List.set_cons_zero, List.set_cons_succ]
  refine wpAnyP_take 18 [] (v := ?_) rfl (by kernel_rfl) (fun _ _ _ h => h) (by assumption) (Or.inl ⟨by rfl, ?_⟩) ?_
  rotate_left
  · (intro w hSw; (try dsimp only at hSw); obtain ⟨s0, s1, s2, s3, s4, s5⟩ := hSw; go_simp; try with_reducible rfl)
  simp only [List.getElem_toArray, List.getElem_cons_succ, List.getElem_cons_zero, Act.put, List.setIfInBounds_toArray, List.set_cons_zero, List.set_cons_succ]
  refine wpAnyP_take 19 [] (v := ?_) rfl (by kernel_rfl) (fun _ _ _ h => h) (by assumption) (Or.inl ⟨by rfl, ?_⟩) ?_
  rotate_left
  · (intro w hSw; (try dsimp only at hSw); obtain ⟨s0, s1, s2, s3, s4, s5⟩ := hSw; go_simp; try with_reducible rfl)
  simp only [List.getElem_toArray, List.getElem_cons_succ, List.getElem_cons_zero, Act.put, List.setIfInBounds_toArray, List.set_cons_zero, List.set_cons_succ]
  refine wpAnyP_take 20 [] (v := ?_) rfl (by kernel_rfl) (fun _ _ _ h => h) (by assumption) (Or.inl ⟨by rfl, ?_⟩) ?_
  rotate_left
  · (intro w hSw; (try dsimp only at hSw); obtain ⟨s0, s1, s2, s3, s4, s5⟩ := hSw; go_simp; try with_reducible rfl)
  simp only [List.getElem_toArray, List.getElem_cons_succ, List.getElem_cons_zero, Act.put, List.setIfInBounds_toArray, List.set_cons_zero, List.set_cons_succ]
  refine wpAnyP_take 21 [] (v := ?_) rfl (by kernel_rfl) (fun _ _ _ h => h) (by assumption) (Or.inl ⟨by rfl, ?_⟩) ?_
  rotate_left
  · (intro w hSw; (try dsimp only at hSw); obtain ⟨s0, s1, s2, s3, s4, s5⟩ := hSw; go_simp; try with_reducible rfl)
  simp only [List.getElem_toArray, List.getElem_cons_succ, List.getElem_cons_zero, Act.put, List.setIfInBounds_toArray, List.set_cons_zero, List.set_cons_succ]
  refine wpAnyP_take 22 [] (v := ?_) rfl (by kernel_rfl) (fun _ _ _ h => h) (by assumption) (Or.inl ⟨by rfl, ?_⟩) ?_
  rotate_left
  · (intro w hSw; (try dsimp only at hSw); obtain ⟨s0, s1, s2, s3, s4, s5⟩ := hSw; go_simp; try with_reducible rfl)
  simp only [List.getElem_toArray, List.getElem_cons_succ, List.getElem_cons_zero, Act.put, List.setIfInBounds_toArray, List.set_cons_zero, List.set_cons_succ]
  refine wpAnyP_one 23 rfl (by kernel_rfl) (fun K hK => ?_)
  rw [if_pos (by rfl)]
  go_wp2_with (fail)
  refine hold_with (by (try dsimp only at hSw); exact KK.out _) (fun hSn => ?_)
  clear hSw; have hSw := hSn; clear hSn
  refine wpAnyP_one 24 rfl (by kernel_rfl) (fun K hK => ?_)
  rw [if_pos (by rfl)]
  go_wp2_with (fail)
  refine ⟨fun hz => (by simp at hz), ?_⟩
  refine wpAnyP_done (by kernel_rfl) ?_ _
  skip
  clear hSw
  obtain ⟨seq, hseq⟩ : ∃ z, z = (E.r.nx + n) % 4294967296 := ⟨_, rfl⟩
  obtain ⟨ak, hak⟩ : ∃ z, z = ack % 4294967296 := ⟨_, rfl⟩
  obtain ⟨hs, hhs⟩ : ∃ z, z = decide (0 < d.length) := ⟨_, rfl⟩
  rw [← hseq, ← hak, ← hhs]
  obtain ⟨wt, hwt⟩ : ∃ wt, wt = (wx.alloc (.cells #[.int .u16 0, .bool hs, .int .u32 seq, .bool ha, .int .u32 ak, .slice a d.length c] 138)).drew := ⟨_, rfl⟩
  obtain ⟨gt, hgt⟩ : ∃ gt, gt = wx.heap.size := ⟨_, rfl⟩
  rw [← hwt, ← hgt]
  have hct : Chg [] wx wt := by rw [hwt]; exact ((Chg.refl _ _).alloc _).drew
  have hAt : At wt gt 138 [.int .u16 0, .bool hs, .int .u32 seq, .bool ha, .int .u32 ak, .slice a d.length c] := by rw [hwt, hgt]; exact (At.new wx 138 [_, _, _, _, _, _]).drew
  have hBt := HB.out.keep hct
  have hdt := HD.out.kept hct (by simp)
  have q0 : 0 ≤ seq ∧ seq < 4294967296 := by omega
  have q1 : 0 ≤ ak ∧ ak < 4294967296 := by omega
  have hnF : gt ∉ F := fun hm => by have := (HB.out.e.kind gt hm).2.1; omega
  have CT := Lib.hid (take_end wt B qe F E now 0 hs seq ha ak a c d hBt.e OK.out.1 hBt.low (hdt.mono (fun g _ hg hm => by have := (hBt.e.kind g hm).1; omega)) (by omega) hn0 (by omega) q0.1 q0.2)
  obtain ⟨t0, t1, t2, t3, t4, t5, _⟩ := hAt.six
  have HAT := Lib.hid (And.intro hAt hnF)
  have HBT := Lib.hid hBt
  have HDT := Lib.hid hdt
  have HCT := Lib.hid (HC.out.trans (hct.below HB.out.low (by simp)))
  clear hseq hak hhs hwt hgt hct hAt hBt hdt hnF hq2 hrn x0 x1 x2 x3 x4 x5
  go_wp2_with fail
  refine CT.out.mono ?_
  rintro e w2 ⟨o1, o2, rfl, hR1, hT1, _, _, hM⟩
  obtain ⟨F2, hB2, hc2, hb2⟩ := HBT.out.end_to hM
  have hA2 := HAT.out.1.chg hc2 HAT.out.2
  obtain ⟨u0, u1, u2, u3, u4, u5, _⟩ := hA2.six
  obtain ⟨p', vw', va', rq', v', hGe, hRE⟩ := hB2.r
  have CR := re_take w2 B q p' vw' va' rq' v' E now 0 hs seq ha ak a c d hRE OK.out.1 hB2.low (HDT.out.kept hc2 (fun b hb => (HBT.out.e.kind b hb).1)) hn0 (by omega) q0.1 q0.2 q1.1 q1.2
  rw [← hGe] at CR
  have HCR := Lib.hid CR
  have HB2 := Lib.hid hB2
  have HR := Lib.hid (And.intro hR1 (And.intro hT1 hb2))
  clear hR1 hT1 hM hB2 hc2 hb2 hGe hRE CR CT hA2 t0 t1 t2 t3 t4 t5
  go_wp2_with fail
  refine HCR.out.mono ?_
  rintro e w3 ⟨o3, o4, rfl, hR3, hT3, hM3⟩
  obtain ⟨G3, hB3, hc3, hb3⟩ := HB2.out.re_to hM3
  have hGl : ∀ b ∈ G, b < wt.heap.size := fun b hb => (HBT.out.r.kinds b hb).1
  obtain ⟨z1, z2⟩ := rows_on hGl (fun b hb => (HB2.out.r.kinds b hb).2.1) hc3 HR.out.1 HR.out.2.1
  have z3 := hR3.drows (fun _ _ hb => hb.mono (fun _ _ _ => trivial))
  have z4 := hT3.tuns (fun _ _ hb => hb.mono (fun _ _ _ => trivial))
  have hs1 := HS.out.took now hs seq ha ak d hdl
  have hs2 := hs1.1.pumped now
  have hIv := HI.out.take hs ha ak d q0.1 q0.2 hn0 (by omega)
  have htl : ((E.took now hs seq ha ak d).1.pumped now).2.length ≤ 100000 := by
    have hsk : (E.took now hs seq ha ak d).1.s.Ok := by
      unfold End.took
      cases ha with
      | false => cases hs <;> exact OK.out.1.s
      | true => cases hs <;> exact Snd.ack_ok OK.out.1.s _ _
    have := Snd.pump_len hsk now
    unfold End.pumped
    simp only [List.length_map]
    omega
  have hdl2 : ((E.took now hs seq ha ak d).2.map (·.2)).length ≤ 100000 := by
    rw [List.length_map]
    unfold End.took
    split
    · have h1 := Rcv.put_out (r := E.r) (now := now) (seq := seq) (d := d)
      have h2 := OK.out.1.rl
      show (E.r.put now seq d).2.length ≤ 100000
      omega
    · simp
  have C81 := Lib.hid (same81 w3 o1 o3 o2 o4 _ _ z1 z3 z2 z4 hdl2 htl (fun d hd => by
    obtain ⟨p, hp, rfl⟩ := List.mem_map.1 hd
    have := hs1.2 p hp
    omega) (fun t ht => by have := hs2.2 t ht; omega))
  have HF := Lib.hid (And.intro hIv (And.intro hs2.1 (And.intro hB3 ((HCT.out.trans HR.out.2.2).trans hb3))))
  clear hR3 hT3 hM3 hB3 hc3 hb3 hGl z1 z2 z3 z4 hs1 hs2 htl hdl2 hIv HCR u0 u1 u2 u3 u4 u5
  go_wp2_with fail
  refine C81.out.mono ?_
  rintro e w4 ⟨rfl, hc4⟩
  have HG := Lib.hid (And.intro (HF.out.2.2.1.keep hc4) (HF.out.2.2.2.trans (hc4.below HF.out.2.2.1.low (by simp))))
  clear hc4 C81
  go_wp2_with fail
  go_ret
  exact ⟨rfl, _, _, _, HF.out.1, HF.out.2.1, HG.out⟩
end Go.Proofs.Ytkmjpphmciaklaa
namespace Go.Proofs.Ytkmjpphmciaklaa
open Go.RowKit Go.ChangeShapes Go.WideShapes Go.Deep
set_option linter.unusedVariables false
set_option linter.unusedSimpArgs false

section
variable {H : Type} {enc : TypeId × Value → H} {P : Program} {w : World} {base : Nat} {spare : Nat → Bool} {held : Bool}
/-- Bytes that came in. -/
theorem bytes_in {t e : TypeId} {fuel : Nat} {v : Value} {x : DataW H × List MemPlace} (ht : P.underlying t = some (.slice e)) (he : P.underlying e = some (.int .u8)) (hc : P.cellsOf e = 1)
    (h : DataW.trod enc P w base spare held fuel t [v] = some x) : ∃ d : List Int, BytS (· < w.heap.size) w v d := by
  rcases open_ints ht he hc h with ⟨hcs, _⟩ | ⟨a, l, c, zs, hcs, _, hl, hm, hz, _, hcell, _⟩
  · simp at hcs
    subst hcs
    exact ⟨[], none, 0, rfl, fun hn => absurd rfl hn⟩
  · simp at hcs
    subst hcs
    have hlz : l ≤ zs.length := by rw [hz]; split <;> omega
    refine ⟨zs.take l, some a, c, by rw [List.length_take, Nat.min_eq_left hlz], fun hne => ?_⟩
    have hl0 : 0 < l := by
      rcases Nat.eq_zero_or_pos l with h0 | h0
      · subst h0; simp at hne
      · exact h0
    obtain ⟨ab, aoff, aspot⟩ := a
    have hc0 := hcell 0 (by omega)
    have hspot : aspot = none := by simpa [Addr.add] using World.cell?_spot hc0
    subst hspot
    have hbl : ab < w.heap.size := by
      have := World.block_lt_of_cell? w _ hc0
      rw [Go.WideShapes.add_plain] at this; exact this
    refine ⟨ab, aoff, rfl, hbl, hbl, fun j u hu => ?_⟩
    have hj : j < (zs.take l).length := (List.getElem?_eq_some_iff.1 hu).1
    rw [List.length_take] at hj
    have hcj := hcell j (by omega)
    rw [Go.WideShapes.add_plain] at hcj
    rw [hcj]
    rw [List.getElem?_take_of_lt (by omega)] at hu
    rw [List.getD_eq_getElem?_getD, hu]
    rfl
end

/-- A slice of structs of three ints and a slice of bytes. -/
def OpsB (w : World) (a : Option Addr) (len : Nat) : Prop :=
  ∀ i, i < len → ∃ b off k n t v d, a = some ⟨b, off, none⟩ ∧ b < w.heap.size ∧ w.cell? ⟨b, off + i * 4, none⟩ = some (.int .i64 k) ∧ w.cell? ⟨b, off + i * 4 + 1, none⟩ = some (.int .i64 n) ∧ w.cell? ⟨b, off + i * 4 + 2, none⟩ = some (.int .i64 t) ∧
    w.cell? ⟨b, off + i * 4 + 3, none⟩ = some v ∧ BytS (· < w.heap.size) w v d ∧ (-9223372036854775808 ≤ k ∧ k ≤ 9223372036854775807) ∧ (-9223372036854775808 ≤ n ∧ n ≤ 9223372036854775807) ∧ -9223372036854775808 ≤ t ∧ t ≤ 9223372036854775807

theorem opsB_of {H : Type} {enc : TypeId × Value → H} {P : Program} {w : World} {base : Nat} {spare : Nat → Bool} {held : Bool} {t e eb : TypeId} {f0 f1 f2 f3 : Field} {fuel : Nat} {a : Option Addr} {len cap : Nat} {x : DataW H × List MemPlace}
    (ht : P.underlying t = some (.slice e)) (he : P.underlying e = some (.struct #[f0, f1, f2, f3])) (hone : oneCellFields P #[f0, f1, f2, f3] = true) (hC : P.cellsOf e = 4)
    (h0 : P.underlying f0.type = some (.int .i64)) (h1 : P.underlying f1.type = some (.int .i64)) (h2 : P.underlying f2.type = some (.int .i64)) (h3 : P.underlying f3.type = some (.slice eb)) (h4 : P.underlying eb = some (.int .u8)) (h5 : P.cellsOf eb = 1)
    (h : DataW.trod enc P w base spare held fuel t [.slice a len cap] = some x) : OpsB w a len := by
  intro i hi
  obtain ⟨_, _, b, off, rfl, hb, n, hf⟩ := struct_at ht he hone hC (by simp) h i hi
  obtain ⟨v0, y0, c0, t0⟩ := hf 0 f0 rfl
  obtain ⟨v1, y1, c1, t1⟩ := hf 1 f1 rfl
  obtain ⟨v2, y2, c2, t2⟩ := hf 2 f2 rfl
  obtain ⟨v3, y3, c3, t3⟩ := hf 3 f3 rfl
  obtain ⟨n0, e0, _, w0⟩ := DataW.trod_int h0 t0
  obtain ⟨n1, e1, _, w1⟩ := DataW.trod_int h1 t1
  obtain ⟨n2, e2, _, w2⟩ := DataW.trod_int h2 t2
  simp at e0 e1 e2; subst e0 e1 e2
  obtain ⟨d, hd⟩ := bytes_in h3 h4 h5 t3
  exact ⟨b, off, n0, n1, n2, v3, d, rfl, hb, c0, c1, c2, c3, hd, bounds_i64 w0, bounds_i64 w1, bounds_i64 w2⟩
end Go.Proofs.Ytkmjpphmciaklaa
namespace Go.Proofs.Ytkmjpphmciaklaa
open Go.RowKit Go.ChangeShapes Go.WideShapes Go.Deep
set_option linter.unusedVariables false
set_option linter.unusedSimpArgs false

theorem step32_any (w : World) (B qe q k : Nat) (F G : List Nat) (E : End) (kind n ack tk : Int) (ha : Bool) (a : Option Addr) (c : Nat) (d : List Int) (now : Int) (h : Both2 w B qe q F G E E) (hi : EInv k now E) (hsm : Small E) (hk : k ≤ 1000) (hn0 : 0 ≤ now) (hn1 : now ≤ 100000) (hk0 : 0 ≤ kind) (hd : BytS (· < B) w (.slice a d.length c) d) (hdl : d.length ≤ 2000) :
    Calls Try.prog 44 #[.pointer (some ⟨qe, 0, none⟩), .pointer (some ⟨q, 0, none⟩), .agg #[.int .i64 kind, .int .i64 n, .int .i64 ack, .int .i64 tk, .bool ha, .slice a d.length c], .int .i64 now] w (StepP B qe q k now w) := by
  by_cases h2 : kind % 6 = 2
  · exact step_take32 w B qe q k F G E kind n ack tk ha a c d now h hi hsm hk hn0 hn1 hk0 h2 hd hdl
  by_cases h3 : kind % 6 = 3
  · exact step_take33 w B qe q k F G E kind n ack tk ha a c d now h hi hsm hk hn0 hn1 hk0 h3 hd hdl
  by_cases h4 : kind % 6 = 4
  · exact step_tick w B qe q k F G E kind n ack tk ha a d.length c now h hi hsm hk hn0 hn1 hk0 h4
  by_cases h5 : kind % 6 = 5
  · exact step_clear32 w B qe q k F G E kind n ack tk ha a d.length c now h hi hsm hk0 h5
  exact step_send32 w B qe q k F G E kind n ack tk ha a c d now h hi hsm hk hn0 hn1 hk0 (by omega) hd hdl

theorem newEnd_small (call most ticks : Int) : Small (newEnd call most ticks) := ⟨fun v hv => (by cases hv), fun p hp => (by cases hp)⟩
/-- Both begin alike. -/
theorem start2 {w1 w2 : World} {B qe q p rq : Nat} {F : List Nat} {call most ticks : Int} (he : EndOf w1 B qe F (newEnd call most ticks)) (h : REAt w2 w1.heap.size q p (.slice none 0 0) (.slice none 0 0) rq (.slice none 0 0) (newEnd call most ticks)) (hB : B ≤ w1.heap.size) (c : Chg [] w1 w2) :
    Both2 w2 B qe q F [q, rq, p] (newEnd call most ticks) (newEnd call most ticks) := by
  obtain ⟨l, hs, hl⟩ := h.snd
  obtain ⟨r, hr, hrl⟩ := h.rcv
  have h1 := h.hq
  have h2 := h.hp
  have h3 := h.hr
  have hl0 : l = [] := by cases l with
    | nil => rfl
    | cons x l => exact hl.elim
  have hr0 : r.l = [] := List.eq_nil_of_length_eq_zero (by rw [hrl.2.1.len]; rfl)
  have hR : REAt w2 B q p (.slice none 0 0) (.slice none 0 0) rq (.slice none 0 0) (newEnd call most ticks) :=
    ⟨h.str, ⟨l, hs, by rw [hl0]; exact trivial⟩, ⟨r, ⟨hr.1, hr.2.1.mono hB, hr.2.2⟩, hrl.1, by rw [hr0]; exact trivial, hrl.2.2⟩, by omega, by omega, by omega⟩
  refine ⟨he.keep c, ⟨p, _, _, rq, _, rfl, hR⟩, fun b hb hm => ?_, fun b hb => ?_, Nat.le_trans hB c.size⟩
  · have hk := (he.kind b hb).2.1
    simp at hm
    rcases hm with rfl | rfl | rfl <;> omega
  · simp at hb
    rcases hb with rfl | rfl | rfl <;> omega

/-- A slice of structs of four ints, a bool and a slice of bytes. -/
def OpsG (w : World) (a : Option Addr) (len : Nat) : Prop :=
  ∀ i, i < len → ∃ b off k n m t x v d, a = some ⟨b, off, none⟩ ∧ b < w.heap.size ∧ w.cell? ⟨b, off + i * 6, none⟩ = some (.int .i64 k) ∧ w.cell? ⟨b, off + i * 6 + 1, none⟩ = some (.int .i64 n) ∧ w.cell? ⟨b, off + i * 6 + 2, none⟩ = some (.int .i64 m) ∧ w.cell? ⟨b, off + i * 6 + 3, none⟩ = some (.int .i64 t) ∧
    w.cell? ⟨b, off + i * 6 + 4, none⟩ = some (.bool x) ∧ w.cell? ⟨b, off + i * 6 + 5, none⟩ = some v ∧ BytS (· < w.heap.size) w v d
theorem opsG_of {H : Type} {enc : TypeId × Value → H} {P : Program} {w : World} {base : Nat} {spare : Nat → Bool} {held : Bool} {t e eb : TypeId} {f0 f1 f2 f3 f4 f5 : Field} {fuel : Nat} {a : Option Addr} {len cap : Nat} {x : DataW H × List MemPlace}
    (ht : P.underlying t = some (.slice e)) (he : P.underlying e = some (.struct #[f0, f1, f2, f3, f4, f5])) (hone : oneCellFields P #[f0, f1, f2, f3, f4, f5] = true) (hC : P.cellsOf e = 6)
    (h0 : P.underlying f0.type = some (.int .i64)) (h1 : P.underlying f1.type = some (.int .i64)) (h2 : P.underlying f2.type = some (.int .i64)) (h3 : P.underlying f3.type = some (.int .i64)) (h4 : P.underlying f4.type = some .bool) (h5 : P.underlying f5.type = some (.slice eb)) (h6 : P.underlying eb = some (.int .u8)) (h7 : P.cellsOf eb = 1)
    (h : DataW.trod enc P w base spare held fuel t [.slice a len cap] = some x) : OpsG w a len := by
  intro i hi
  obtain ⟨_, _, b, off, rfl, hb, n, hf⟩ := struct_at ht he hone hC (by simp) h i hi
  obtain ⟨v0, y0, c0, t0⟩ := hf 0 f0 rfl
  obtain ⟨v1, y1, c1, t1⟩ := hf 1 f1 rfl
  obtain ⟨v2, y2, c2, t2⟩ := hf 2 f2 rfl
  obtain ⟨v3, y3, c3, t3⟩ := hf 3 f3 rfl
  obtain ⟨v4, y4, c4, t4⟩ := hf 4 f4 rfl
  obtain ⟨v5, y5, c5, t5⟩ := hf 5 f5 rfl
  obtain ⟨n0, e0, _, w0⟩ := DataW.trod_int h0 t0
  obtain ⟨n1, e1, _, w1⟩ := DataW.trod_int h1 t1
  obtain ⟨n2, e2, _, w2⟩ := DataW.trod_int h2 t2
  obtain ⟨n3, e3, _, w3⟩ := DataW.trod_int h3 t3
  obtain ⟨n4, e4, _⟩ := DataW.trod_bool h4 t4
  simp at e0 e1 e2 e3 e4; subst e0 e1 e2 e3 e4
  obtain ⟨d, hd⟩ := bytes_in h5 h6 h7 t5
  exact ⟨b, off, n0, n1, n2, n3, n4, v5, d, rfl, hb, c0, c1, c2, c3, c4, c5, hd⟩
end Go.Proofs.Ytkmjpphmciaklaa
