/- The sender: Late. -/
import Derived.Test.YtkmjpphmciaklaaJ12
namespace Go.Proofs.Ytkmjpphmciaklaa
open Go.RowKit
set_option linter.unusedVariables false
set_option linter.unusedSimpArgs false
attribute [local go_sem ↓] Go.wp_at_zero Go.wp_at_succ

def Snd.late {α : Type} (x : Snd α) (now : Int) : Snd α × Nat :=
  match x.air with
  | [] => (x, 0)
  | f :: l => if now - f.2 < rwait x.m x.d then (x, 0) else ({ x with air := [], lost := x.lost + (l.length + 1 : Nat), s := (x.s + 1) / 2, a := 0, m := lm x.m }, l.length + 1)
def LatePost (B p pr g : Nat) (va0 : Value) (fr : Nat) (x : Snd Value) (now : Int) (w : World) (e : Ending) (w' : World) : Prop :=
  ∃ va, e = .returned (.int .i64 (x.late now).2) ∧ SndAt w' B p pr g va fr (x.late now).1 ∧ Chg [p] w w' ∧ (va = va0 ∨ va = .slice none 0 0)

set_option maxRecDepth 100000 in
set_option maxHeartbeats 1000000 in
theorem late_any (w : World) (B p pr g : Nat) (va0 : Value) (fr : Nat) (x : Snd Value) (now : Int) (h : SndAt w B p pr g va0 fr x) (ok : x.Ok) (hn0 : -1000000000 ≤ now) (hn1 : now ≤ 1000000000) :
    Calls Try.prog 33 #[.pointer (some ⟨p, 0, none⟩), .int .i64 now] w (LatePost B p pr g va0 fr x now w) := by
  have H := Lib.hid h
  have OK := Lib.hid ok
  obtain ⟨va, vc, rfl⟩ := h.air.slice
  rw [fl_len] at h
  have hA := h.str
  rw [fl_len] at H
  rw [fl_len]
  obtain ⟨c0, c1, c2, c3, c4, c5, c6, c7, c8⟩ := hA.nine
  have HA := Lib.hid hA
  have hne := h.pr_ne
  have HNE := Lib.hid hne
  have hm0 := ok.m0
  have hm1 := ok.m1
  have hd0 := ok.d0
  have hd1 := ok.d1
  have hl0 := ok.l0
  have hl1 := ok.l1
  have ha16 := ok.air
  have hats := ok.ats
  have HATS := Lib.hid hats
  have HAIR := Lib.hid h.air
  clear h ok hA hne hats
  cases hair : x.air with
  | nil =>
    have hlt : x.late now = (x, 0) := by unfold Snd.late; rw [hair]
    have hl : x.air.length = 0 := by rw [hair]; rfl
    have hfin : ∀ n, LatePost B p pr g (.slice va x.air.length vc) fr x now w (.returned (.int .i64 0)) (w.drewN n) := fun n => by
      refine ⟨.slice va x.air.length vc, ?_, ?_, (Chg.refl _ _).drewN n, .inl rfl⟩
      · rw [hlt]; rfl
      · rw [hlt]; exact H.out.keep ((Chg.refl _ _).drewN n)
    rw [hl] at c1 hfin
    have HF := Lib.hid hfin
    clear hlt hl hfin hair H HA HNE HATS HAIR OK
    go_enter Try.func33, Try.ntmps33
    go_wp2_with fail
    go_quiet (fail)
    go_wp2_with fail
    go_ret
    exact HF.out _
  | cons f l =>
    have hl : x.air.length = l.length + 1 := by rw [hair]; rfl
    obtain ⟨f1, f2⟩ := f
    have hf := HATS.out (f1, f2) (by rw [hair]; simp)
    simp only at hf
    obtain ⟨hf0, hf1⟩ := hf
    obtain ⟨ga, hga, hcell⟩ := HAIR.out.cells rfl (by rw [fl_len]; omega)
    subst hga
    have hgl := (HAIR.out.lt ga rfl).2
    have ct : w.cell? ⟨ga, 1, none⟩ = some (.int .i64 f2) := hcell 1 _ (by rw [hair]; rfl)
    have hneq : ga ≠ p := fun e => HNE.out.2.2.2.1 (by rw [← e]; rfl)
    have hl16 : l.length ≤ 15 := by omega
    rw [hl] at c1 H HA HNE HAIR
    rw [List.length_cons]
    have HL := Lib.hid hl
    have HX := Lib.hid hair
    have hz0 : (((l.length : Nat) : Int) + 1 == 0) = false := beq_eq_false_iff_ne.2 (by omega)
    have hw1 : IntKind.i64.wrap (now - f2) = now - f2 := IntWalk.i64_in _ (by omega)
    have hz1 : (0 : Int) < ((l.length + 1 : Nat) : Int) := by omega
    clear hair hl hcell HATS
    go_enter Try.func33, Try.ntmps33
    go_wp2_with fail
    refine wp_region_phase 22 (fun w' => w'.cell? ⟨p, 1, none⟩ = some (.slice (some ⟨ga, 0, none⟩) (l.length + 1) vc) ∧ w'.cell? ⟨p, 6, none⟩ = some (.int .i64 x.m) ∧ w'.cell? ⟨p, 7, none⟩ = some (.int .i64 x.d) ∧ w'.cell? ⟨ga, 1, none⟩ = some (.int .i64 f2)) (by kernel_rfl) ?_
    refine wpAnyP_with (by exact ⟨c1, c6, c7, ct⟩) (fun hSw => ?_)
    refine wpAnyP_take 0 [6, 5, 4, 3, 2, 1] (v := ?_) rfl (by kernel_rfl) (fun _ _ _ h => h) (by assumption) (Or.inl ⟨by rfl, ?_⟩) ?_
    rotate_left
    · (intro w hSw; (try dsimp only at hSw); obtain ⟨y1, y6, y7, yt⟩ := hSw; go_simp; try with_reducible rfl)
    simp only [List.getElem_toArray, List.getElem_cons_succ, List.getElem_cons_zero, Act.put, List.setIfInBounds_toArray, List.set_cons_zero, List.set_cons_succ]
    refine wpAnyP_take 1 [6, 5, 4, 3, 2] (v := ?_) rfl (by kernel_rfl) (fun _ _ _ h => h) (by assumption) (Or.inl ⟨by rfl, ?_⟩) ?_
    rotate_left
    · (intro w hSw; (try dsimp only at hSw); obtain ⟨y1, y6, y7, yt⟩ := hSw; go_simp; try with_reducible rfl)
    simp only [List.getElem_toArray, List.getElem_cons_succ, List.getElem_cons_zero, Act.put, List.setIfInBounds_toArray, List.set_cons_zero, List.set_cons_succ]
    refine wpAnyP_take 2 [6, 5, 4, 3] (v := ?_) rfl (by kernel_rfl) (fun _ _ _ h => h) (by assumption) (Or.inl ⟨by rfl, ?_⟩) ?_
    rotate_left
    · (intro w hSw; (try dsimp only at hSw); obtain ⟨y1, y6, y7, yt⟩ := hSw; go_simp; try with_reducible rfl)
    simp only [List.getElem_toArray, List.getElem_cons_succ, List.getElem_cons_zero, Act.put, List.setIfInBounds_toArray, List.set_cons_zero, List.set_cons_succ]
    refine wpAnyP_take 3 [6, 5, 4] (v := ?_) rfl (by kernel_rfl) (fun _ _ _ h => h) (by assumption) (Or.inl ⟨by rfl, ?_⟩) ?_
    rotate_left
    · (intro w hSw; (try dsimp only at hSw); obtain ⟨y1, y6, y7, yt⟩ := hSw; go_simp; try with_reducible rfl)
    simp only [List.getElem_toArray, List.getElem_cons_succ, List.getElem_cons_zero, Act.put, List.setIfInBounds_toArray, List.set_cons_zero, List.set_cons_succ]
    refine wpAnyP_take 4 [6, 5] (v := ?_) rfl (by kernel_rfl) (fun _ _ _ h => h) (by assumption) (Or.inl ⟨by rfl, ?_⟩) ?_
    rotate_left
    · (intro w hSw; (try dsimp only at hSw); obtain ⟨y1, y6, y7, yt⟩ := hSw; go_simp; try with_reducible rfl)
    simp only [List.getElem_toArray, List.getElem_cons_succ, List.getElem_cons_zero, Act.put, List.setIfInBounds_toArray, List.set_cons_zero, List.set_cons_succ]
    refine wpAnyP_take 5 [6] (v := ?_) rfl (by kernel_rfl) (fun _ _ _ h => h) (by assumption) (Or.inl ⟨by rfl, ?_⟩) ?_
    rotate_left
    · (intro w hSw; (try dsimp only at hSw); obtain ⟨y1, y6, y7, yt⟩ := hSw; go_simp; try with_reducible rfl)
    simp only [List.getElem_toArray, List.getElem_cons_succ, List.getElem_cons_zero, Act.put, List.setIfInBounds_toArray, List.set_cons_zero, List.set_cons_succ]
    refine wpAnyP_take 6 [] (v := ?_) rfl (by kernel_rfl) (fun _ _ _ h => h) (by assumption) (Or.inl ⟨by rfl, ?_⟩) ?_
    rotate_left
    · (intro w hSw; (try dsimp only at hSw); obtain ⟨y1, y6, y7, yt⟩ := hSw; go_simp; try with_reducible rfl)
    simp only [List.getElem_toArray, List.getElem_cons_succ, List.getElem_cons_zero, Act.put, List.setIfInBounds_toArray, List.set_cons_zero, List.set_cons_succ]
    refine wpAnyP_take 7 [21, 15] (v := ?_) rfl (by kernel_rfl) (fun _ _ _ h => h) (by assumption) (Or.inl ⟨by rfl, ?_⟩) ?_
    rotate_left
    · (intro w hSw; (try dsimp only at hSw); obtain ⟨y1, y6, y7, yt⟩ := hSw; go_simp; try with_reducible rfl)
    simp only [List.getElem_toArray, List.getElem_cons_succ, List.getElem_cons_zero, Act.put, List.setIfInBounds_toArray, List.set_cons_zero, List.set_cons_succ]
    refine wpAnyP_take 8 [21, 15, 14, 13, 12, 11, 10, 9] (v := ?_) rfl (by kernel_rfl) (fun _ _ _ h => h) (by assumption) (Or.inl ⟨by rfl, ?_⟩) ?_
    rotate_left
    · (intro w hSw; (try dsimp only at hSw); obtain ⟨y1, y6, y7, yt⟩ := hSw; go_simp; try with_reducible rfl)
    simp only [List.getElem_toArray, List.getElem_cons_succ, List.getElem_cons_zero, Act.put, List.setIfInBounds_toArray, List.set_cons_zero, List.set_cons_succ]
    refine wpAnyP_take 9 [21, 15, 14, 13, 12, 11, 10] (v := ?_) rfl (by kernel_rfl) (fun _ _ _ h => h) (by assumption) (Or.inl ⟨by rfl, ?_⟩) ?_
    rotate_left
    · (intro w hSw; (try dsimp only at hSw); obtain ⟨y1, y6, y7, yt⟩ := hSw; go_simp; try with_reducible rfl)
    simp only [List.getElem_toArray, List.getElem_cons_succ, List.getElem_cons_zero, Act.put, List.setIfInBounds_toArray, List.set_cons_zero, List.set_cons_succ]
    refine wpAnyP_take 10 [21, 15, 14, 13, 12, 11] (v := ?_) rfl (by kernel_rfl) (fun _ _ _ h => h) (by assumption) (Or.inl ⟨by rfl, ?_⟩) ?_
    rotate_left
    · (intro w hSw; (try dsimp only at hSw); obtain ⟨y1, y6, y7, yt⟩ := hSw; go_simp; try with_reducible rfl)
    simp only [List.getElem_toArray, List.getElem_cons_succ, List.getElem_cons_zero, Act.put, List.setIfInBounds_toArray, List.set_cons_zero, List.set_cons_succ]
    refine wpAnyP_take 11 [21, 15, 14, 13, 12] (v := ?_) rfl (by kernel_rfl) (fun _ _ _ h => h) (by assumption) (Or.inl ⟨by rfl, ?_⟩) ?_
    rotate_left
    · (intro w hSw; (try dsimp only at hSw); obtain ⟨y1, y6, y7, yt⟩ := hSw; go_simp; try with_reducible rfl)
    simp only [List.getElem_toArray, List.getElem_cons_succ, List.getElem_cons_zero, Act.put, List.setIfInBounds_toArray, List.set_cons_zero, List.set_cons_succ]
    refine wpAnyP_take 12 [21, 15, 14, 13] (v := ?_) rfl (by kernel_rfl) (fun _ _ _ h => h) (by assumption) (Or.inl ⟨by rfl, ?_⟩) ?_
    rotate_left
    · (intro w hSw; (try dsimp only at hSw); obtain ⟨y1, y6, y7, yt⟩ := hSw; go_simp; try with_reducible rfl)
    simp only [List.getElem_toArray, List.getElem_cons_succ, List.getElem_cons_zero, Act.put, List.setIfInBounds_toArray, List.set_cons_zero, List.set_cons_succ]
    refine wpAnyP_take 13 [21, 15, 14] (v := ?_) rfl (by kernel_rfl) (fun _ _ _ h => h) (by assumption) (Or.inl ⟨by rfl, ?_⟩) ?_
    rotate_left
    · (intro w hSw; (try dsimp only at hSw); obtain ⟨y1, y6, y7, yt⟩ := hSw; go_simp; try with_reducible rfl)
    simp only [List.getElem_toArray, List.getElem_cons_succ, List.getElem_cons_zero, Act.put, List.setIfInBounds_toArray, List.set_cons_zero, List.set_cons_succ]
    refine wpAnyP_take 14 [21, 15] (v := ?_) rfl (by kernel_rfl) (fun _ _ _ h => h) (by assumption) (Or.inl ⟨by rfl, ?_⟩) ?_
    rotate_left
    · (intro w hSw; (try dsimp only at hSw); obtain ⟨y1, y6, y7, yt⟩ := hSw; go_simp; try with_reducible rfl)
    simp only [List.getElem_toArray, List.getElem_cons_succ, List.getElem_cons_zero, Act.put, List.setIfInBounds_toArray, List.set_cons_zero, List.set_cons_succ]
    refine wpAnyP_take 15 [21] (v := ?_) rfl (by kernel_rfl) (fun _ _ _ h => h) (by assumption) (Or.inl ⟨by rfl, ?_⟩) ?_
    rotate_left
    · (intro w hSw; (try dsimp only at hSw); obtain ⟨y1, y6, y7, yt⟩ := hSw; go_simp; try with_reducible rfl)
    simp only [List.getElem_toArray, List.getElem_cons_succ, List.getElem_cons_zero, Act.put, List.setIfInBounds_toArray, List.set_cons_zero, List.set_cons_succ]
    refine wpAnyP_take 16 [21, 20, 19, 18, 17] (v := ?_) rfl (by kernel_rfl) (fun _ _ _ h => h) (by assumption) (Or.inl ⟨by rfl, ?_⟩) ?_
    rotate_left
    · (intro w hSw; (try dsimp only at hSw); obtain ⟨y1, y6, y7, yt⟩ := hSw; go_simp; try with_reducible rfl)
    simp only [List.getElem_toArray, List.getElem_cons_succ, List.getElem_cons_zero, Act.put, List.setIfInBounds_toArray, List.set_cons_zero, List.set_cons_succ]
    refine wpAnyP_take 17 [21, 20, 19, 18] (v := ?_) rfl (by kernel_rfl) (fun _ _ _ h => h) (by assumption) (Or.inl ⟨by rfl, ?_⟩) ?_
    rotate_left
    · (intro w hSw; (try dsimp only at hSw); obtain ⟨y1, y6, y7, yt⟩ := hSw; go_simp; try with_reducible rfl)
    simp only [List.getElem_toArray, List.getElem_cons_succ, List.getElem_cons_zero, Act.put, List.setIfInBounds_toArray, List.set_cons_zero, List.set_cons_succ]
    refine wpAnyP_take 18 [21, 20, 19] (v := ?_) rfl (by kernel_rfl) (fun _ _ _ h => h) (by assumption) (Or.inl ⟨by rfl, ?_⟩) ?_
    rotate_left
    · (intro w hSw; (try dsimp only at hSw); obtain ⟨y1, y6, y7, yt⟩ := hSw; go_simp; try with_reducible rfl)
    simp only [List.getElem_toArray, List.getElem_cons_succ, List.getElem_cons_zero, Act.put, List.setIfInBounds_toArray, List.set_cons_zero, List.set_cons_succ]
    refine wpAnyP_take 19 [21, 20] (v := ?_) rfl (by kernel_rfl) (fun _ _ _ h => h) (by assumption) (Or.inl ⟨by rfl, ?_⟩) ?_
    rotate_left
    · (intro w hSw; (try dsimp only at hSw); obtain ⟨y1, y6, y7, yt⟩ := hSw; go_simp; try with_reducible rfl)
    simp only [List.getElem_toArray, List.getElem_cons_succ, List.getElem_cons_zero, Act.put, List.setIfInBounds_toArray, List.set_cons_zero, List.set_cons_succ]
    refine wpAnyP_one 20 rfl (by kernel_rfl) (fun K hK => ?_)
    rw [if_pos (by rfl)]
    go_wp2_with ((refine (rtt_wait x.m x.d _ hm0 hm1 hd0 hd1).mono ?_; rintro e w1 ⟨rfl, hc1⟩; have z1 := (hc1.cell (p := ⟨p, 1, none⟩) HA.out.lt (by simp)).trans c1; have z6 := (hc1.cell (p := ⟨p, 6, none⟩) HA.out.lt (by simp)).trans c6; have z7 := (hc1.cell (p := ⟨p, 7, none⟩) HA.out.lt (by simp)).trans c7; have zt := (hc1.cell (p := ⟨ga, 1, none⟩) hgl (by simp)).trans ct; have HC1 : Hid (Chg [] w w1) := Lib.hid ((Chg.refl [] w).drew.trans hc1); clear hc1))
    refine hold_with (by (try dsimp only at hSw); exact ⟨z1, z6, z7, zt⟩) (fun hSn => ?_)
    clear hSw; have hSw := hSn; clear hSn
    refine wpAnyP_take 21 [] (v := ?_) rfl (by kernel_rfl) (fun _ _ _ h => h) (by assumption) (Or.inl ⟨by rfl, ?_⟩) ?_
    rotate_left
    · (intro w hSw; (try dsimp only at hSw); obtain ⟨y1, y6, y7, yt⟩ := hSw; go_simp; try with_reducible rfl)
    simp only [List.getElem_toArray, List.getElem_cons_succ, List.getElem_cons_zero, Act.put, List.setIfInBounds_toArray, List.set_cons_zero, List.set_cons_succ]
    refine wpAnyP_one 22 rfl (by kernel_rfl) (fun K hK => ?_)
    rw [if_pos (by rfl)]
    go_wp2_with (fail)
    refine ⟨fun hz => (by simp at hz), ?_⟩
    refine wpAnyP_done (by kernel_rfl) ?_ _
    skip
    clear hSw z1 z6 z7 zt hw1 c0 c1 c2 c3 c4 c5 c6 c7 c8 ct
    have hA1 := HA.out.chg HC1.out (by simp)
    obtain ⟨c0, c1, c2, c3, c4, c5, c6, c7, c8⟩ := hA1.nine
    have HA1 := Lib.hid hA1
    have g1 := hA1.frozen 1
    have g8 := hA1.frozen 8
    clear hA1
    by_cases q : now - f2 < rwait x.m x.d
    · have hlt : x.late now = (x, 0) := by unfold Snd.late; rw [HX.out]; simp only; rw [if_pos q]
      have hfin : LatePost B p pr g (.slice (some ⟨ga, 0, none⟩) (l.length + 1) vc) fr x now w (.returned (.int .i64 0)) w1 := by
        refine ⟨_, ?_, ?_, HC1.out.mono (by simp), .inl rfl⟩
        · rw [hlt]; rfl
        · rw [hlt]; exact H.out.keep HC1.out
      have HF := Lib.hid hfin
      clear hlt hfin
      go_wp2_with fail
      go_ret
      exact HF.out
    · have hlt : x.late now = ({ x with air := [], lost := x.lost + (l.length + 1 : Nat), s := (x.s + 1) / 2, a := 0, m := lm x.m }, l.length + 1) := by
        unfold Snd.late; rw [HX.out]; simp only; rw [if_neg q]
      have HLT := Lib.hid hlt
      clear hlt
      have hs1 : x.lost + ((l.length + 1 : Nat) : Int) ≤ 1000000100 := by omega
      have CW := OK.out.win
      have CWL := Lib.hid CW
      clear CW
      go_wp2_with fail
      obtain ⟨L, hL⟩ : ∃ L, L = x.lost + ((l.length : Int) + 1) := ⟨_, rfl⟩
      obtain ⟨w5, hw5⟩ : ∃ w5, w5 = (w1.setCell ⟨p, 1, none⟩ (.slice none 0 0)).setCell ⟨p, 8, none⟩ (.int .i64 L) := ⟨_, rfl⟩
      rw [← hL, ← hw5]
      have hA5 : At w5 p 122 [.int .u32 x.nx, .slice none 0 0, .pointer (some ⟨pr, 0, none⟩), .int .i64 x.s, .int .i64 x.mo, .int .i64 x.a, .int .i64 x.m, .int .i64 x.d, .int .i64 L] := by
        rw [hw5]; exact (HA1.out.set 1 _).set 8 _
      have hC5 : Chg [p] w w5 := by rw [hw5]; exact ((HC1.out.mono (F' := [p]) (by simp)).set (by simp) _).set (by simp) _
      have HA5 := Lib.hid hA5
      have HC5 := Lib.hid hC5
      have HLL := Lib.hid hL
      clear hw5 hA5 hC5 c0 c1 c2 c3 c4 c5 c6 c7 c8 g1 g8 hL
      refine wp_region_phase 14 (fun w' => At w' p 122 [.int .u32 x.nx, .slice none 0 0, .pointer (some ⟨pr, 0, none⟩), .int .i64 x.s, .int .i64 x.mo, .int .i64 x.a, .int .i64 x.m, .int .i64 x.d, .int .i64 L]) (by kernel_rfl) ?_
      refine wpAnyP_with (by exact HA5.out.drew) (fun hSw => ?_)
      refine wpAnyP_take 0 [] (v := ?_) rfl (by kernel_rfl) (fun _ _ _ h => h) (by assumption) (Or.inl ⟨by rfl, ?_⟩) ?_
      rotate_left
      · (intro w hSw; (try dsimp only at hSw); obtain ⟨y0, y1, y2, y3, y4, y5, y6, y7, y8⟩ := hSw.nine; go_simp; try with_reducible rfl)
      simp only [List.getElem_toArray, List.getElem_cons_succ, List.getElem_cons_zero, Act.put, List.setIfInBounds_toArray, List.set_cons_zero, List.set_cons_succ]
      refine wpAnyP_take 2 [] (v := ?_) rfl (by kernel_rfl) (fun _ _ _ h => h) (by assumption) (Or.inl ⟨by rfl, ?_⟩) ?_
      rotate_left
      · (intro w hSw; (try dsimp only at hSw); obtain ⟨y0, y1, y2, y3, y4, y5, y6, y7, y8⟩ := hSw.nine; go_simp; try with_reducible rfl)
      simp only [List.getElem_toArray, List.getElem_cons_succ, List.getElem_cons_zero, Act.put, List.setIfInBounds_toArray, List.set_cons_zero, List.set_cons_succ]
      refine wpAnyP_take 3 [] (v := ?_) rfl (by kernel_rfl) (fun _ _ _ h => h) (by assumption) (Or.inl ⟨by rfl, ?_⟩) ?_
      rotate_left
      · (intro w hSw; (try dsimp only at hSw); obtain ⟨y0, y1, y2, y3, y4, y5, y6, y7, y8⟩ := hSw.nine; go_simp; try with_reducible rfl)
      simp only [List.getElem_toArray, List.getElem_cons_succ, List.getElem_cons_zero, Act.put, List.setIfInBounds_toArray, List.set_cons_zero, List.set_cons_succ]
      refine wpAnyP_take 4 [] (v := ?_) rfl (by kernel_rfl) (fun _ _ _ h => h) (by assumption) (Or.inl ⟨by rfl, ?_⟩) ?_
      rotate_left
      · (intro w hSw; (try dsimp only at hSw); obtain ⟨y0, y1, y2, y3, y4, y5, y6, y7, y8⟩ := hSw.nine; go_simp; try with_reducible rfl)
      simp only [List.getElem_toArray, List.getElem_cons_succ, List.getElem_cons_zero, Act.put, List.setIfInBounds_toArray, List.set_cons_zero, List.set_cons_succ]
      refine wpAnyP_take 5 [] (v := ?_) rfl (by kernel_rfl) (fun _ _ _ h => h) (by assumption) (Or.inl ⟨by rfl, ?_⟩) ?_
      rotate_left
      · (intro w hSw; (try dsimp only at hSw); obtain ⟨y0, y1, y2, y3, y4, y5, y6, y7, y8⟩ := hSw.nine; go_simp; try with_reducible rfl)
      simp only [List.getElem_toArray, List.getElem_cons_succ, List.getElem_cons_zero, Act.put, List.setIfInBounds_toArray, List.set_cons_zero, List.set_cons_succ]
      refine wpAnyP_take 7 [10, 9, 8] (v := ?_) rfl (by kernel_rfl) (fun _ _ _ h => h) (by assumption) (Or.inl ⟨by rfl, ?_⟩) ?_
      rotate_left
      · (intro w hSw; (try dsimp only at hSw); obtain ⟨y0, y1, y2, y3, y4, y5, y6, y7, y8⟩ := hSw.nine; go_simp; try with_reducible rfl)
      simp only [List.getElem_toArray, List.getElem_cons_succ, List.getElem_cons_zero, Act.put, List.setIfInBounds_toArray, List.set_cons_zero, List.set_cons_succ]
      refine wpAnyP_take 8 [10, 9] (v := ?_) rfl (by kernel_rfl) (fun _ _ _ h => h) (by assumption) (Or.inl ⟨by rfl, ?_⟩) ?_
      rotate_left
      · (intro w hSw; (try dsimp only at hSw); obtain ⟨y0, y1, y2, y3, y4, y5, y6, y7, y8⟩ := hSw.nine; go_simp; try with_reducible rfl)
      simp only [List.getElem_toArray, List.getElem_cons_succ, List.getElem_cons_zero, Act.put, List.setIfInBounds_toArray, List.set_cons_zero, List.set_cons_succ]
      refine wpAnyP_take 9 [10] (v := ?_) rfl (by kernel_rfl) (fun _ _ _ h => h) (by assumption) (Or.inl ⟨by rfl, ?_⟩) ?_
      rotate_left
      · (intro w hSw; (try dsimp only at hSw); obtain ⟨y0, y1, y2, y3, y4, y5, y6, y7, y8⟩ := hSw.nine; go_simp; try with_reducible rfl)
      simp only [List.getElem_toArray, List.getElem_cons_succ, List.getElem_cons_zero, Act.put, List.setIfInBounds_toArray, List.set_cons_zero, List.set_cons_succ]
      refine wpAnyP_take 10 [] (v := ?_) rfl (by kernel_rfl) (fun _ _ _ h => h) (by assumption) (Or.inl ⟨by rfl, ?_⟩) ?_
      rotate_left
      · (intro w hSw; (try dsimp only at hSw); obtain ⟨y0, y1, y2, y3, y4, y5, y6, y7, y8⟩ := hSw.nine; go_simp; try with_reducible rfl)
      simp only [List.getElem_toArray, List.getElem_cons_succ, List.getElem_cons_zero, Act.put, List.setIfInBounds_toArray, List.set_cons_zero, List.set_cons_succ]
      refine wpAnyP_takeF 1 (v := ?_) rfl (by kernel_rfl) (fun _ _ _ h => h) (fun _ => hSw) (Or.inl ⟨by rfl, ?_⟩) ?_
      rotate_left
      · (intro w _; go_simp; try with_reducible rfl)
      simp only [List.getElem_toArray, List.getElem_cons_succ, List.getElem_cons_zero, Act.put, List.setIfInBounds_toArray, List.set_cons_zero, List.set_cons_succ]
      refine wpAnyP_one 6 rfl (by kernel_rfl) (fun K hK => ?_)
      rw [if_pos (by rfl)]
      go_wp2_with ((refine (w_late x.s x.a x.mo _ CWL.out).mono ?_; rintro e w6 ⟨rfl, hc6⟩; have h6 := hSw.chg hc6 (by simp); have HC6 : Hid (Chg [] w5 w6) := Lib.hid ((Chg.refl [] w5).drew.trans hc6); clear hc6))
      refine hold_with (by (try dsimp only at hSw); exact h6) (fun hSn => ?_)
      clear hSw; have hSw := hSn; clear hSn
      refine wpAnyP_one 11 rfl (by kernel_rfl) (fun K hK => ?_)
      rw [if_pos (by rfl)]
      go_wp2_with ((refine (rtt_late x.m x.d _ hm0 hm1).mono ?_; rintro e w7 ⟨rfl, hc7⟩; have h11 := hSw.chg hc7 (by simp); have HC7 : Hid (Chg [] w5 w7) := Lib.hid (HC6.out.trans hc7); have k3 := h11.frozen 3; have k4 := h11.frozen 4; have k5 := h11.frozen 5; have k6 := h11.frozen 6; have k7 := h11.frozen 7; obtain ⟨z0, z1, z2, z3, z4, z5, z6, z7, z8⟩ := h11.nine; clear hc7))
      refine hold_with (by (try dsimp only at hSw); exact h11) (fun hSn => ?_)
      clear hSw; have hSw := hSn; clear hSn
      refine wpAnyP_take 12 [13] (v := ?_) rfl (by kernel_rfl) (fun _ _ _ h => h) (by assumption) (Or.inl ⟨by rfl, ?_⟩) ?_
      rotate_left
      · (intro w hSw; (try dsimp only at hSw); obtain ⟨y0, y1, y2, y3, y4, y5, y6, y7, y8⟩ := hSw.nine; go_simp; try with_reducible rfl)
      simp only [List.getElem_toArray, List.getElem_cons_succ, List.getElem_cons_zero, Act.put, List.setIfInBounds_toArray, List.set_cons_zero, List.set_cons_succ]
      refine wpAnyP_take 13 [] (v := ?_) rfl (by kernel_rfl) (fun _ _ _ h => h) (by assumption) (Or.inl ⟨by rfl, ?_⟩) ?_
      rotate_left
      · (intro w hSw; (try dsimp only at hSw); obtain ⟨y0, y1, y2, y3, y4, y5, y6, y7, y8⟩ := hSw.nine; go_simp; try with_reducible rfl)
      simp only [List.getElem_toArray, List.getElem_cons_succ, List.getElem_cons_zero, Act.put, List.setIfInBounds_toArray, List.set_cons_zero, List.set_cons_succ]
      refine wpAnyP_one 14 rfl (by kernel_rfl) (fun K hK => ?_)
      rw [if_pos (by rfl)]
      go_wp2_with (fail)
      refine ⟨fun hz => (by simp at hz), ?_⟩
      refine wpAnyP_takeF 15 (v := ?_) rfl (by kernel_rfl) (fun _ _ _ h => h) (fun hz => (by simp at hz)) (Or.inl ⟨by rfl, ?_⟩) ?_
      rotate_left
      · (intro w _; go_simp; try with_reducible rfl)
      simp only [List.getElem_toArray, List.getElem_cons_succ, List.getElem_cons_zero, Act.put, List.setIfInBounds_toArray, List.set_cons_zero, List.set_cons_succ]
      refine wpAnyP_takeF 16 (v := ?_) rfl (by kernel_rfl) (fun _ _ _ h => h) (fun hz => (by simp at hz)) (Or.inl ⟨by rfl, ?_⟩) ?_
      rotate_left
      · (intro w _; go_simp; try with_reducible rfl)
      simp only [List.getElem_toArray, List.getElem_cons_succ, List.getElem_cons_zero, Act.put, List.setIfInBounds_toArray, List.set_cons_zero, List.set_cons_succ]
      refine wpAnyP_one 17 rfl (by kernel_rfl) (fun K hK => ?_)
      rw [if_pos (by rfl)]
      go_wp2_with (fail)
      refine ⟨fun hz => (by simp at hz), ?_⟩
      refine wpAnyP_done (by kernel_rfl) ?_ _
      skip
      clear hSw z0 z1 z2 z3 z4 z5 z6 z7 z8 k3 k4 k5 k6 k7
      have hAf := ((((h11.set 3 (.int .i64 ((x.s + 1) / 2))).set 4 (.int .i64 x.mo)).set 5 (.int .i64 0)).set 6 (.int .i64 (lm x.m))).set 7 (.int .i64 x.d)
      have hC7 : Chg [p] w w7 := HC5.out.trans (HC7.out.mono (by simp))
      have hCf : Chg [p] w (((((w7.setCell ⟨p, 3, none⟩ (.int .i64 ((x.s + 1) / 2))).setCell ⟨p, 4, none⟩ (.int .i64 x.mo)).setCell ⟨p, 5, none⟩ (.int .i64 0)).setCell ⟨p, 6, none⟩ (.int .i64 (lm x.m))).setCell ⟨p, 7, none⟩ (.int .i64 x.d)) :=
        ((((hC7.set (by simp) _).set (by simp) _).set (by simp) _).set (by simp) _).set (by simp) _
      generalize (((((w7.setCell ⟨p, 3, none⟩ (.int .i64 ((x.s + 1) / 2))).setCell ⟨p, 4, none⟩ (.int .i64 x.mo)).setCell ⟨p, 5, none⟩ (.int .i64 0)).setCell ⟨p, 6, none⟩ (.int .i64 (lm x.m))).setCell ⟨p, 7, none⟩ (.int .i64 x.d)) = wf at hAf hCf ⊢
      have HAF := Lib.hid hAf
      have HCF := Lib.hid hCf
      clear hAf hC7 hCf h11 h6
      go_wp2_with fail
      go_ret
      have hne := HNE.out
      refine ⟨.slice none 0 0, by rw [HLT.out]; rfl, ?_, HCF.out, .inr rfl⟩
      rw [HLT.out]
      refine ⟨HAF.out.to ?_, Own.nil _ _ _ _, H.out.ring.chg HCF.out (by simp; exact fun e => hne.1 e.symm) (by simp; exact fun e => hne.2.1 e.symm), H.out.hp, H.out.hpr, H.out.hg⟩
      rw [HLL.out]
      rfl
end Go.Proofs.Ytkmjpphmciaklaa
