/- The sender: Push, Pump. -/
import Derived.Test.YtkmjpphmciaklaaSend1
namespace Go.Proofs.Ytkmjpphmciaklaa
open Go.RowKit
set_option linter.unusedVariables false
set_option linter.unusedSimpArgs false
attribute [local go_sem ↓] Go.wp_at_zero Go.wp_at_succ

def Snd.push {α : Type} (x : Snd α) (v : α) : Snd α := if x.wait.length < 16 then { x with wait := x.wait ++ [v] } else x

def PushSnd (B p pr g : Nat) (va : Value) (fr : Nat) (x : Snd Value) (d : List Int) (w : World) (e : Ending) (w' : World) : Prop :=
  ∃ u, Bytes w' u d ∧ e = .returned (.bool (decide (x.wait.length < 16))) ∧ SndAt w' B p pr g va fr (x.push u) ∧ Chg [pr, g] w w'
set_option maxRecDepth 100000 in
set_option maxHeartbeats 1000000 in
theorem push_any {S : Nat → Prop} (w : World) (B p pr g : Nat) (va : Value) (fr : Nat) (x : Snd Value) (v : Value) (d : List Int) (h : SndAt w B p pr g va fr x) (hv : BytS S w v d) (hl : d.length ≤ 100000) :
    Calls Try.prog 34 #[.pointer (some ⟨p, 0, none⟩), v] w (PushSnd B p pr g va fr x d w) := by
  obtain ⟨i0, hi, hz0, hz1, hz2⟩ := info_parts Try.info5
  obtain ⟨u, w1, happ, hb1, hc1⟩ := bytes_copy (P := Try.prog) (t := 29) (ty := 29) (w := w.drew) Try.underlying29 hi hz0 hz1 hz2 (hv.chg (Chg.refl [] w).drew (fun _ _ _ => by simp)) (by omega)
  obtain ⟨va0, vn0, vc0, rfl⟩ := hv.slice
  obtain ⟨xa, xn, xc, rfl⟩ := hb1.slice
  obtain ⟨c0, c1, c2, _⟩ := h.str.nine
  have hcw : Chg [] w w1 := (Chg.refl [] w).drew.trans hc1
  have h1 := h.keep hcw
  have d2 := h1.str.nine.2.2.1
  have HAPP := Lib.hid happ
  have H1 := Lib.hid h1
  have HB1 := Lib.hid hb1
  have HCW := Lib.hid hcw
  by_cases hlt : x.wait.length < 16
  · have CT := Lib.hid (RB.push_ok w1 pr g 16 fr x.wait xa xn xc h1.ring hlt)
    have hd : decide (x.wait.length < 16) = true := decide_eq_true hlt
    have HL := Lib.hid hlt
    unfold PushSnd
    rw [hd]
    clear h hv happ hb1 hc1 hcw h1 hd hlt hi hz0 hz1 hz2
    go_enter Try.func34, Try.ntmps34
    go_wp2_with fail
    refine wp_region_phase 7 (fun w' => w'.cell? ⟨p, 2, none⟩ = some (.pointer (some ⟨pr, 0, none⟩))) (by kernel_rfl) ?_
    refine wpAnyP_with (by exact c2) (fun hSw => ?_)
    refine wpAnyP_take 0 [] (v := ?_) rfl (by kernel_rfl) (fun _ _ _ h => h) (by assumption) (Or.inl ⟨by rfl, ?_⟩) ?_
    rotate_left
    · (intro w hSw; (try dsimp only at hSw); go_simp; try with_reducible rfl)
    simp only [Act.put, List.setIfInBounds_toArray, List.set_cons_zero, List.set_cons_succ]
    refine wpAnyP_take 1 [] (v := ?_) rfl (by kernel_rfl) (fun _ _ _ h => h) (by assumption) (Or.inl ⟨by rfl, ?_⟩) ?_
    rotate_left
    · (intro w hSw; (try dsimp only at hSw); go_simp; try with_reducible rfl)
    simp only [Act.put, List.setIfInBounds_toArray, List.set_cons_zero, List.set_cons_succ]
    refine wpAnyP_take 2 [] (v := ?_) rfl (by kernel_rfl) (fun _ _ _ h => h) (by assumption) (Or.inl ⟨by rfl, ?_⟩) ?_
    rotate_left
    · (intro w hSw; (try dsimp only at hSw); go_simp; try with_reducible rfl)
    simp only [Act.put, List.setIfInBounds_toArray, List.set_cons_zero, List.set_cons_succ]
    refine wpAnyP_take 3 [] (v := ?_) rfl (by kernel_rfl) (fun _ _ _ h => h) (by assumption) (Or.inl ⟨by rfl, ?_⟩) ?_
    rotate_left
    · (intro w hSw; (try dsimp only at hSw); go_simp; try with_reducible rfl)
    simp only [Act.put, List.setIfInBounds_toArray, List.set_cons_zero, List.set_cons_succ]
    refine wpAnyP_take 4 [] (v := ?_) rfl (by kernel_rfl) (fun _ _ _ h => h) (by assumption) (Or.inl ⟨by rfl, ?_⟩) ?_
    rotate_left
    · (intro w hSw; (try dsimp only at hSw); go_simp; try with_reducible rfl)
    simp only [Act.put, List.setIfInBounds_toArray, List.set_cons_zero, List.set_cons_succ]
    refine wpAnyP_one 5 rfl (by kernel_rfl) (fun K hK => ?_)
    rw [if_pos (by rfl)]
    simp only [List.getElem_toArray, List.getElem_cons_succ, List.getElem_cons_zero, Act.put, List.setIfInBounds_toArray, List.set_cons_zero, List.set_cons_succ]
    (refine wp_app_eq _ _ 29 rfl rfl rfl HAPP.out ?_; go_wp2_with (fail))
    refine hold_with (by (try dsimp only at hSw); exact d2) (fun hSn => ?_)
    clear hSw; have hSw := hSn; clear hSn
    refine wpAnyP_one 6 rfl (by kernel_rfl) (fun K hK => ?_)
    rw [if_pos (by rfl)]
    go_wp2_with ((refine CT.out.mono ?_; rintro e w2 ⟨rfl, hr, hc⟩; have HR := Lib.hid hr; have HC := Lib.hid hc; have d2' : w2.cell? ⟨p, 2, none⟩ = some (.pointer (some ⟨pr, 0, none⟩)) := (hc.cell (p := ⟨p, 2, none⟩) H1.out.str.lt (by simp; exact ⟨H1.out.pr_ne.1, H1.out.pr_ne.2.1⟩)).trans d2; clear hr hc))
    refine hold_with (by (try dsimp only at hSw); exact d2') (fun hSn => ?_)
    clear hSw; have hSw := hSn; clear hSn
    refine wpAnyP_one 7 rfl (by kernel_rfl) (fun K hK => ?_)
    rw [if_pos (by rfl)]
    go_wp2_with (fail)
    refine ⟨fun hz => (by simp at hz), ?_⟩
    refine wpAnyP_done (by kernel_rfl) ?_ _
    skip
    clear hSw
    go_wp2_with fail
    go_ret
    have hne := H1.out.pr_ne
    refine ⟨.slice xa xn xc, HB1.out.chg HC.out (fun b hb => ?_), rfl, ?_, (HCW.out.mono (F' := [pr, g]) (by simp)).trans HC.out⟩
    · simp at hb
      rcases hb with rfl | rfl
      · exact H1.out.ring.isT.1.noB (by decide)
      · exact H1.out.ring.isT.2.noB (by decide)
    · unfold Snd.push
      rw [if_pos HL.out]
      exact ⟨H1.out.str.chg HC.out (by simp; exact ⟨hne.1, hne.2.1⟩), H1.out.air.chg HC.out (by intro b hb; simp at hb; rcases hb with rfl | rfl; exact hne.2.2.2.2.1; exact hne.2.2.2.2.2), HR.out, H1.out.hp, H1.out.hpr, H1.out.hg⟩
  · have hfull : x.wait.length = 16 := by have := h1.ring.fits; omega
    have CT := Lib.hid (RB.push_full w1 pr g 16 fr x.wait (.slice xa xn xc) h1.ring hfull)
    have hd : decide (x.wait.length < 16) = false := decide_eq_false hlt
    have HL := Lib.hid hlt
    unfold PushSnd
    rw [hd]
    clear h hv happ hb1 hc1 hcw h1 hd hlt hi hz0 hz1 hz2 hfull
    go_enter Try.func34, Try.ntmps34
    go_wp2_with fail
    refine wp_region_phase 7 (fun w' => w'.cell? ⟨p, 2, none⟩ = some (.pointer (some ⟨pr, 0, none⟩))) (by kernel_rfl) ?_
    refine wpAnyP_with (by exact c2) (fun hSw => ?_)
    refine wpAnyP_take 0 [] (v := ?_) rfl (by kernel_rfl) (fun _ _ _ h => h) (by assumption) (Or.inl ⟨by rfl, ?_⟩) ?_
    rotate_left
    · (intro w hSw; (try dsimp only at hSw); go_simp; try with_reducible rfl)
    simp only [Act.put, List.setIfInBounds_toArray, List.set_cons_zero, List.set_cons_succ]
    refine wpAnyP_take 1 [] (v := ?_) rfl (by kernel_rfl) (fun _ _ _ h => h) (by assumption) (Or.inl ⟨by rfl, ?_⟩) ?_
    rotate_left
    · (intro w hSw; (try dsimp only at hSw); go_simp; try with_reducible rfl)
    simp only [Act.put, List.setIfInBounds_toArray, List.set_cons_zero, List.set_cons_succ]
    refine wpAnyP_take 2 [] (v := ?_) rfl (by kernel_rfl) (fun _ _ _ h => h) (by assumption) (Or.inl ⟨by rfl, ?_⟩) ?_
    rotate_left
    · (intro w hSw; (try dsimp only at hSw); go_simp; try with_reducible rfl)
    simp only [Act.put, List.setIfInBounds_toArray, List.set_cons_zero, List.set_cons_succ]
    refine wpAnyP_take 3 [] (v := ?_) rfl (by kernel_rfl) (fun _ _ _ h => h) (by assumption) (Or.inl ⟨by rfl, ?_⟩) ?_
    rotate_left
    · (intro w hSw; (try dsimp only at hSw); go_simp; try with_reducible rfl)
    simp only [Act.put, List.setIfInBounds_toArray, List.set_cons_zero, List.set_cons_succ]
    refine wpAnyP_take 4 [] (v := ?_) rfl (by kernel_rfl) (fun _ _ _ h => h) (by assumption) (Or.inl ⟨by rfl, ?_⟩) ?_
    rotate_left
    · (intro w hSw; (try dsimp only at hSw); go_simp; try with_reducible rfl)
    simp only [Act.put, List.setIfInBounds_toArray, List.set_cons_zero, List.set_cons_succ]
    refine wpAnyP_one 5 rfl (by kernel_rfl) (fun K hK => ?_)
    rw [if_pos (by rfl)]
    simp only [List.getElem_toArray, List.getElem_cons_succ, List.getElem_cons_zero, Act.put, List.setIfInBounds_toArray, List.set_cons_zero, List.set_cons_succ]
    (refine wp_app_eq _ _ 29 rfl rfl rfl HAPP.out ?_; go_wp2_with (fail))
    refine hold_with (by (try dsimp only at hSw); exact d2) (fun hSn => ?_)
    clear hSw; have hSw := hSn; clear hSn
    refine wpAnyP_one 6 rfl (by kernel_rfl) (fun K hK => ?_)
    rw [if_pos (by rfl)]
    go_wp2_with ((refine CT.out.mono ?_; rintro e w2 ⟨rfl, hw2⟩; have HC : Hid (Chg [] w1 w2) := Lib.hid (by obtain ⟨n2, rfl⟩ := hw2; exact (Chg.refl _ _).drewN _); have d2' : w2.cell? ⟨p, 2, none⟩ = some (.pointer (some ⟨pr, 0, none⟩)) := (HC.out.cell (p := ⟨p, 2, none⟩) H1.out.str.lt (by simp)).trans d2; clear hw2))
    refine hold_with (by (try dsimp only at hSw); exact d2') (fun hSn => ?_)
    clear hSw; have hSw := hSn; clear hSn
    refine wpAnyP_one 7 rfl (by kernel_rfl) (fun K hK => ?_)
    rw [if_pos (by rfl)]
    go_wp2_with (fail)
    refine ⟨fun hz => (by simp at hz), ?_⟩
    refine wpAnyP_done (by kernel_rfl) ?_ _
    skip
    clear hSw
    go_wp2_with fail
    go_ret
    refine ⟨.slice xa xn xc, HB1.out.chg HC.out (by simp), rfl, ?_, (HCW.out.trans HC.out).mono (by simp)⟩
    unfold Snd.push
    rw [if_neg HL.out]
    exact H1.out.keep HC.out

/-- Those that may be sent: they, the next number, what is under way then, what waits. -/
def pumpF {α : Type} (s now : Int) : Int → List (Int × Int) → List α → List (Int × α) × Int × List (Int × Int) × List α
  | nx, air, [] => ([], nx, air, [])
  | nx, air, v :: l => if (air.length : Int) < s then ((nx, v) :: (pumpF s now ((nx + 1) % 4294967296) (air ++ [(nx, now)]) l).1, (pumpF s now ((nx + 1) % 4294967296) (air ++ [(nx, now)]) l).2) else ([], nx, air, v :: l)
theorem pumpF_full {α : Type} {s now nx : Int} {air : List (Int × Int)} {l : List α} (h : ¬ (air.length : Int) < s) : pumpF s now nx air l = ([], nx, air, l) := by
  cases l with
  | nil => rfl
  | cons v l => unfold pumpF; rw [if_neg h]
theorem pumpF_go {α : Type} {s now nx : Int} {air : List (Int × Int)} {v : α} {l : List α} (h : (air.length : Int) < s) :
    pumpF s now nx air (v :: l) = ((nx, v) :: (pumpF s now ((nx + 1) % 4294967296) (air ++ [(nx, now)]) l).1, (pumpF s now ((nx + 1) % 4294967296) (air ++ [(nx, now)]) l).2) := by
  conv => lhs; unfold pumpF
  rw [if_pos h]
def Snd.pump {α : Type} (x : Snd α) (now : Int) : Snd α × List (Int × α) :=
  ({ x with nx := (pumpF x.s now x.nx x.air x.wait).2.1, air := (pumpF x.s now x.nx x.air x.wait).2.2.1, wait := (pumpF x.s now x.nx x.air x.wait).2.2.2 }, (pumpF x.s now x.nx x.air x.wait).1)
end Go.Proofs.Ytkmjpphmciaklaa
