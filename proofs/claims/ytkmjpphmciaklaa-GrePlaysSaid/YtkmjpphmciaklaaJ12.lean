/- The sender: Pump. Regions that draw their order: an operation that yields one value in every world may be taken first, whatever waits for it. -/
import Derived.Test.YtkmjpphmciaklaaJ11
import Derived.Test.YtkmjpphmciaklaaJ1
namespace Go.Proofs.Ytkmjpphmciaklaa
open Go.RowKit
set_option linter.unusedVariables false
set_option linter.unusedSimpArgs false
attribute [local go_sem ↓] Go.wp_at_zero Go.wp_at_succ

/-- At the head of a round of Pump. -/
def PumpInv (B p pr g : Nat) (va0 : Value) (x : Snd Value) (now : Int) (w : World) (n : Nat) (v5 : Value) (wr : World) : Prop :=
  ∃ done nx air l va fr, n = l.length ∧ Own 31 2 wr w.heap.size v5 (pk done) ∧ SndAt wr B p pr g va fr { x with nx := nx, air := air, wait := l } ∧ Chg (sndF p pr g va0) w wr ∧ (∀ b, va.ownBlock = some b → va0.ownBlock = some b ∨ w.heap.size ≤ b) ∧
    0 ≤ nx ∧ nx < 4294967296 ∧ air.length ≤ 16 ∧ done.length + l.length = x.wait.length ∧
    (pumpF x.s now x.nx x.air x.wait).1 = done ++ (pumpF x.s now nx air l).1 ∧ (pumpF x.s now x.nx x.air x.wait).2 = (pumpF x.s now nx air l).2
def PumpPost (B p pr g : Nat) (va0 : Value) (x : Snd Value) (now : Int) (w : World) (e : Ending) (w' : World) : Prop :=
  ∃ o va fr, e = .returned o ∧ Own 31 2 w' w.heap.size o (pk (x.pump now).2) ∧ SndAt w' B p pr g va fr (x.pump now).1 ∧ Chg (sndF p pr g va0) w w' ∧ (∀ b, va.ownBlock = some b → va0.ownBlock = some b ∨ w.heap.size ≤ b)
theorem PumpInv.stop {B p pr g : Nat} {va0 : Value} {x : Snd Value} {now : Int} {w wr w' : World} {done : List (Int × Value)} {nx : Int} {air : List (Int × Int)} {l : List Value} {va v5 : Value} {fr : Nat}
    (hO : Own 31 2 wr w.heap.size v5 (pk done)) (hS : SndAt wr B p pr g va fr { x with nx := nx, air := air, wait := l }) (hC : Chg (sndF p pr g va0) w wr) (hva : ∀ b, va.ownBlock = some b → va0.ownBlock = some b ∨ w.heap.size ≤ b)
    (e1 : (pumpF x.s now x.nx x.air x.wait).1 = done ++ (pumpF x.s now nx air l).1) (e2 : (pumpF x.s now x.nx x.air x.wait).2 = (pumpF x.s now nx air l).2) (hz : pumpF x.s now nx air l = ([], nx, air, l)) (hc : Chg [] wr w') :
    PumpPost B p pr g va0 x now w (.returned v5) w' := by
  rw [hz] at e1 e2
  simp only [List.append_nil] at e1
  refine ⟨v5, va, fr, rfl, ?_, ?_, hC.trans' hc (by simp), hva⟩
  · show Own 31 2 w' w.heap.size v5 (pk (pumpF x.s now x.nx x.air x.wait).1)
    rw [e1]; exact hO.keep hc
  · show SndAt w' B p pr g va fr { x with nx := (pumpF x.s now x.nx x.air x.wait).2.1, air := (pumpF x.s now x.nx x.air x.wait).2.2.1, wait := (pumpF x.s now x.nx x.air x.wait).2.2.2 }
    rw [e2]; exact hS.keep hc

set_option maxRecDepth 100000 in
set_option maxHeartbeats 2000000 in
theorem pump_any (w : World) (B p pr g : Nat) (va0 : Value) (fr0 : Nat) (x : Snd Value) (now : Int) (h : SndAt w B p pr g va0 fr0 x) (hB : B ≤ w.heap.size) (ok : x.Ok) :
    Calls Try.prog 31 #[.pointer (some ⟨p, 0, none⟩), .int .i64 now] w (PumpPost B p pr g va0 x now w) := by
  have H := Lib.hid h
  have OK := Lib.hid ok
  have hs16 : x.s ≤ 16 := by have := ok.win; unfold Win at this; omega
  have hw16 := ok.wait
  have hx0 := ok.nx0
  have hx1 := ok.nx1
  have ha16 := ok.air
  have hkp := h.kind
  clear h ok
  go_enter Try.func31, Try.ntmps31
  go_wp2_with fail
  go_loopg [5] x.wait.length (fun n v5 wr => PumpInv B p pr g va0 x now w n v5 wr)
  case atStart => exact ⟨[], x.nx, x.air, x.wait, va0, fr0, rfl, Own.nil _ _ _ _, H.out, Chg.refl _ _, fun b hb => .inl hb, hx0, hx1, ha16, by simp, by simp, rfl⟩
  case round =>
    obtain ⟨done, nx, air, l, va, fr, rfl, hO, hS, hC, hva, n0, n1, ha, hdl, e1, e2⟩ := hrel
    obtain ⟨aa, ac, rfl⟩ := hS.air.slice
    rw [fl_len] at hS hva
    have hne := hS.pr_ne
    have hA := hS.str
    simp only at hA
    have HO := Lib.hid hO
    have HS := Lib.hid hS
    have HC := Lib.hid hC
    have HVA := Lib.hid hva
    have E1 := Lib.hid e1
    have E2 := Lib.hid e2
    have HNE := Lib.hid hne
    have HA := Lib.hid hA
    have HDL := Lib.hid hdl
    have hsz := hC.size
    have hpw := hA.lt
    clear hO hS hC hva e1 e2 hne hA hdl hkp
    go_upto_region 2 with (fail)
    refine wp_region_phase 10 (fun w' => At w' p 122 [.int .u32 nx, .slice aa air.length ac, .pointer (some ⟨pr, 0, none⟩), .int .i64 x.s, .int .i64 x.mo, .int .i64 x.a, .int .i64 x.m, .int .i64 x.d, .int .i64 x.lost]) (by kernel_rfl) ?_
    refine wpAnyP_with (by exact HA.out.drew) (fun hSw => ?_)
    refine wpAnyP_take 0 [4, 3, 2, 1] (v := ?_) rfl (by kernel_rfl) (fun _ _ _ h => h) (by assumption) (Or.inl ⟨by rfl, ?_⟩) ?_
    rotate_left
    · (intro w hSw; (try dsimp only at hSw); obtain ⟨y0, y1, y2, y3, y4, y5, y6, y7, y8⟩ := hSw.nine; go_simp; try with_reducible rfl)
    simp only [Act.put, List.setIfInBounds_toArray, List.set_cons_zero, List.set_cons_succ]
    refine wpAnyP_take 1 [4, 3, 2] (v := ?_) rfl (by kernel_rfl) (fun _ _ _ h => h) (by assumption) (Or.inl ⟨by rfl, ?_⟩) ?_
    rotate_left
    · (intro w hSw; (try dsimp only at hSw); obtain ⟨y0, y1, y2, y3, y4, y5, y6, y7, y8⟩ := hSw.nine; go_simp; try with_reducible rfl)
    simp only [Act.put, List.setIfInBounds_toArray, List.set_cons_zero, List.set_cons_succ]
    refine wpAnyP_take 2 [4, 3] (v := ?_) rfl (by kernel_rfl) (fun _ _ _ h => h) (by assumption) (Or.inl ⟨by rfl, ?_⟩) ?_
    rotate_left
    · (intro w hSw; (try dsimp only at hSw); obtain ⟨y0, y1, y2, y3, y4, y5, y6, y7, y8⟩ := hSw.nine; go_simp; try with_reducible rfl)
    simp only [Act.put, List.setIfInBounds_toArray, List.set_cons_zero, List.set_cons_succ]
    refine wpAnyP_take 3 [4] (v := ?_) rfl (by kernel_rfl) (fun _ _ _ h => h) (by assumption) (Or.inl ⟨by rfl, ?_⟩) ?_
    rotate_left
    · (intro w hSw; (try dsimp only at hSw); obtain ⟨y0, y1, y2, y3, y4, y5, y6, y7, y8⟩ := hSw.nine; go_simp; try with_reducible rfl)
    simp only [Act.put, List.setIfInBounds_toArray, List.set_cons_zero, List.set_cons_succ]
    refine wpAnyP_take 4 [] (v := ?_) rfl (by kernel_rfl) (fun _ _ _ h => h) (by assumption) (Or.inl ⟨by rfl, ?_⟩) ?_
    rotate_left
    · (intro w hSw; (try dsimp only at hSw); obtain ⟨y0, y1, y2, y3, y4, y5, y6, y7, y8⟩ := hSw.nine; go_simp; try with_reducible rfl)
    simp only [Act.put, List.setIfInBounds_toArray, List.set_cons_zero, List.set_cons_succ]
    refine wpAnyP_take 5 [9, 8, 7, 6] (v := ?_) rfl (by kernel_rfl) (fun _ _ _ h => h) (by assumption) (Or.inl ⟨by rfl, ?_⟩) ?_
    rotate_left
    · (intro w hSw; (try dsimp only at hSw); obtain ⟨y0, y1, y2, y3, y4, y5, y6, y7, y8⟩ := hSw.nine; go_simp; try with_reducible rfl)
    simp only [Act.put, List.setIfInBounds_toArray, List.set_cons_zero, List.set_cons_succ]
    refine wpAnyP_take 6 [9, 8, 7] (v := ?_) rfl (by kernel_rfl) (fun _ _ _ h => h) (by assumption) (Or.inl ⟨by rfl, ?_⟩) ?_
    rotate_left
    · (intro w hSw; (try dsimp only at hSw); obtain ⟨y0, y1, y2, y3, y4, y5, y6, y7, y8⟩ := hSw.nine; go_simp; try with_reducible rfl)
    simp only [Act.put, List.setIfInBounds_toArray, List.set_cons_zero, List.set_cons_succ]
    refine wpAnyP_take 7 [9, 8] (v := ?_) rfl (by kernel_rfl) (fun _ _ _ h => h) (by assumption) (Or.inl ⟨by rfl, ?_⟩) ?_
    rotate_left
    · (intro w hSw; (try dsimp only at hSw); obtain ⟨y0, y1, y2, y3, y4, y5, y6, y7, y8⟩ := hSw.nine; go_simp; try with_reducible rfl)
    simp only [Act.put, List.setIfInBounds_toArray, List.set_cons_zero, List.set_cons_succ]
    refine wpAnyP_take 8 [9] (v := ?_) rfl (by kernel_rfl) (fun _ _ _ h => h) (by assumption) (Or.inl ⟨by rfl, ?_⟩) ?_
    rotate_left
    · (intro w hSw; (try dsimp only at hSw); obtain ⟨y0, y1, y2, y3, y4, y5, y6, y7, y8⟩ := hSw.nine; go_simp; try with_reducible rfl)
    simp only [Act.put, List.setIfInBounds_toArray, List.set_cons_zero, List.set_cons_succ]
    refine wpAnyP_one 9 rfl (by kernel_rfl) (fun K hK => ?_)
    rw [if_pos (by rfl)]
    go_wp2_with ((refine (w_size _ _ _ _).mono ?_; rintro e w1 ⟨rfl, hc1⟩; have h9 := hSw.chg hc1 (by simp); have HC1 : Hid (Chg [] wr w1) := Lib.hid ((Chg.refl [] wr).drew.trans hc1); clear hc1))
    refine hold_with (by (try dsimp only at hSw); exact h9) (fun hSn => ?_)
    clear hSw; have hSw := hSn; clear hSn
    refine wpAnyP_one 10 rfl (by kernel_rfl) (fun K hK => ?_)
    rw [if_pos (by rfl)]
    go_wp2_with (fail)
    refine ⟨fun hz => (by simp at hz), ?_⟩
    refine wpAnyP_done (by kernel_rfl) ?_ _
    skip
    clear hSw
    obtain ⟨d0, d1, d2, d3, d4, d5, d6, d7, d8⟩ := h9.nine
    by_cases hlt : (air.length : Int) < x.s
    · cases l with
      | nil =>
        have CT := Lib.hid (RB.pop_none w1 pr g 16 fr (HS.out.keep HC1.out).ring)
        have HF := Lib.hid (PumpInv.stop HO.out HS.out HC.out HVA.out E1.out E2.out rfl HC1.out)
        go_wp2_with fail
        refine CT.out.mono ?_
        rintro e w2 ⟨rfl, rfl⟩
        clear CT
        go_wp2_with fail
        go_ret
        exact HF.out
      | cons v l' =>
        have hS1 := HS.out.keep HC1.out
        obtain ⟨xa, xn, xc, rfl⟩ := hS1.ring.form v (by simp)
        have CT := Lib.hid (RB.pop_some w1 pr g 16 fr (.slice xa xn xc) l' hS1.ring)
        have HS1 := Lib.hid hS1
        clear hS1
        go_wp2_with fail
        refine CT.out.mono ?_
        rintro e w2 ⟨rfl, hr2, hc2⟩
        clear CT
        have hne := HNE.out
        have hA2 := HS1.out.str.chg hc2 (by simp; exact ⟨hne.1, hne.2.1⟩)
        have hO2 : Own 125 2 w2 B (.slice aa air.length ac) (fl air) := HS1.out.air.chg hc2 (by
          intro b hb; simp at hb
          rcases hb with rfl | rfl
          · exact hne.2.2.2.2.1
          · exact hne.2.2.2.2.2)
        have hOut2 : Own 31 2 w2 w.heap.size u5 (pk done) := (HO.out.keep HC1.out).chg hc2 (by
          intro b hb e; simp at hb
          have ht := (HO.out.keep HC1.out).isT e
          rcases hb with rfl | rfl
          · exact ht.ne HS1.out.ring.isT.1 (by decide) rfl
          · exact ht.ne HS1.out.ring.isT.2 (by decide) rfl)
        have hs12 : w.heap.size ≤ w2.heap.size := Nat.le_trans hsz (Nat.le_trans HC1.out.size hc2.size)
        have hll : (Value.slice xa xn xc :: l').length = l'.length + 1 := rfl
        have hdl2 : done.length + (l'.length + 1) = x.wait.length := HDL.out
        obtain ⟨v5', w3, happ, hO3, hc3, hob3⟩ := own_push elem31 27 hOut2 hs12 (x := [.int .u32 nx, .slice xa xn xc]) (c := 1) rfl (by intro u hu; simp at hu; rcases hu with rfl | rfl <;> rfl) (by rw [pk_len]; omega)
        have hl5 : ∀ b ∈ (Value.ownBlock u5).toList, w.heap.size ≤ b := fun b hb => (hOut2.lt b (by simpa using hb)).1
        have hA3 := hA2.chg hc3 (fun hm => hOut2.ne hA2 (by decide) (by simpa using hm))
        have hO3a := hO2.chg hc3 (hO2.ne' hOut2 (by decide))
        have hR3 := hr2.chg hc3 (fun hm => (hOut2.isT (by simpa using hm)).ne hr2.isT.1 (by decide) rfl) (fun hm => (hOut2.isT (by simpa using hm)).ne hr2.isT.2 (by decide) rfl)
        simp only at hA3
        have hc3d : Chg [] w3 w3.drew := (Chg.refl _ _).drew
        have hs3 : w.heap.size ≤ w3.heap.size := Nat.le_trans hs12 hc3.size
        obtain ⟨va', w4, happ4, hO4, hc4, hob4⟩ := own_push (w := w3.drew) elem125 120 (hO3a.keep hc3d) (Nat.le_trans hB hs3) (x := [.int .u32 nx, .int .i64 now]) (c := 1) rfl (by intro u hu; simp at hu; rcases hu with rfl | rfl <;> rfl) (by rw [fl_len]; omega)
        obtain ⟨ba, bc, hva'⟩ := hO4.slice
        have hfl : (fl air ++ [[Value.int .u32 nx, Value.int .i64 now]]).length = air.length + 1 := by simp [fl]
        rw [hfl] at hva'
        subst hva'
        have e4 : w3.drew.alloc (.cells [Value.int .u32 nx, Value.int .i64 now].toArray 125) = (w3.alloc (.cells #[.int .u32 nx, .int .i64 now] 125)).drew := rfl
        rw [e4] at happ4
        have hA4 := (hA3.chg hc3d (by simp)).chg hc4 (fun hm => (hO3a.keep hc3d).ne (hA3.chg hc3d (by simp)) (by decide) (by simpa using hm))
        have hR4 := (hR3.chg hc3d (by simp) (by simp)).chg hc4 (fun hm => ((hO3a.keep hc3d).isT (by simpa using hm)).ne (hR3.chg hc3d (by simp) (by simp)).isT.1 (by decide) rfl) (fun hm => ((hO3a.keep hc3d).isT (by simpa using hm)).ne (hR3.chg hc3d (by simp) (by simp)).isT.2 (by decide) rfl)
        have hO5 := (hO3.keep hc3d).chg hc4 ((hO3.keep hc3d).ne' (hO3a.keep hc3d) (by decide))
        obtain ⟨nx', hnx'⟩ : ∃ nx', nx' = (nx + 1) % 4294967296 := ⟨_, rfl⟩
        obtain ⟨wf, hwf⟩ : ∃ wf, wf = (w4.setCell ⟨p, 1, none⟩ (.slice ba (air.length + 1) bc)).setCell ⟨p, 0, none⟩ (.int .u32 nx') := ⟨_, rfl⟩
        have hcf : Chg [p] w4 wf := by rw [hwf]; exact ((Chg.refl [p] w4).set (by simp) _).set (by simp) _
        have hSf : SndAt wf B p pr g (.slice ba (air.length + 1) bc) ((fr + 1) % 16) { x with nx := nx', air := air ++ [(nx, now)], wait := l' } := by
          refine ⟨by rw [hwf]; exact (hA4.set 1 _).set 0 _, ?_, hR4.chg hcf (by simp; exact fun e => hne.1 e.symm) (by simp; exact fun e => hne.2.1 e.symm), HS1.out.hp, HS1.out.hpr, HS1.out.hg⟩
          rw [fl_app]
          exact hO4.chg hcf (fun b hb => by simp at hb; subst hb; exact hO4.ne hA4 (by decide))
        have hrun := pumpF_go (now := now) (nx := nx) (v := Value.slice xa xn xc) (l := l') hlt
        have e1 := E1.out
        have e2 := E2.out
        rw [hrun, ← hnx'] at e1 e2
        have hfin : PumpInv B p pr g va0 x now w l'.length v5' wf := by
          refine ⟨done ++ [(nx, .slice xa xn xc)], nx', air ++ [(nx, now)], l', .slice ba (air.length + 1) bc, (fr + 1) % 16, rfl, ?_, hSf, ?_, fun b hb => ?_, by omega, by omega, by simp; omega, by simp; omega, by rw [e1]; simp, e2⟩
          · rw [pk_app]
            exact hO5.chg hcf (fun b hb => by simp at hb; subst hb; exact hO5.ne hA4 (by decide))
          · have k1 : Chg (sndF p pr g va0) w w2 := (HC.out.trans' HC1.out (by simp)).trans' hc2 (fun b hb => by simp at hb; left; simp [sndF]; rcases hb with rfl | rfl <;> simp)
            have k2 : Chg (sndF p pr g va0) w w3.drew := (k1.trans' hc3 (fun b hb => Or.inr (hl5 b hb))).drew
            have k3 : Chg (sndF p pr g va0) w w4 := k2.trans' hc4 (fun b hb => by
              rcases HVA.out b (by simpa using hb) with h | h
              · left; simp [sndF, h]
              · exact .inr h)
            exact k3.trans' hcf (fun b hb => by simp at hb; subst hb; left; simp [sndF])
          · rcases hob4 b hb with h | h
            · exact HVA.out b h
            · exact .inr (Nat.le_trans hs3 h)
        have HF := Lib.hid hfin
        have HA4 := Lib.hid hA4
        have HAP4 := Lib.hid happ4
        have HWF := Lib.hid hwf
        have HNX := Lib.hid hnx'
        obtain ⟨f0, f1, f2, _⟩ := hA2.nine
        obtain ⟨g0, g1, g2, _⟩ := hA3.nine
        have KK : Hid (∀ o, (w3.alloc o).cell? ⟨p, 0, none⟩ = some (.int .u32 nx) ∧ (w3.alloc o).cell? ⟨p, 1, none⟩ = some (.slice aa air.length ac)) := Lib.hid (fun o => ⟨(((Chg.refl [] w3).alloc o).cell (p := ⟨p, 0, none⟩) hA3.lt (by simp)).trans g0, (((Chg.refl [] w3).alloc o).cell (p := ⟨p, 1, none⟩) hA3.lt (by simp)).trans g1⟩)
        have k0 : w4.cell? ⟨p, 0, none⟩ = some (.int .u32 nx) := hA4.nine.1
        have k1 : w4.frozen? ⟨p, 0, none⟩ = false := hA4.frozen 0
        have k2 : w4.frozen? ⟨p, 1, none⟩ = false := hA4.frozen 1
        have k3 : w4.cell? ⟨p, 1, none⟩ = some (.slice aa air.length ac) := hA4.nine.2.1
        clear hr2 hc2 hne hA2 hO2 hOut2 hs12 hll hO3 hc3 hob3 hl5 hA3 hO3a hR3 hc3d hs3 hO4 hc4 hob4 hfl e4 happ4 hA4 hR4 hO5 hnx' hwf hcf hSf hrun e1 e2 hfin d0 d1 d2 d3 d4 d5 d6 d7 d8 h9
        go_wp2_with (at_builtin; refine wpList_app_eq rfl _ _ 27 rfl rfl rfl happ ?_)
        clear happ f0 f1 f2
        go_upto_region 6 with (fail)
        refine wp_region_phase 15 (fun w' => w'.cell? ⟨p, 0, none⟩ = some (.int .u32 nx) ∧ w'.cell? ⟨p, 1, none⟩ = some (.slice aa air.length ac)) (by kernel_rfl) ?_
        refine wpAnyP_with (by exact ⟨g0, g1⟩) (fun hSw => ?_)
        refine wpAnyP_take 0 [] (v := ?_) rfl (by kernel_rfl) (fun _ _ _ h => h) (by assumption) (Or.inl ⟨by rfl, ?_⟩) ?_
        rotate_left
        · (intro w hSw; (try dsimp only at hSw); obtain ⟨y0, y1⟩ := hSw; go_simp; try with_reducible rfl)
        simp only [Act.put, List.setIfInBounds_toArray, List.set_cons_zero, List.set_cons_succ]
        refine wpAnyP_take 1 [] (v := ?_) rfl (by kernel_rfl) (fun _ _ _ h => h) (by assumption) (Or.inl ⟨by rfl, ?_⟩) ?_
        rotate_left
        · (intro w hSw; (try dsimp only at hSw); obtain ⟨y0, y1⟩ := hSw; go_simp; try with_reducible rfl)
        simp only [Act.put, List.setIfInBounds_toArray, List.set_cons_zero, List.set_cons_succ]
        refine wpAnyP_take 2 [] (v := ?_) rfl (by kernel_rfl) (fun _ _ _ h => h) (by assumption) (Or.inl ⟨by rfl, ?_⟩) ?_
        rotate_left
        · (intro w hSw; (try dsimp only at hSw); obtain ⟨y0, y1⟩ := hSw; go_simp; try with_reducible rfl)
        simp only [Act.put, List.setIfInBounds_toArray, List.set_cons_zero, List.set_cons_succ]
        refine wpAnyP_take 3 [] (v := ?_) rfl (by kernel_rfl) (fun _ _ _ h => h) (by assumption) (Or.inl ⟨by rfl, ?_⟩) ?_
        rotate_left
        · (intro w hSw; (try dsimp only at hSw); obtain ⟨y0, y1⟩ := hSw; go_simp; try with_reducible rfl)
        simp only [Act.put, List.setIfInBounds_toArray, List.set_cons_zero, List.set_cons_succ]
        refine wpAnyP_take 4 [] (v := ?_) rfl (by kernel_rfl) (fun _ _ _ h => h) (by assumption) (Or.inl ⟨by rfl, ?_⟩) ?_
        rotate_left
        · (intro w hSw; (try dsimp only at hSw); obtain ⟨y0, y1⟩ := hSw; go_simp; try with_reducible rfl)
        simp only [Act.put, List.setIfInBounds_toArray, List.set_cons_zero, List.set_cons_succ]
        refine wpAnyP_take 5 [] (v := ?_) rfl (by kernel_rfl) (fun _ _ _ h => h) (by assumption) (Or.inl ⟨by rfl, ?_⟩) ?_
        rotate_left
        · (intro w hSw; (try dsimp only at hSw); obtain ⟨y0, y1⟩ := hSw; go_simp; try with_reducible rfl)
        simp only [Act.put, List.setIfInBounds_toArray, List.set_cons_zero, List.set_cons_succ]
        refine wpAnyP_take 6 [] (v := ?_) rfl (by kernel_rfl) (fun _ _ _ h => h) (by assumption) (Or.inl ⟨by rfl, ?_⟩) ?_
        rotate_left
        · (intro w hSw; (try dsimp only at hSw); obtain ⟨y0, y1⟩ := hSw; go_simp; try with_reducible rfl)
        simp only [Act.put, List.setIfInBounds_toArray, List.set_cons_zero, List.set_cons_succ]
        refine wpAnyP_take 7 [] (v := ?_) rfl (by kernel_rfl) (fun _ _ _ h => h) (by assumption) (Or.inl ⟨by rfl, ?_⟩) ?_
        rotate_left
        · (intro w hSw; (try dsimp only at hSw); obtain ⟨y0, y1⟩ := hSw; go_simp; try with_reducible rfl)
        simp only [Act.put, List.setIfInBounds_toArray, List.set_cons_zero, List.set_cons_succ]
        refine wpAnyP_take 8 [] (v := ?_) rfl (by kernel_rfl) (fun _ _ _ h => h) (by assumption) (Or.inl ⟨by rfl, ?_⟩) ?_
        rotate_left
        · (intro w hSw; (try dsimp only at hSw); obtain ⟨y0, y1⟩ := hSw; go_simp; try with_reducible rfl)
        simp only [Act.put, List.setIfInBounds_toArray, List.set_cons_zero, List.set_cons_succ]
        refine wpAnyP_take 9 [] (v := ?_) rfl (by kernel_rfl) (fun _ _ _ h => h) (by assumption) (Or.inl ⟨by rfl, ?_⟩) ?_
        rotate_left
        · (intro w hSw; (try dsimp only at hSw); obtain ⟨y0, y1⟩ := hSw; go_simp; try with_reducible rfl)
        simp only [Act.put, List.setIfInBounds_toArray, List.set_cons_zero, List.set_cons_succ]
        refine wpAnyP_take 10 [] (v := ?_) rfl (by kernel_rfl) (fun _ _ _ h => h) (by assumption) (Or.inl ⟨by rfl, ?_⟩) ?_
        rotate_left
        · (intro w hSw; (try dsimp only at hSw); obtain ⟨y0, y1⟩ := hSw; go_simp; try with_reducible rfl)
        simp only [Act.put, List.setIfInBounds_toArray, List.set_cons_zero, List.set_cons_succ]
        refine wpAnyP_one 11 rfl (by kernel_rfl) (fun K hK => ?_)
        rw [if_pos (by rfl)]
        go_wp2_with (fail)
        refine hold_with (by (try dsimp only at hSw); exact KK.out _) (fun hSn => ?_)
        clear hSw; have hSw := hSn; clear hSn
        refine wpAnyP_one 12 rfl (by kernel_rfl) (fun K hK => ?_)
        rw [if_pos (by rfl)]
        simp only [List.getElem_toArray, List.getElem_cons_succ, List.getElem_cons_zero, Act.put, List.setIfInBounds_toArray, List.set_cons_zero, List.set_cons_succ]
        (refine wp_app_eq _ _ 120 rfl rfl rfl HAP4.out ?_; go_wp2_with (fail))
        refine hold_with (by (try dsimp only at hSw); exact ⟨k0, k3⟩) (fun hSn => ?_)
        clear hSw; have hSw := hSn; clear hSn
        refine wpAnyP_take 13 [14] (v := ?_) rfl (by kernel_rfl) (fun _ _ _ h => h) (by assumption) (Or.inl ⟨by rfl, ?_⟩) ?_
        rotate_left
        · (intro w hSw; (try dsimp only at hSw); obtain ⟨y0, y1⟩ := hSw; go_simp; try with_reducible rfl)
        simp only [Act.put, List.setIfInBounds_toArray, List.set_cons_zero, List.set_cons_succ]
        refine wpAnyP_take 14 [] (v := ?_) rfl (by kernel_rfl) (fun _ _ _ h => h) (by assumption) (Or.inl ⟨by rfl, ?_⟩) ?_
        rotate_left
        · (intro w hSw; (try dsimp only at hSw); obtain ⟨y0, y1⟩ := hSw; go_simp; try with_reducible rfl)
        simp only [Act.put, List.setIfInBounds_toArray, List.set_cons_zero, List.set_cons_succ]
        refine wpAnyP_one 15 rfl (by kernel_rfl) (fun K hK => ?_)
        rw [if_pos (by rfl)]
        go_wp2_with (fail)
        refine ⟨fun hz => (by simp at hz), ?_⟩
        refine wpAnyP_done (by kernel_rfl) ?_ _
        skip
        clear hSw
        go_wp2_with fail
        rw [← HNX.out, ← HWF.out]
        go_roundg l'.length
        case measure => simp
        case rel => exact HF.out
    · have HF := Lib.hid (PumpInv.stop HO.out HS.out HC.out HVA.out E1.out E2.out (pumpF_full hlt) HC1.out)
      go_wp2_with fail
      go_ret
      exact HF.out
end Go.Proofs.Ytkmjpphmciaklaa
namespace Go.Proofs.Ytkmjpphmciaklaa
section
variable {P : Program} {ops : Array Oper} {Q : Exit → Act → World → Prop} {md : Region.Mode} {S : World → Prop} {i0 : Nat}

theorem wpAnyP_firstF {i : Nat} {oi : Oper} {v : Value} (hi : ops[i]? = some oi) (hsel : ∀ (j : Nat) (o : Oper) cs b, ops[j]? = some o → o.op ≠ .select cs b)
    (hQ : ∀ c a w, Q (.panic c) (a.put oi.dst v) w → Q (.panic c) a w) (hne : i ≠ i0) :
    ∀ (fuel : Nat) (listed : Array Bool) (a : Act) (w : World),
      (∀ j oj, ops[j]? = some oj → j ≠ i → listed.getD j true = false → (∀ e ∈ oj.after, Region.binds md e = true → e.on ≠ i) → oi.apart ops oj = true) →
      i ∈ Region.ready md ops listed → YieldsIf P ops (fun _ => True) oi v a → Hold i0 S listed w →
      wpAnyP P md ops Q i0 S fuel (listed.setIfInBounds i true) (a.put oi.dst v) w → wpAnyP P md ops Q i0 S (fuel + 1) listed a w := by
  intro fuel
  have key : ∀ (l : Array Bool), (l.setIfInBounds i true).getD i0 true = l.getD i0 true := fun l => getD_set_ne true hne
  induction fuel with
  | zero =>
    intro listed a w _ hr hy hS H
    refine ⟨fun h => (by rw [h] at hr; cases hr), fun j hj => ?_⟩
    by_cases hji : j = i
    · subst hji; exact hy.wpOp hi trivial ⟨fun hz => hS (by rw [← key]; exact hz), H⟩
    · have h1 := ready_mono hj hji
      rw [H.1] at h1
      cases h1
  | succ fuel ih =>
    intro listed a w hfree hr hy hS H
    refine ⟨fun h => (by rw [h] at hr; cases hr), fun j hj => ?_⟩
    by_cases hji : j = i
    · subst hji; exact hy.wpOp hi trivial ⟨fun hz => hS (by rw [← key]; exact hz), H⟩
    · have hiun := (mem_ready.1 hr).1
      obtain ⟨hjun, oj, hoj, hall⟩ := mem_ready.1 hj
      have hnot : ∀ e ∈ oj.after, Region.binds md e = true → e.on ≠ i := fun e he hb heq => by
        have h1 := hall e he hb
        rw [heq, getD_both hiun] at h1
        cases h1
      have h2 := wpOp_putIf hoj (hfree j oj hoj hji hjun hnot) (fun cs b => hsel i oi cs b hi) (fun cs b => hsel j oj cs b hoj) hQ hy (H.2 j (ready_mono hj hji))
      have hfree' : ∀ k ok, ops[k]? = some ok → k ≠ i → (listed.setIfInBounds j true).getD k true = false →
          (∀ e ∈ ok.after, Region.binds md e = true → e.on ≠ i) → oi.apart ops ok = true := fun k ok hk hki hun hno => by
        refine hfree k ok hk hki ?_ hno
        by_cases hjk : j = k
        · subst hjk; exact hjun
        · rw [getD_set_ne true hjk] at hun; exact hun
      refine wpOp_mono (fun a' w' h3 => ?_) h2
      have hH : Hold i0 S (listed.setIfInBounds j true) w' := fun hz => h3.2.1 (by rw [Array.setIfInBounds_comm _ _ (Ne.symm hji), key]; exact hz)
      refine ⟨hH, ih (listed.setIfInBounds j true) a' w' hfree' (ready_mono hr (Ne.symm hji)) h3.1 hH ?_⟩
      rw [Array.setIfInBounds_comm _ _ hji]
      exact h3.2.2

/-- Take number i first: it yields its value in every world. -/
theorem wpAnyP_takeF (i : Nat) {oi : Oper} {v : Value} {fuel : Nat} {listed : Array Bool} {a : Act} {w : World} (hi : ops[i]? = some oi)
    (hs : (Region.noSelect ops && Region.free md ops listed i && (Region.ready md ops listed).contains i && decide (i ≠ i0)) = true)
    (hQ : ∀ c a w, Q (.panic c) (a.put oi.dst v) w → Q (.panic c) a w) (hS : Hold i0 S listed w) (hy : YieldsIf P ops (fun _ => True) oi v a)
    (h : wpAnyP P md ops Q i0 S fuel (listed.setIfInBounds i true) (a.put oi.dst v) w) : wpAnyP P md ops Q i0 S (fuel + 1) listed a w := by
  simp only [Bool.and_eq_true, decide_eq_true_eq] at hs
  obtain ⟨⟨⟨h1, h2⟩, h3⟩, h4⟩ := hs
  exact wpAnyP_firstF hi (Region.noSelect_spec h1) hQ h4 fuel listed a w (Region.free_spec hi h2) (by simpa using h3) hy hS h
end
end Go.Proofs.Ytkmjpphmciaklaa
