/- The sender (catwalk/send): how it lies in memory; New, Push, Window, Air, Waiting. The sender: Push, Pump. -/
import Derived.Test.YtkmjpphmciaklaaJ2
import Derived.Test.YtkmjpphmciaklaaJ3
import Derived.Test.YtkmjpphmciaklaaJ10
namespace Go.Proofs.Ytkmjpphmciaklaa
open Go.RowKit
set_option linter.unusedVariables false
set_option linter.unusedSimpArgs false
attribute [local go_sem ↓] Go.wp_at_zero Go.wp_at_succ

/-- What a sender keeps: the next number, what is under way (number, since when), what waits, the window (how many may be, how many were acked, how many the other end takes), the time (mean, off), how many were given up. -/
structure Snd (α : Type) where
  nx : Int
  air : List (Int × Int)
  wait : List α
  s : Int
  a : Int
  mo : Int
  m : Int
  d : Int
  lost : Int
structure Snd.Ok {α : Type} (x : Snd α) : Prop where
  nx0 : 0 ≤ x.nx
  nx1 : x.nx < 4294967296
  air : x.air.length ≤ 16
  wait : x.wait.length ≤ 16
  win : Win x.s x.a x.mo
  m0 : 8 ≤ x.m
  m1 : x.m ≤ 512
  d0 : 0 ≤ x.d
  d1 : x.d ≤ 259
  keys : ∀ f ∈ x.air, 0 ≤ f.1 ∧ f.1 < 4294967296
  ats : ∀ f ∈ x.air, -1000000000 ≤ f.2 ∧ f.2 ≤ 1000000000
  l0 : 0 ≤ x.lost
  l1 : x.lost ≤ 1000000000

/-- Flights as rows of cells. -/
def fl (l : List (Int × Int)) : List (List Value) := l.map (fun q => [.int .u32 q.1, .int .i64 q.2])
theorem fl_len (l : List (Int × Int)) : (fl l).length = l.length := by simp [fl]
theorem fl_app (l m : List (Int × Int)) : fl (l ++ m) = fl l ++ fl m := by simp [fl]
theorem fl_at {l : List (Int × Int)} {k : Nat} {p : Int × Int} (h : l[k]? = some p) : (fl l)[k]? = some [.int .u32 p.1, .int .i64 p.2] := by simp [fl, h]
theorem Try.info125 : (Try.prog.info? 125).map (fun i => (i.zero, i.size, i.bytes)) = some (some (.agg #[.int .u32 0, .int .i64 0]), 2, 16) := by kernel_rfl
theorem elem125 : Elem Try.prog 120 125 2 16 (.agg #[.int .u32 0, .int .i64 0]) := ⟨Try.underlying120, Try.info125, rfl, by decide, by decide⟩

/-- The sender: block p holds the struct, pr and g the ring of what waits, va is the row of what is under way. -/
structure SndAt (w : World) (B p pr g : Nat) (va : Value) (fr : Nat) (x : Snd Value) : Prop where
  str : At w p 122 [.int .u32 x.nx, va, .pointer (some ⟨pr, 0, none⟩), .int .i64 x.s, .int .i64 x.mo, .int .i64 x.a, .int .i64 x.m, .int .i64 x.d, .int .i64 x.lost]
  air : Own 125 2 w B va (fl x.air)
  ring : RB.Ring w pr g 16 fr x.wait
  hp : B ≤ p
  hpr : B ≤ pr
  hg : B ≤ g

theorem At.nine {w : World} {b T : Nat} {v0 v1 v2 v3 v4 v5 v6 v7 v8 : Value} (h : At w b T [v0, v1, v2, v3, v4, v5, v6, v7, v8]) :
    w.cell? ⟨b, 0, none⟩ = some v0 ∧ w.cell? ⟨b, 1, none⟩ = some v1 ∧ w.cell? ⟨b, 2, none⟩ = some v2 ∧ w.cell? ⟨b, 3, none⟩ = some v3 ∧ w.cell? ⟨b, 4, none⟩ = some v4 ∧ w.cell? ⟨b, 5, none⟩ = some v5 ∧ w.cell? ⟨b, 6, none⟩ = some v6 ∧ w.cell? ⟨b, 7, none⟩ = some v7 ∧ w.cell? ⟨b, 8, none⟩ = some v8 :=
  ⟨by rw [h.cell]; rfl, by rw [h.cell]; rfl, by rw [h.cell]; rfl, by rw [h.cell]; rfl, by rw [h.cell]; rfl, by rw [h.cell]; rfl, by rw [h.cell]; rfl, by rw [h.cell]; rfl, by rw [h.cell]; rfl⟩
theorem RB.Ring.isT {w : World} {p g N fr : Nat} {l : List Value} (h : RB.Ring w p g N fr l) : IsT w p 156 ∧ IsT w g 29 := by
  obtain ⟨cs, hb, _⟩ := h.arr
  exact ⟨h.str.isT, _, _, hb⟩

/-- The blocks of a sender. -/
def sndF (p pr g : Nat) (va : Value) : List Nat := p :: pr :: g :: va.ownBlock.toList
section
variable {w w' : World} {B p pr g fr : Nat} {va : Value} {x : Snd Value}
theorem SndAt.kind (h : SndAt w B p pr g va fr x) : ∀ b ∈ sndF p pr g va, B ≤ b ∧ b < w.heap.size ∧ (IsT w b 122 ∨ IsT w b 156 ∨ IsT w b 29 ∨ IsT w b 125) := by
  intro b hb
  simp only [sndF, List.mem_cons] at hb
  rcases hb with rfl | rfl | rfl | hb
  · exact ⟨h.hp, h.str.lt, .inl h.str.isT⟩
  · exact ⟨h.hpr, h.ring.lt.1, .inr (.inl h.ring.isT.1)⟩
  · exact ⟨h.hg, h.ring.lt.2, .inr (.inr (.inl h.ring.isT.2))⟩
  · have hb' : va.ownBlock = some b := by simpa using hb
    exact ⟨(h.air.lt b hb').1, (h.air.lt b hb').2, .inr (.inr (.inr (h.air.isT hb')))⟩
theorem SndAt.noB (h : SndAt w B p pr g va fr x) : ∀ b ∈ sndF p pr g va, NoB w b := fun b hb => by
  rcases (h.kind b hb).2.2 with k | k | k | k <;> exact k.noB (by decide)
theorem SndAt.chg {F : List Nat} (h : SndAt w B p pr g va fr x) (c : Chg F w w') (hF : ∀ b ∈ F, b ∉ sndF p pr g va) : SndAt w' B p pr g va fr x := by
  refine ⟨h.str.chg c (fun hm => hF p hm (by simp [sndF])), h.air.chg c (fun b hb e => hF b hb (by simp [sndF, e])), h.ring.chg c (fun hm => hF pr hm (by simp [sndF])) (fun hm => hF g hm (by simp [sndF])), h.hp, h.hpr, h.hg⟩
theorem SndAt.keep (h : SndAt w B p pr g va fr x) (c : Chg [] w w') : SndAt w' B p pr g va fr x := h.chg c (fun b hb => by cases hb)
theorem SndAt.pr_ne (h : SndAt w B p pr g va fr x) : p ≠ pr ∧ p ≠ g ∧ pr ≠ g ∧ va.ownBlock ≠ some p ∧ va.ownBlock ≠ some pr ∧ va.ownBlock ≠ some g :=
  ⟨h.str.isT.ne h.ring.isT.1 (by decide), h.str.isT.ne h.ring.isT.2 (by decide), h.ring.isT.1.ne h.ring.isT.2 (by decide), fun e => (h.air.isT e).ne h.str.isT (by decide) rfl, fun e => (h.air.isT e).ne h.ring.isT.1 (by decide) rfl, fun e => (h.air.isT e).ne h.ring.isT.2 (by decide) rfl⟩
end

set_option maxHeartbeats 400000 in
theorem air_any (w : World) (B p pr g : Nat) (va : Value) (fr : Nat) (x : Snd Value) (h : SndAt w B p pr g va fr x) :
    Calls Try.prog 36 #[.pointer (some ⟨p, 0, none⟩)] w fun e w' => e = .returned (.int .i64 x.air.length) ∧ w = w' := by
  obtain ⟨c0, c1, _⟩ := h.str.nine
  obtain ⟨a, c, rfl⟩ := h.air.slice
  rw [fl_len] at c1
  clear h
  go_enter Try.func36, Try.ntmps36
  go_wp2
  go_ret
  exact ⟨rfl, rfl⟩
set_option maxHeartbeats 400000 in
theorem waiting_any (w : World) (B p pr g : Nat) (va : Value) (fr : Nat) (x : Snd Value) (h : SndAt w B p pr g va fr x) :
    Calls Try.prog 37 #[.pointer (some ⟨p, 0, none⟩)] w fun e w' => e = .returned (.int .i64 x.wait.length) ∧ w = w' := by
  obtain ⟨c0, c1, c2, _⟩ := h.str.nine
  have CT := Lib.hid (RB.len_any w pr g 16 fr x.wait h.ring)
  clear h
  go_enter Try.func37, Try.ntmps37
  go_wp2_with fail
  refine CT.out.mono ?_
  rintro e w' ⟨rfl, rfl⟩
  go_wp2_with fail
  go_ret
  exact ⟨rfl, rfl⟩

def NewSnd (first most ticks : Int) (w : World) (e : Ending) (w' : World) : Prop :=
  ∃ p pr g, e = .returned (.pointer (some ⟨p, 0, none⟩)) ∧ SndAt w' w.heap.size p pr g (.slice none 0 0) 0 ⟨first, [], [], (cutZ most 1 16 + 1) / 2, 0, cutZ most 1 16, 8 * cutZ ticks 1 64, 0, 0⟩ ∧ Chg [] w w'
set_option maxRecDepth 100000 in
set_option maxHeartbeats 400000 in
theorem send_new (first most ticks : Int) (w : World) : Calls Try.prog 30 #[.int .u32 first, .int .i64 most, .int .i64 ticks] w (NewSnd first most ticks w) := by
  have C1 := Lib.hid (RB.new_any 16 w)
  have e16 : (min (max (16 : Int) 0) 4096).toNat = 16 := by decide
  rw [e16] at C1
  clear e16
  go_enter Try.func30, Try.ntmps30
  go_wp2_with fail
  refine C1.out.mono ?_
  rintro e w1 ⟨pr, g, rfl, hpr, hg, hR, hc1⟩
  have HR := Lib.hid hR
  have HC1 := Lib.hid hc1
  clear hR hc1
  go_wp2_with fail
  refine (w_new _ _).mono ?_
  rintro e w2 ⟨rfl, hc2⟩
  have HC2 := Lib.hid hc2
  clear hc2
  go_wp2_with fail
  refine (rtt_new _ _).mono ?_
  rintro e w3 ⟨rfl, hc3⟩
  have hc : Chg [] w1 w3 := HC2.out.trans hc3
  have HC := Lib.hid hc
  have hs1 := HC1.out.size
  have hs := hc.size
  clear hc hc3 HC2
  go_wp2_with fail
  go_ret
  have hca : ∀ o, Chg [] w3 (w3.alloc o) := fun o => (Chg.refl _ _).alloc o
  refine ⟨w3.heap.size, pr, g, rfl, ⟨?_, Own.nil _ _ _ _, (HR.out.chg HC.out (by simp) (by simp)).chg (hca _) (by simp) (by simp), by omega, hpr, hg⟩, (HC1.out.trans HC.out).alloc _⟩
  exact At.new w3 122 [_, _, _, _, _, _, _, _, _]

def WindowPost (s mo : Int) (w : World) (e : Ending) (w' : World) : Prop := e = .returned (.tuple #[.int .i64 s, .int .i64 mo]) ∧ Chg [] w w'
set_option maxRecDepth 100000 in
set_option maxHeartbeats 400000 in
theorem window_any (w : World) (B p pr g : Nat) (va : Value) (fr : Nat) (x : Snd Value) (h : SndAt w B p pr g va fr x) :
    Calls Try.prog 35 #[.pointer (some ⟨p, 0, none⟩)] w (WindowPost x.s x.mo w) := by
  have HA := Lib.hid h.str
  clear h
  go_enter Try.func35, Try.ntmps35
  go_wp2_with fail
  refine wp_region_phase 11 (fun w' => At w' p 122 [.int .u32 x.nx, va, .pointer (some ⟨pr, 0, none⟩), .int .i64 x.s, .int .i64 x.mo, .int .i64 x.a, .int .i64 x.m, .int .i64 x.d, .int .i64 x.lost]) (by kernel_rfl) ?_
  refine wpAnyP_with (by exact HA.out.drew) (fun hSw => ?_)
  refine wpAnyP_take 0 [] (v := ?_) rfl (by kernel_rfl) (fun _ _ _ h => h) (by assumption) (Or.inl ⟨by rfl, ?_⟩) ?_
  rotate_left
  · (intro w hSw; (try dsimp only at hSw); obtain ⟨y0, y1, y2, y3, y4, y5, y6, y7, y8⟩ := hSw.nine; go_simp; try with_reducible rfl)
  simp only [Act.put, List.setIfInBounds_toArray, List.set_cons_zero, List.set_cons_succ]
  refine wpAnyP_take 1 [] (v := ?_) rfl (by kernel_rfl) (fun _ _ _ h => h) (by assumption) (Or.inl ⟨by rfl, ?_⟩) ?_
  rotate_left
  · (intro w hSw; (try dsimp only at hSw); obtain ⟨y0, y1, y2, y3, y4, y5, y6, y7, y8⟩ := hSw.nine; go_simp; try with_reducible rfl)
  simp only [Act.put, List.setIfInBounds_toArray, List.set_cons_zero, List.set_cons_succ]
  refine wpAnyP_take 2 [] (v := ?_) rfl (by kernel_rfl) (fun _ _ _ h => h) (by assumption) (Or.inl ⟨by rfl, ?_⟩) ?_
  rotate_left
  · (intro w hSw; (try dsimp only at hSw); obtain ⟨y0, y1, y2, y3, y4, y5, y6, y7, y8⟩ := hSw.nine; go_simp; try with_reducible rfl)
  simp only [Act.put, List.setIfInBounds_toArray, List.set_cons_zero, List.set_cons_succ]
  refine wpAnyP_take 3 [] (v := ?_) rfl (by kernel_rfl) (fun _ _ _ h => h) (by assumption) (Or.inl ⟨by rfl, ?_⟩) ?_
  rotate_left
  · (intro w hSw; (try dsimp only at hSw); obtain ⟨y0, y1, y2, y3, y4, y5, y6, y7, y8⟩ := hSw.nine; go_simp; try with_reducible rfl)
  simp only [Act.put, List.setIfInBounds_toArray, List.set_cons_zero, List.set_cons_succ]
  refine wpAnyP_take 5 [] (v := ?_) rfl (by kernel_rfl) (fun _ _ _ h => h) (by assumption) (Or.inl ⟨by rfl, ?_⟩) ?_
  rotate_left
  · (intro w hSw; (try dsimp only at hSw); obtain ⟨y0, y1, y2, y3, y4, y5, y6, y7, y8⟩ := hSw.nine; go_simp; try with_reducible rfl)
  simp only [Act.put, List.setIfInBounds_toArray, List.set_cons_zero, List.set_cons_succ]
  refine wpAnyP_take 6 [] (v := ?_) rfl (by kernel_rfl) (fun _ _ _ h => h) (by assumption) (Or.inl ⟨by rfl, ?_⟩) ?_
  rotate_left
  · (intro w hSw; (try dsimp only at hSw); obtain ⟨y0, y1, y2, y3, y4, y5, y6, y7, y8⟩ := hSw.nine; go_simp; try with_reducible rfl)
  simp only [Act.put, List.setIfInBounds_toArray, List.set_cons_zero, List.set_cons_succ]
  refine wpAnyP_take 7 [] (v := ?_) rfl (by kernel_rfl) (fun _ _ _ h => h) (by assumption) (Or.inl ⟨by rfl, ?_⟩) ?_
  rotate_left
  · (intro w hSw; (try dsimp only at hSw); obtain ⟨y0, y1, y2, y3, y4, y5, y6, y7, y8⟩ := hSw.nine; go_simp; try with_reducible rfl)
  simp only [Act.put, List.setIfInBounds_toArray, List.set_cons_zero, List.set_cons_succ]
  refine wpAnyP_take 8 [] (v := ?_) rfl (by kernel_rfl) (fun _ _ _ h => h) (by assumption) (Or.inl ⟨by rfl, ?_⟩) ?_
  rotate_left
  · (intro w hSw; (try dsimp only at hSw); obtain ⟨y0, y1, y2, y3, y4, y5, y6, y7, y8⟩ := hSw.nine; go_simp; try with_reducible rfl)
  simp only [Act.put, List.setIfInBounds_toArray, List.set_cons_zero, List.set_cons_succ]
  refine wpAnyP_one 4 rfl (by kernel_rfl) (fun K hK => ?_)
  rw [if_pos (by rfl)]
  go_wp2_with ((refine (w_size _ _ _ _).mono ?_; rintro e w4 ⟨rfl, hc4⟩; have h4 := hSw.chg hc4 (by simp); have HC4 := Lib.hid hc4; clear hc4))
  refine hold_with (by (try dsimp only at hSw); exact h4) (fun hSn => ?_)
  clear hSw; have hSw := hSn; clear hSn
  refine wpAnyP_one 9 rfl (by kernel_rfl) (fun K hK => ?_)
  rw [if_pos (by rfl)]
  go_wp2_with ((refine (w_most _ _ _ _).mono ?_; rintro e w9 ⟨rfl, hc9⟩; have h9 := hSw.chg hc9 (by simp); have HC9 := Lib.hid hc9; clear hc9))
  refine hold_with (by (try dsimp only at hSw); exact h9) (fun hSn => ?_)
  clear hSw; have hSw := hSn; clear hSn
  refine wpAnyP_one 10 rfl (by kernel_rfl) (fun K hK => ?_)
  rw [if_pos (by rfl)]
  go_wp2_with (fail)
  refine hold_with (by (try dsimp only at hSw); exact hSw) (fun hSn => ?_)
  clear hSw; have hSw := hSn; clear hSn
  refine wpAnyP_one 11 rfl (by kernel_rfl) (fun K hK => ?_)
  rw [if_pos (by rfl)]
  go_wp2_with (fail)
  refine ⟨fun hz => (by simp at hz), ?_⟩
  refine wpAnyP_done (by kernel_rfl) ?_ _
  skip
  clear hSw
  go_wp2_with fail
  go_ret2
  exact ⟨rfl, ((Chg.refl [] w).drew.trans HC4.out).trans HC9.out⟩
end Go.Proofs.Ytkmjpphmciaklaa
namespace Go.Proofs.Ytkmjpphmciaklaa
open Go.RowKit
set_option linter.unusedVariables false
set_option linter.unusedSimpArgs false
attribute [local go_sem ↓] Go.wp_at_zero Go.wp_at_succ

def Snd.push {α : Type} (x : Snd α) (v : α) : Snd α := if x.wait.length < 16 then { x with wait := x.wait ++ [v] } else x

def PushSnd (B p pr g : Nat) (va : Value) (fr : Nat) (x : Snd Value) (d : List Int) (w : World) (e : Ending) (w' : World) : Prop :=
  ∃ u, Bytes w' u d ∧ e = .returned (.bool (decide (x.wait.length < 16))) ∧ SndAt w' B p pr g va fr (x.push u) ∧ Chg [pr, g] w w'
set_option maxRecDepth 100000 in
set_option maxHeartbeats 1000000 in
theorem push_any {S : Nat → Prop} (w : World) (B p pr g : Nat) (va : Value) (fr : Nat) (x : Snd Value) (v : Value) (d : List Int) (h : SndAt w B p pr g va fr x) (hv : BytS S w v d) (hl : d.length ≤ 100000) :
    Calls Try.prog 34 #[.pointer (some ⟨p, 0, none⟩), v] w (PushSnd B p pr g va fr x d w) := by
  obtain ⟨i0, hi, hz0, hz1, hz2⟩ := info_parts Try.info5
  obtain ⟨u, w1, happ, hb1, hc1⟩ := bytes_copy (P := Try.prog) (t := 29) (ty := 29) (w := w.drew) Try.underlying29 hi hz0 hz1 hz2 (hv.chg (Chg.refl [] w).drew (fun _ _ _ => by simp)) (by omega)
  obtain ⟨va0, vn0, vc0, rfl⟩ := hv.slice
  obtain ⟨xa, xn, xc, rfl⟩ := hb1.slice
  obtain ⟨c0, c1, c2, _⟩ := h.str.nine
  have hcw : Chg [] w w1 := (Chg.refl [] w).drew.trans hc1
  have h1 := h.keep hcw
  have d2 := h1.str.nine.2.2.1
  have HAPP := Lib.hid happ
  have H1 := Lib.hid h1
  have HB1 := Lib.hid hb1
  have HCW := Lib.hid hcw
  by_cases hlt : x.wait.length < 16
  · have CT := Lib.hid (RB.push_ok w1 pr g 16 fr x.wait xa xn xc h1.ring hlt)
    have hd : decide (x.wait.length < 16) = true := decide_eq_true hlt
    have HL := Lib.hid hlt
    unfold PushSnd
    rw [hd]
    clear h hv happ hb1 hc1 hcw h1 hd hlt hi hz0 hz1 hz2
    go_enter Try.func34, Try.ntmps34
    go_wp2_with fail
    refine wp_region_phase 7 (fun w' => w'.cell? ⟨p, 2, none⟩ = some (.pointer (some ⟨pr, 0, none⟩))) (by kernel_rfl) ?_
    refine wpAnyP_with (by exact c2) (fun hSw => ?_)
    refine wpAnyP_take 0 [] (v := ?_) rfl (by kernel_rfl) (fun _ _ _ h => h) (by assumption) (Or.inl ⟨by rfl, ?_⟩) ?_
    rotate_left
    · (intro w hSw; (try dsimp only at hSw); go_simp; try with_reducible rfl)
    simp only [Act.put, List.setIfInBounds_toArray, List.set_cons_zero, List.set_cons_succ]
    refine wpAnyP_take 1 [] (v := ?_) rfl (by kernel_rfl) (fun _ _ _ h => h) (by assumption) (Or.inl ⟨by rfl, ?_⟩) ?_
    rotate_left
    · (intro w hSw; (try dsimp only at hSw); go_simp; try with_reducible rfl)
    simp only [Act.put, List.setIfInBounds_toArray, List.set_cons_zero, List.set_cons_succ]
    refine wpAnyP_take 2 [] (v := ?_) rfl (by kernel_rfl) (fun _ _ _ h => h) (by assumption) (Or.inl ⟨by rfl, ?_⟩) ?_
    rotate_left
    · (intro w hSw; (try dsimp only at hSw); go_simp; try with_reducible rfl)
    simp only [Act.put, List.setIfInBounds_toArray, List.set_cons_zero, List.set_cons_succ]
    refine wpAnyP_take 3 [] (v := ?_) rfl (by kernel_rfl) (fun _ _ _ h => h) (by assumption) (Or.inl ⟨by rfl, ?_⟩) ?_
    rotate_left
    · (intro w hSw; (try dsimp only at hSw); go_simp; try with_reducible rfl)
    simp only [Act.put, List.setIfInBounds_toArray, List.set_cons_zero, List.set_cons_succ]
    refine wpAnyP_take 4 [] (v := ?_) rfl (by kernel_rfl) (fun _ _ _ h => h) (by assumption) (Or.inl ⟨by rfl, ?_⟩) ?_
    rotate_left
    · (intro w hSw; (try dsimp only at hSw); go_simp; try with_reducible rfl)
    simp only [Act.put, List.setIfInBounds_toArray, List.set_cons_zero, List.set_cons_succ]
    refine wpAnyP_one 5 rfl (by kernel_rfl) (fun K hK => ?_)
    rw [if_pos (by rfl)]
    simp only [List.getElem_toArray, List.getElem_cons_succ, List.getElem_cons_zero, Act.put, List.setIfInBounds_toArray, List.set_cons_zero, List.set_cons_succ]
    (refine wp_app_eq _ _ 29 rfl rfl rfl HAPP.out ?_; go_wp2_with (fail))
    refine hold_with (by (try dsimp only at hSw); exact d2) (fun hSn => ?_)
    clear hSw; have hSw := hSn; clear hSn
    refine wpAnyP_one 6 rfl (by kernel_rfl) (fun K hK => ?_)
    rw [if_pos (by rfl)]
    go_wp2_with ((refine CT.out.mono ?_; rintro e w2 ⟨rfl, hr, hc⟩; have HR := Lib.hid hr; have HC := Lib.hid hc; have d2' : w2.cell? ⟨p, 2, none⟩ = some (.pointer (some ⟨pr, 0, none⟩)) := (hc.cell (p := ⟨p, 2, none⟩) H1.out.str.lt (by simp; exact ⟨H1.out.pr_ne.1, H1.out.pr_ne.2.1⟩)).trans d2; clear hr hc))
    refine hold_with (by (try dsimp only at hSw); exact d2') (fun hSn => ?_)
    clear hSw; have hSw := hSn; clear hSn
    refine wpAnyP_one 7 rfl (by kernel_rfl) (fun K hK => ?_)
    rw [if_pos (by rfl)]
    go_wp2_with (fail)
    refine ⟨fun hz => (by simp at hz), ?_⟩
    refine wpAnyP_done (by kernel_rfl) ?_ _
    skip
    clear hSw
    go_wp2_with fail
    go_ret
    have hne := H1.out.pr_ne
    refine ⟨.slice xa xn xc, HB1.out.chg HC.out (fun b hb => ?_), rfl, ?_, (HCW.out.mono (F' := [pr, g]) (by simp)).trans HC.out⟩
    · simp at hb
      rcases hb with rfl | rfl
      · exact H1.out.ring.isT.1.noB (by decide)
      · exact H1.out.ring.isT.2.noB (by decide)
    · unfold Snd.push
      rw [if_pos HL.out]
      exact ⟨H1.out.str.chg HC.out (by simp; exact ⟨hne.1, hne.2.1⟩), H1.out.air.chg HC.out (by intro b hb; simp at hb; rcases hb with rfl | rfl; exact hne.2.2.2.2.1; exact hne.2.2.2.2.2), HR.out, H1.out.hp, H1.out.hpr, H1.out.hg⟩
  · have hfull : x.wait.length = 16 := by have := h1.ring.fits; omega
    have CT := Lib.hid (RB.push_full w1 pr g 16 fr x.wait (.slice xa xn xc) h1.ring hfull)
    have hd : decide (x.wait.length < 16) = false := decide_eq_false hlt
    have HL := Lib.hid hlt
    unfold PushSnd
    rw [hd]
    clear h hv happ hb1 hc1 hcw h1 hd hlt hi hz0 hz1 hz2 hfull
    go_enter Try.func34, Try.ntmps34
    go_wp2_with fail
    refine wp_region_phase 7 (fun w' => w'.cell? ⟨p, 2, none⟩ = some (.pointer (some ⟨pr, 0, none⟩))) (by kernel_rfl) ?_
    refine wpAnyP_with (by exact c2) (fun hSw => ?_)
    refine wpAnyP_take 0 [] (v := ?_) rfl (by kernel_rfl) (fun _ _ _ h => h) (by assumption) (Or.inl ⟨by rfl, ?_⟩) ?_
    rotate_left
    · (intro w hSw; (try dsimp only at hSw); go_simp; try with_reducible rfl)
    simp only [Act.put, List.setIfInBounds_toArray, List.set_cons_zero, List.set_cons_succ]
    refine wpAnyP_take 1 [] (v := ?_) rfl (by kernel_rfl) (fun _ _ _ h => h) (by assumption) (Or.inl ⟨by rfl, ?_⟩) ?_
    rotate_left
    · (intro w hSw; (try dsimp only at hSw); go_simp; try with_reducible rfl)
    simp only [Act.put, List.setIfInBounds_toArray, List.set_cons_zero, List.set_cons_succ]
    refine wpAnyP_take 2 [] (v := ?_) rfl (by kernel_rfl) (fun _ _ _ h => h) (by assumption) (Or.inl ⟨by rfl, ?_⟩) ?_
    rotate_left
    · (intro w hSw; (try dsimp only at hSw); go_simp; try with_reducible rfl)
    simp only [Act.put, List.setIfInBounds_toArray, List.set_cons_zero, List.set_cons_succ]
    refine wpAnyP_take 3 [] (v := ?_) rfl (by kernel_rfl) (fun _ _ _ h => h) (by assumption) (Or.inl ⟨by rfl, ?_⟩) ?_
    rotate_left
    · (intro w hSw; (try dsimp only at hSw); go_simp; try with_reducible rfl)
    simp only [Act.put, List.setIfInBounds_toArray, List.set_cons_zero, List.set_cons_succ]
    refine wpAnyP_take 4 [] (v := ?_) rfl (by kernel_rfl) (fun _ _ _ h => h) (by assumption) (Or.inl ⟨by rfl, ?_⟩) ?_
    rotate_left
    · (intro w hSw; (try dsimp only at hSw); go_simp; try with_reducible rfl)
    simp only [Act.put, List.setIfInBounds_toArray, List.set_cons_zero, List.set_cons_succ]
    refine wpAnyP_one 5 rfl (by kernel_rfl) (fun K hK => ?_)
    rw [if_pos (by rfl)]
    simp only [List.getElem_toArray, List.getElem_cons_succ, List.getElem_cons_zero, Act.put, List.setIfInBounds_toArray, List.set_cons_zero, List.set_cons_succ]
    (refine wp_app_eq _ _ 29 rfl rfl rfl HAPP.out ?_; go_wp2_with (fail))
    refine hold_with (by (try dsimp only at hSw); exact d2) (fun hSn => ?_)
    clear hSw; have hSw := hSn; clear hSn
    refine wpAnyP_one 6 rfl (by kernel_rfl) (fun K hK => ?_)
    rw [if_pos (by rfl)]
    go_wp2_with ((refine CT.out.mono ?_; rintro e w2 ⟨rfl, hw2⟩; have HC : Hid (Chg [] w1 w2) := Lib.hid (by obtain ⟨n2, rfl⟩ := hw2; exact (Chg.refl _ _).drewN _); have d2' : w2.cell? ⟨p, 2, none⟩ = some (.pointer (some ⟨pr, 0, none⟩)) := (HC.out.cell (p := ⟨p, 2, none⟩) H1.out.str.lt (by simp)).trans d2; clear hw2))
    refine hold_with (by (try dsimp only at hSw); exact d2') (fun hSn => ?_)
    clear hSw; have hSw := hSn; clear hSn
    refine wpAnyP_one 7 rfl (by kernel_rfl) (fun K hK => ?_)
    rw [if_pos (by rfl)]
    go_wp2_with (fail)
    refine ⟨fun hz => (by simp at hz), ?_⟩
    refine wpAnyP_done (by kernel_rfl) ?_ _
    skip
    clear hSw
    go_wp2_with fail
    go_ret
    refine ⟨.slice xa xn xc, HB1.out.chg HC.out (by simp), rfl, ?_, (HCW.out.trans HC.out).mono (by simp)⟩
    unfold Snd.push
    rw [if_neg HL.out]
    exact H1.out.keep HC.out

/-- Those that may be sent: they, the next number, what is under way then, what waits. -/
def pumpF {α : Type} (s now : Int) : Int → List (Int × Int) → List α → List (Int × α) × Int × List (Int × Int) × List α
  | nx, air, [] => ([], nx, air, [])
  | nx, air, v :: l => if (air.length : Int) < s then ((nx, v) :: (pumpF s now ((nx + 1) % 4294967296) (air ++ [(nx, now)]) l).1, (pumpF s now ((nx + 1) % 4294967296) (air ++ [(nx, now)]) l).2) else ([], nx, air, v :: l)
theorem pumpF_full {α : Type} {s now nx : Int} {air : List (Int × Int)} {l : List α} (h : ¬ (air.length : Int) < s) : pumpF s now nx air l = ([], nx, air, l) := by
  cases l with
  | nil => rfl
  | cons v l => unfold pumpF; rw [if_neg h]
theorem pumpF_go {α : Type} {s now nx : Int} {air : List (Int × Int)} {v : α} {l : List α} (h : (air.length : Int) < s) :
    pumpF s now nx air (v :: l) = ((nx, v) :: (pumpF s now ((nx + 1) % 4294967296) (air ++ [(nx, now)]) l).1, (pumpF s now ((nx + 1) % 4294967296) (air ++ [(nx, now)]) l).2) := by
  conv => lhs; unfold pumpF
  rw [if_pos h]
def Snd.pump {α : Type} (x : Snd α) (now : Int) : Snd α × List (Int × α) :=
  ({ x with nx := (pumpF x.s now x.nx x.air x.wait).2.1, air := (pumpF x.s now x.nx x.air x.wait).2.2.1, wait := (pumpF x.s now x.nx x.air x.wait).2.2.2 }, (pumpF x.s now x.nx x.air x.wait).1)
end Go.Proofs.Ytkmjpphmciaklaa
