/- Rings of ints: Get, Clear; rows of ints that are read; the law's step. -/
import Derived.Test.YtkmjpphmciaklaaRingI
import Derived.Test.YtkmjpphmciaklaaRef5
import Derived.Test.YtkmjpphmciaklaaPhase2
import Derived.BigQuiet
import Derived.Deep.LoopGhost
import Derived.Deep.DeepCutAuto
import Derived.Deep.CutBlock
namespace Go.Proofs.Ytkmjpphmciaklaa
open Go.RowKit
set_option linter.unusedVariables false
set_option linter.unusedSimpArgs false
attribute [local go_sem ↓] Go.wp_at_zero Go.wp_at_succ

/-- A slice value that reads as these ints; its cells lie in a block of which S holds. -/
def IntS (S : Nat → Prop) (w : World) (v : Value) (d : List Int) : Prop :=
  ∃ A c, v = .slice A d.length c ∧ d.length ≤ c ∧ (A = none → c = 0) ∧ (d ≠ [] → ∃ g o, A = some ⟨g, o, none⟩ ∧ S g ∧ g < w.heap.size ∧ ∀ j : Nat, ∀ u : Int, d[j]? = some u → w.cell? ⟨g, o + j, none⟩ = some (.int .i64 u)) ∧ (∀ x, A = some x → x.spot = none)
theorem IntS.nil (S : Nat → Prop) (w : World) : IntS S w (.slice none 0 0) [] := ⟨none, 0, rfl, Nat.le_refl _, fun _ => rfl, fun h => absurd rfl h, fun x hx => by cases hx⟩
theorem IntS.chg {S : Nat → Prop} {F : List Nat} {w w' : World} {v : Value} {d : List Int} (h : IntS S w v d) (c : Chg F w w') (hF : ∀ g, g < w.heap.size → S g → g ∉ F) : IntS S w' v d := by
  obtain ⟨A, n, rfl, h1, h2, hd, h3⟩ := h
  refine ⟨A, n, rfl, h1, h2, fun hne => ?_, h3⟩
  obtain ⟨g, o, rfl, hs, hg, hc⟩ := hd hne
  exact ⟨g, o, rfl, hs, Nat.lt_of_lt_of_le hg c.size, fun j u hu => (c.cell (p := ⟨g, o + j, none⟩) hg (hF g hg hs)).trans (hc j u hu)⟩
theorem IntS.mono {S S' : Nat → Prop} {w : World} {v : Value} {d : List Int} (h : IntS S w v d) (hS : ∀ g, g < w.heap.size → S g → S' g) : IntS S' w v d := by
  obtain ⟨A, c, rfl, h1, h2, hd, h3⟩ := h
  refine ⟨A, c, rfl, h1, h2, fun hne => ?_, h3⟩
  obtain ⟨g, o, rfl, hs, hg, hc⟩ := hd hne
  exact ⟨g, o, rfl, hS g hg hs, hg, hc⟩
/-- One more behind a row that is full: it lies in a new block. -/
theorem ints_push {S : Nat → Prop} {w : World} {A : Option Addr} {d : List Int} (h : IntS S w (.slice A d.length d.length) d) (x : Int) (hl : d.length ≤ 100000) :
    ∃ v' w', (Builtin.append_ #[23, 23] 23 #[.slice A d.length d.length, .slice (some ⟨w.heap.size, 0, none⟩) 1 1]).run Try.prog (w.alloc (.cells #[.int .i64 x] 3)) = .ok v' w' ∧ IntS (fun b => w.heap.size ≤ b) w' v' (d ++ [x]) ∧ Chg [] w w' := by
  obtain ⟨i0, hi, hz0, hz1, hz2⟩ := info_parts RI.info
  obtain ⟨A', c', he, hc', hA0, hd, hsp⟩ := h
  simp only [Value.slice.injEq] at he
  obtain ⟨rfl, -, rfl⟩ := he
  have hnews : ∀ j v, ([Value.int .i64 x] : List Value)[j]? = some v → (w.alloc (.cells #[.int .i64 x] 3)).cell? ((⟨w.heap.size, 0, none⟩ : Addr).add j) = some v := cell_one_new w (.int .i64 x) 3
  have fin : ∀ cap zs, 1 ≤ cap → d.length + 1 ≤ cap → IntS (fun b => w.heap.size ≤ b) ((w.alloc (.cells #[.int .i64 x] 3)).drew.alloc (.cells ((d.map (Value.int .i64)).toArray ++ #[.int .i64 x] ++ zs) 3)) (.slice (some ⟨(w.alloc (.cells #[.int .i64 x] 3)).heap.size, 0, none⟩) (d.length + 1) cap) (d ++ [x]) := by
    intro cap zs h0 hcap
    refine ⟨some ⟨(w.alloc (.cells #[.int .i64 x] 3)).heap.size, 0, none⟩, cap, by simp, by simpa using hcap, fun hh => (by cases hh), fun _ => ⟨(w.alloc (.cells #[.int .i64 x] 3)).heap.size, 0, rfl, by simp, by simp, fun j u hj => ?_⟩, fun y hy => (by cases hy; rfl)⟩
    have hb := MapKept.heap_alloc (w.alloc (.cells #[.int .i64 x] 3)).drew (.cells ((d.map (Value.int .i64)).toArray ++ #[.int .i64 x] ++ zs) 3)
    have hb1 := hb.1
    have hj2 : (d.map (Value.int .i64) ++ [.int .i64 x])[j]? = some (.int .i64 u) := by
      have : ((d ++ [x]).map (Value.int .i64))[j]? = some (.int .i64 u) := by rw [List.getElem?_map, hj]; rfl
      simpa using this
    have hjl : j < (d.map (Value.int .i64) ++ [Value.int .i64 x]).length := (List.getElem?_eq_some_iff.1 hj2).1
    have e : ((d.map (Value.int .i64)).toArray ++ #[.int .i64 x] ++ zs)[j]? = some (.int .i64 u) := by
      rw [← hj2, ← Array.getElem?_toList]
      simp only [Array.toList_append, List.append_assoc]
      rw [← List.append_assoc, List.getElem?_append_left (by simpa using hjl)]
    have hb2 : ((w.alloc (.cells #[.int .i64 x] 3)).drew.alloc (.cells ((d.map (Value.int .i64)).toArray ++ #[.int .i64 x] ++ zs) 3)).heap[(w.alloc (.cells #[.int .i64 x] 3)).heap.size]? = some (.cells ((d.map (Value.int .i64)).toArray ++ #[.int .i64 x] ++ zs) 3 (0, 0)) := hb1
    simp only [World.cell?, hb2, Nat.zero_add]
    exact e
  cases A with
  | none =>
    have hd0 : d = [] := List.eq_nil_of_length_eq_zero (by rw [hA0 rfl])
    subst hd0
    have hr := run_append_nil (P := Try.prog) (w.alloc (.cells #[.int .i64 x] 3)) 23 23 3 i0 (.int .i64 0) Try.underlying23 hi hz0 ⟨w.heap.size, 0, none⟩ 1 1 [.int .i64 x] (by rw [hz1]; rfl) hnews (by decide) (by decide) (by rw [hz2]; decide)
    have hge := grownCap_ge (w.alloc (.cells #[.int .i64 x] 3)) 1 0 3
    refine ⟨_, _, hr, ?_, ((Chg.refl [] w).alloc _).drew.alloc _⟩
    have h := fin (grownCap (w.alloc (.cells #[.int .i64 x] 3)) 1 0 3) (Builtin.zeroCells (Value.int .i64 0).cells (grownCap (w.alloc (.cells #[.int .i64 x] 3)) 1 0 3 - 1)) hge (by simpa using hge)
    simpa using h
  | some a =>
    have hspot := hsp a rfl
    obtain ⟨ab, ao, asp⟩ := a
    simp only at hspot
    subst hspot
    have hold : ∀ j v, (d.map (Value.int .i64))[j]? = some v → (w.alloc (.cells #[.int .i64 x] 3)).cell? ((⟨ab, ao, none⟩ : Addr).add j) = some v := by
      intro j v hj
      rw [List.getElem?_map] at hj
      cases hu : d[j]? with
      | none => rw [hu] at hj; simp at hj
      | some u =>
        rw [hu] at hj
        simp at hj
        subst hj
        obtain ⟨g, o, e, _, hg, hc⟩ := hd (by intro e; rw [e] at hu; simp at hu)
        simp only [Option.some.injEq, Addr.mk.injEq] at e
        obtain ⟨rfl, rfl, -⟩ := e
        rw [Go.WideShapes.add_plain]
        exact (((Chg.refl [] w).alloc _).cell (p := ⟨ab, ao + j, none⟩) hg (by simp)).trans (hc j u hu)
    have hr := run_append_grow (P := Try.prog) (w.alloc (.cells #[.int .i64 x] 3)) 23 23 3 i0 (.int .i64 0) Try.underlying23 hi hz0 ⟨ab, ao, none⟩ d.length d.length (d.map (Value.int .i64)) (by rw [hz1]; simp) hold ⟨w.heap.size, 0, none⟩ 1 1 [.int .i64 x] (by rw [hz1]; rfl) hnews (by omega) (by omega) (growslice_fits (by omega) (by rw [hz2]; omega))
    have hge := grownCap_ge (w.alloc (.cells #[.int .i64 x] 3)) (d.length + 1) d.length 3
    exact ⟨_, _, hr, fin _ _ (by omega) hge, ((Chg.refl [] w).alloc _).drew.alloc _⟩

namespace RI
set_option maxRecDepth 100000 in
set_option maxHeartbeats 1000000 in
theorem get_some (w : World) (p g N fr : Nat) (l : List Value) (i : Nat) (x : Int) (h : Ring w p g N fr l) (hx : l[i]? = some (.int .i64 x)) :
    Calls Try.prog 50 #[.pointer (some ⟨p, 0, none⟩), .int .i64 (i : Int)] w fun e w' => e = .returned (.tuple #[.int .i64 x, .bool true]) ∧ ∃ n, w' = w.drewN n := by
  have hil : i < l.length := (List.getElem?_eq_some_iff.1 hx).1
  have hfit := h.fits
  have hsm := h.small
  have hhd := h.head
  obtain ⟨c0, c1, c2, _⟩ := h.str.three
  have CT : ∀ n, Calls Try.prog 87 #[.pointer (some ⟨p, 0, none⟩), .int .i64 (i : Int)] (w.drewN n) fun e w' => e = .returned (.int .i64 ((fr + i) % N : Nat)) ∧ ∃ m, w' = (w.drewN n).drewN m := fun n =>
    at_any (w.drewN n) p g N fr l.length i (h.str.chg ((Chg.refl [] w).drewN n) (by simp)) (by omega) hsm (by omega) (by omega)
  have hce := h.at hx
  obtain ⟨k, hk⟩ : ∃ k, k = (fr + i) % N := ⟨_, rfl⟩
  rw [← hk] at CT hce
  have hkN : k < N := by rw [hk]; exact Nat.mod_lt _ (by omega)
  have HCT := Lib.hid CT
  have hi0 : ¬ (i : Int) < 0 := by omega
  have hi1 : ¬ (l.length : Int) ≤ (i : Int) := by omega
  have hk0 : (0 : Int) ≤ (k : Int) := by omega
  have hk1 : (k : Int) < (N : Int) := by omega
  clear h hx CT hk
  go_enter Try.func50, Try.ntmps50
  go_upto_region 4 with (fail)
  go_quiet ((go_at_call 87; exact Calls.quiet_of (HCT.out _)))
  go_wp2_with fail
  go_ret2
  exact ⟨rfl, _, rfl⟩
set_option maxRecDepth 100000 in
set_option maxHeartbeats 1000000 in
theorem get_none (w : World) (p g N fr : Nat) (l : List Value) (i : Int) (h : Ring w p g N fr l) (hx : i < 0 ∨ (l.length : Int) ≤ i) :
    Calls Try.prog 50 #[.pointer (some ⟨p, 0, none⟩), .int .i64 i] w fun e w' => e = .returned (.tuple #[.int .i64 0, .bool false]) ∧ w = w' := by
  obtain ⟨c0, c1, c2, _⟩ := h.str.three
  clear h
  rcases Int.lt_or_le i 0 with h0 | h0
  · go_enter Try.func50, Try.ntmps50
    go_wp2_with fail
    go_ret2
    exact ⟨rfl, rfl⟩
  · have h1 : (l.length : Int) ≤ i := by omega
    have h2 : ¬ i < 0 := by omega
    go_enter Try.func50, Try.ntmps50
    go_wp2_with fail
    go_ret2
    exact ⟨rfl, rfl⟩
set_option maxRecDepth 100000 in
set_option maxHeartbeats 1000000 in
theorem clear_any (w : World) (p g N fr : Nat) (l : List Value) (h : Ring w p g N fr l) :
    Calls Try.prog 51 #[.pointer (some ⟨p, 0, none⟩)] w fun e w' => (∃ v, e = .returned v) ∧ (∃ fr', Ring w' p g N fr' []) ∧ Chg [p, g] w w' := by
  have H := Lib.hid h
  clear h
  go_enter Try.func51, Try.ntmps51
  go_wp2_with fail
  go_loopg [] l.length (fun n wr => ∃ l' fr', n = l'.length ∧ Ring wr p g N fr' l' ∧ Chg [p, g] w wr)
  case atStart => exact ⟨l, fr, rfl, H.out, Chg.refl _ _⟩
  case round =>
    obtain ⟨w9, hw9⟩ : ∃ w9, w9 = wr := ⟨_, rfl⟩
    subst hw9
    obtain ⟨l', fr', rfl, hr, hc⟩ := hrel
    obtain ⟨c0, c1, c2, _⟩ := hr.str.three
    have HC := Lib.hid hc
    cases l' with
    | nil =>
      have HR := Lib.hid hr
      clear hr hc c0 c1
      simp only [List.length_nil] at c2
      go_wp2_with fail
      go_end0
      exact ⟨⟨_, rfl⟩, ⟨_, HR.out⟩, HC.out⟩
    | cons x l' =>
      have CT := Lib.hid (pop_some w9 p g N fr' x l' hr)
      simp only [List.length_cons] at c2
      have hpos : (0 : Int) < ((l'.length + 1 : Nat) : Int) := by omega
      clear hr hc c0 c1
      go_wp2_with fail
      refine CT.out.mono ?_
      rintro e w2 ⟨rfl, hr2, hc2⟩
      have HF := Lib.hid (And.intro hr2 (HC.out.trans hc2))
      clear hr2 hc2 c2 CT
      go_wp2_with fail
      go_roundg l'.length
      case measure => simp
      case rel => exact ⟨l', _, rfl, HF.out⟩
end RI
end Go.Proofs.Ytkmjpphmciaklaa
