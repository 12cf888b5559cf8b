/- Contracts of catwalk/ring over this seat's translation: rows of rows of bytes. -/
import Derived.Test.YtkmjpphmciaklaaRows
import Derived.Test.YtkmjpphmciaklaaJ1
import Derived.Deep.QuietTactic
import Derived.BigQuiet
import Derived.Deep.DrawnRows
import Derived.Deep.LoopGhost
import Derived.Deep.DeepCutAuto
import Derived.IntWalk
import Derived.MapKept
import Derived.Laws.OwnMore
import Derived.Laws.MakeOwn
namespace Go.Proofs.Ytkmjpphmciaklaa
open Go.RowKit
set_option linter.unusedVariables false
set_option linter.unusedSimpArgs false
attribute [local go_sem ↓] Go.wp_at_zero Go.wp_at_succ
namespace RB

def Form (v : Value) : Prop := ∃ (xa : Option Addr) (xn xc : Nat), v = .slice xa xn xc
/-- A ring: block p holds the struct, block g the N places; from fr on it holds l. -/
structure Ring (w : World) (p g N fr : Nat) (l : List Value) : Prop where
  str : At w p 156 [.slice (some ⟨g, 0, none⟩) N N, .int .i64 fr, .int .i64 l.length]
  arr : ∃ cs : Array Value, w.heap[g]? = some (.cells cs 29 (0, 0)) ∧ cs.size = N ∧ (∀ i x, l[i]? = some x → cs[(fr + i) % N]? = some x) ∧ ∀ j, j < N → ∃ x, cs[j]? = some x ∧ Form x
  small : N ≤ 4096
  fits : l.length ≤ N
  head : fr < N ∨ (N = 0 ∧ fr = 0)
  form : ∀ x ∈ l, Form x
section
variable {w w' : World} {p g N fr : Nat} {l : List Value}
theorem Ring.ne (h : Ring w p g N fr l) : p ≠ g := by
  rintro rfl
  obtain ⟨cs, hb, _⟩ := h.arr
  have hs := h.str
  unfold At at hs
  rw [hb] at hs
  simp at hs
theorem Ring.lt (h : Ring w p g N fr l) : p < w.heap.size ∧ g < w.heap.size := by
  obtain ⟨cs, hb, _⟩ := h.arr
  exact ⟨h.str.lt, (Array.getElem?_eq_some_iff.1 hb).1⟩
theorem Ring.chg {F : List Nat} (h : Ring w p g N fr l) (c : Chg F w w') (hp : p ∉ F) (hg : g ∉ F) : Ring w' p g N fr l := by
  obtain ⟨cs, hb, r⟩ := h.arr
  exact ⟨h.str.chg c hp, ⟨cs, by rw [c.block g h.lt.2 hg]; exact hb, r⟩, h.small, h.fits, h.head, h.form⟩
theorem Ring.cell (h : Ring w p g N fr l) {j : Nat} (hj : j < N) : ∃ x, w.cell? ⟨g, j, none⟩ = some x ∧ w.frozen? ⟨g, j, none⟩ = false ∧ Form x := by
  obtain ⟨cs, hb, hs, hc, hf⟩ := h.arr
  obtain ⟨x, hx, hfx⟩ := hf j hj
  exact ⟨x, by simp [World.cell?, hb, hx], by simp [World.frozen?, hb], hfx⟩
theorem Ring.at (h : Ring w p g N fr l) {i : Nat} {x : Value} (hi : l[i]? = some x) : w.cell? ⟨g, (fr + i) % N, none⟩ = some x := by
  obtain ⟨cs, hb, hs, hc, hf⟩ := h.arr
  simp [World.cell?, hb, hc i x hi]
/-- One more behind. -/
theorem Ring.push (h : Ring w p g N fr l) (hl : l.length < N) {x : Value} (hx : Form x) :
    Ring ((w.setCell ⟨g, (fr + l.length) % N, none⟩ x).setCell ⟨p, 2, none⟩ (.int .i64 (l.length + 1 : Nat))) p g N fr (l ++ [x]) := by
  have hne := h.ne
  obtain ⟨cs, hb, hs, hc, hf⟩ := h.arr
  have hN : 0 < N := by omega
  refine ⟨?_, ⟨cs.setIfInBounds ((fr + l.length) % N) x, ?_, by simp [hs], fun i y hi => ?_, fun j hj => ?_⟩, h.small, by simp; omega, h.head, fun y hy => ?_⟩
  · have h1 := (h.str.far (a := ⟨g, (fr + l.length) % N, none⟩) hne x).set 2 (.int .i64 (l.length + 1 : Nat))
    simpa using h1
  · rw [Below.heap_setCell _ _ _ _ (by exact fun e => hne e.symm)]
    simp [World.setCell, Array.getElem?_modify, hb]
  · by_cases e : i < l.length
    · have hi' : l[i]? = some y := by rw [List.getElem?_append_left e] at hi; exact hi
      have hd : (fr + l.length) % N ≠ (fr + i) % N := by
        intro he
        have hfr : fr < N := by rcases h.head with h1 | ⟨h1, _⟩ <;> omega
        have h1 : (fr + l.length) % N = if fr + l.length < N then fr + l.length else fr + l.length - N := by
          split
          · exact Nat.mod_eq_of_lt (by assumption)
          · rw [Nat.mod_eq_sub_mod (by omega), Nat.mod_eq_of_lt (by omega)]
        have h2 : (fr + i) % N = if fr + i < N then fr + i else fr + i - N := by
          split
          · exact Nat.mod_eq_of_lt (by assumption)
          · rw [Nat.mod_eq_sub_mod (by omega), Nat.mod_eq_of_lt (by omega)]
        rw [h1, h2] at he
        split at he <;> split at he <;> omega
      rw [Array.getElem?_setIfInBounds_ne hd]
      exact hc i y hi'
    · have hil : i < (l ++ [x]).length := (List.getElem?_eq_some_iff.1 hi).1
      simp at hil
      obtain rfl : i = l.length := by omega
      obtain rfl : x = y := by simpa using hi
      rw [Array.getElem?_setIfInBounds_self_of_lt (by rw [hs]; exact Nat.mod_lt _ hN)]
  · by_cases e : (fr + l.length) % N = j
    · subst e
      exact ⟨x, by rw [Array.getElem?_setIfInBounds_self_of_lt (by rw [hs]; exact hj)], hx⟩
    · obtain ⟨y, hy, hfy⟩ := hf j hj
      exact ⟨y, by rw [Array.getElem?_setIfInBounds_ne e]; exact hy, hfy⟩
  · rcases List.mem_append.1 hy with hy | hy
    · exact h.form y hy
    · simp at hy; subst hy; exact hx
/-- The first one goes. -/
theorem Ring.pop {x : Value} {w2 : World} (h : Ring w p g N fr (x :: l)) {z : Value} (hz : Form z) (hcw : Chg [] (w.setCell ⟨g, fr, none⟩ z) w2) :
    Ring ((w2.setCell ⟨p, 1, none⟩ (.int .i64 ((fr + 1) % N : Nat))).setCell ⟨p, 2, none⟩ (.int .i64 (l.length : Nat))) p g N ((fr + 1) % N) l := by
  have hne := h.ne
  have hlt := h.lt
  obtain ⟨cs, hb, hs, hc, hf⟩ := h.arr
  have hfit := h.fits
  simp at hfit
  have hN : 0 < N := by omega
  have hfr : fr < N := by rcases h.head with h1 | ⟨h1, _⟩ <;> omega
  have hg2 : w2.heap[g]? = some (.cells (cs.setIfInBounds fr z) 29 (0, 0)) := by
    rw [hcw.block g (by simp [World.setCell]; exact hlt.2) (by simp)]
    simp [World.setCell, Array.getElem?_modify, hb]
  refine ⟨?_, ⟨cs.setIfInBounds fr z, ?_, by simp [hs], fun i y hi => ?_, fun j hj => ?_⟩, h.small, by omega, .inl (Nat.mod_lt _ hN), fun y hy => h.form y (List.mem_cons_of_mem _ hy)⟩
  · have h1 := (((h.str.far (a := ⟨g, fr, none⟩) hne z).chg hcw (by simp)).set 1 (.int .i64 ((fr + 1) % N : Nat))).set 2 (.int .i64 (l.length : Nat))
    simpa using h1
  · rw [Below.heap_setCell _ _ _ _ (by exact fun e => hne e.symm), Below.heap_setCell _ _ _ _ (by exact fun e => hne e.symm)]
    exact hg2
  · have hil : i < l.length := (List.getElem?_eq_some_iff.1 hi).1
    have h1 := hc (i + 1) y (by simpa using hi)
    have e : ((fr + 1) % N + i) % N = (fr + (i + 1)) % N := by rw [Nat.mod_add_mod]; congr 1; omega
    rw [e]
    have hd : fr ≠ (fr + (i + 1)) % N := by
      intro he
      have h2 : (fr + (i + 1)) % N = if fr + (i + 1) < N then fr + (i + 1) else fr + (i + 1) - N := by
        split
        · exact Nat.mod_eq_of_lt (by assumption)
        · rw [Nat.mod_eq_sub_mod (by omega), Nat.mod_eq_of_lt (by omega)]
      rw [h2] at he
      split at he <;> omega
    rw [Array.getElem?_setIfInBounds_ne hd]
    exact h1
  · by_cases e : fr = j
    · subst e
      exact ⟨z, by rw [Array.getElem?_setIfInBounds_self_of_lt (by rw [hs]; exact hj)], hz⟩
    · obtain ⟨y, hy, hfy⟩ := hf j hj
      exact ⟨y, by rw [Array.getElem?_setIfInBounds_ne e]; exact hy, hfy⟩
end

set_option maxHeartbeats 400000 in
theorem len_any (w : World) (p g N fr : Nat) (l : List Value) (h : Ring w p g N fr l) :
    Calls Try.prog 70 #[.pointer (some ⟨p, 0, none⟩)] w fun e w' => e = .returned (.int .i64 l.length) ∧ w = w' := by
  obtain ⟨c0, c1, c2, _⟩ := h.str.three
  clear h
  go_enter Try.func70, Try.ntmps70
  go_wp2
  go_ret
  exact ⟨rfl, rfl⟩

set_option maxHeartbeats 400000 in
theorem room_any (w : World) (p g N fr : Nat) (l : List Value) (h : Ring w p g N fr l) :
    Calls Try.prog 91 #[.pointer (some ⟨p, 0, none⟩)] w fun e w' => e = .returned (.int .i64 (N - l.length : Nat)) ∧ ∃ n, w' = w.drewN n := by
  obtain ⟨c0, c1, c2, _⟩ := h.str.three
  have h1 := h.small
  have h2 := h.fits
  clear h
  have e : ((N - l.length : Nat) : Int) = (N : Int) - (l.length : Nat) := by omega
  have hw : IntKind.i64.wrap ((N : Int) - (l.length : Nat)) = (N : Int) - (l.length : Nat) := IntWalk.i64_in _ (by omega)
  rw [e]
  clear e
  go_enter Try.func91, Try.ntmps91
  go_wp2
  go_quiet (fail)
  go_wp2
  go_ret
  exact ⟨rfl, _, rfl⟩

set_option maxHeartbeats 400000 in
theorem at_any (w : World) (p g N fr n : Nat) (i : Nat) (h : At w p 156 [.slice (some ⟨g, 0, none⟩) N N, .int .i64 fr, .int .i64 n]) (hN : 0 < N) (h1 : N ≤ 4096) (h3 : fr ≤ 4096) (hi : i ≤ 8192) :
    Calls Try.prog 90 #[.pointer (some ⟨p, 0, none⟩), .int .i64 i] w fun e w' => e = .returned (.int .i64 ((fr + i) % N : Nat)) ∧ ∃ n, w' = w.drewN n := by
  obtain ⟨c0, c1, c2, _⟩ := h.three
  clear h
  have e : (((fr + i) % N : Nat) : Int) = ((fr : Int) + (i : Nat)).tmod (N : Nat) := by
    rw [Int.tmod_eq_emod_of_nonneg (by omega)]; push_cast; rfl
  have hw : IntKind.i64.wrap ((fr : Int) + (i : Nat)) = (fr : Int) + (i : Nat) := IntWalk.i64_in _ (by omega)
  have hn0 : ((N : Int) == 0) = false := beq_eq_false_iff_ne.2 (by omega)
  have hw2 : IntKind.i64.wrap (((fr : Int) + (i : Nat)).tmod (N : Nat)) = ((fr : Int) + (i : Nat)).tmod (N : Nat) := by
    rw [← e]; exact IntWalk.i64_in _ (by have := Nat.mod_lt (fr + i) hN; omega)
  rw [e]
  clear e
  go_enter Try.func90, Try.ntmps90
  go_wp2
  go_quiet (fail)
  go_wp2
  go_ret
  exact ⟨rfl, _, rfl⟩

theorem info : (Try.prog.info? 29).map (fun i => (i.zero, i.size, i.bytes)) = some (some (.slice none 0 0), 1, 24) := by kernel_rfl
/-- The array of a new ring. -/
theorem made (n : Nat) (z : Int) (hz : z = n) (hn : n ≤ 4096) (w : World) :
    ∃ w1, (Instr.makeSlice 63 (.int .i64 z) (.int .i64 z)).run Try.prog w = .ok (.slice (some ⟨w.heap.size, 0, none⟩) n n) w1 ∧ (∃ cs : Array Value, w1.heap[w.heap.size]? = some (.cells cs 29 (0, 0)) ∧ cs.size = n ∧ ∀ j, j < n → ∃ x, cs[j]? = some x ∧ Form x) ∧ Chg [] w w1 ∧ w1.heap.size = w.heap.size + 1 := by
  obtain ⟨i, hi, hz0, hz1, hz2⟩ := info_parts info
  subst hz
  have hr := run_make (P := Try.prog) w 63 29 i (.slice none 0 0) Try.underlying63 hi hz0 .i64 .i64 n n (by omega) (by omega) (by rw [hz2]; omega) (by omega)
  simp only [Int.toNat_natCast, hz1, Nat.mul_one] at hr
  refine ⟨_, hr, ⟨_, (MapKept.heap_alloc w _).1, size_madeCells _ _, fun j hj => ⟨.slice none 0 0, ?_, ?_⟩⟩, (Chg.refl _ _).alloc _, by simp⟩
  · have h2 := toList_madeCells_one (.slice none 0 0) n
    have h3 : (madeCells #[Value.slice none 0 0] n)[j]? = (List.replicate n (Value.slice none 0 0))[j]? := by rw [← h2, Array.getElem?_toList]
    refine h3.trans ?_
    rw [List.getElem?_replicate, if_pos hj]
  · exact ⟨none, 0, 0, rfl⟩

def NewPost (n : Nat) (w : World) (e : Ending) (w' : World) : Prop := ∃ p g, e = .returned (.pointer (some ⟨p, 0, none⟩)) ∧ w.heap.size ≤ p ∧ w.heap.size ≤ g ∧ Ring w' p g n 0 [] ∧ Chg [] w w'
set_option maxRecDepth 100000 in
set_option maxHeartbeats 1000000 in
theorem new_any (most : Int) (w : World) : Calls Try.prog 58 #[.int .i64 most] w (NewPost (min (max most 0) 4096).toNat w) := by
  obtain ⟨n, hn⟩ : ∃ n, n = (min (max most 0) 4096).toNat := ⟨_, rfl⟩
  rw [← hn]
  have hn2 : n ≤ 4096 := by omega
  obtain ⟨w1, hmk, hcs, hc, hsz⟩ := made n _ (show min (max most 0) 4096 = (n : Int) by omega) hn2 w
  have hfin : NewPost n w (.returned (.pointer (some ⟨w1.heap.size, 0, none⟩))) (w1.alloc (.cells #[.slice (some ⟨w.heap.size, 0, none⟩) n n, .int .i64 0, .int .i64 0] 156)) := by
    have hca : Chg [] w1 (w1.alloc (.cells #[.slice (some ⟨w.heap.size, 0, none⟩) n n, .int .i64 0, .int .i64 0] 156)) := (Chg.refl _ _).alloc _
    obtain ⟨cs, h1, h2, h3⟩ := hcs
    refine ⟨w1.heap.size, w.heap.size, rfl, hc.size, Nat.le_refl _, ⟨At.new w1 156 [.slice (some ⟨w.heap.size, 0, none⟩) n n, .int .i64 0, .int .i64 0], ⟨cs, ?_, h2, fun i x hi => by simp at hi, h3⟩, hn2, by simp, by omega, fun x hx => by cases hx⟩, hc.trans hca⟩
    rw [hca.block _ (by omega) (by simp)]
    exact h1
  have HF := Lib.hid hfin
  clear hcs hc hfin hsz
  by_cases q0 : most < 0
  · have e : min (max most 0) 4096 = 0 := by omega
    rw [e] at hmk
    clear e hn
    go_enter Try.func58, Try.ntmps58
    go_wp2
    go_ret
    exact HF.out
  · by_cases q1 : 4096 < most
    · have e : min (max most 0) 4096 = 4096 := by omega
      rw [e] at hmk
      clear e hn
      go_enter Try.func58, Try.ntmps58
      go_wp2
      go_ret
      exact HF.out
    · have e : min (max most 0) 4096 = most := by omega
      rw [e] at hmk
      clear e hn
      go_enter Try.func58, Try.ntmps58
      go_wp2
      go_ret
      exact HF.out

set_option maxHeartbeats 400000 in
theorem push_full (w : World) (p g N fr : Nat) (l : List Value) (v : Value) (h : Ring w p g N fr l) (hl : l.length = N) :
    Calls Try.prog 68 #[.pointer (some ⟨p, 0, none⟩), v] w fun e w' => e = .returned (.bool false) ∧ ∃ n, w' = w.drewN n := by
  have CT := Lib.hid (room_any w p g N fr l h)
  have e : N - l.length = 0 := by omega
  rw [e] at CT
  clear h e
  go_enter Try.func68, Try.ntmps68
  go_wp2_with fail
  refine CT.out.mono ?_
  rintro e w' ⟨rfl, hw⟩
  have HW := Lib.hid hw
  clear hw
  go_wp2_with fail
  go_ret
  exact ⟨rfl, HW.out⟩

def PushPost (p g N fr : Nat) (l : List Value) (v : Value) (w : World) (e : Ending) (w' : World) : Prop := e = .returned (.bool true) ∧ Ring w' p g N fr (l ++ [v]) ∧ Chg [p, g] w w'
set_option maxRecDepth 100000 in
set_option maxHeartbeats 1000000 in
theorem push_ok (w : World) (p g N fr : Nat) (l : List Value) (xa : Option Addr) (xn xc : Nat) (h : Ring w p g N fr l) (hl : l.length < N) :
    Calls Try.prog 68 #[.pointer (some ⟨p, 0, none⟩), .slice xa xn xc] w (PushPost p g N fr l (.slice xa xn xc) w) := by
  have CT := Lib.hid (room_any w p g N fr l h)
  have hn0 : (((N - l.length : Nat) : Int) == 0) = false := beq_eq_false_iff_ne.2 (by omega)
  have H := Lib.hid h
  have hsm := h.small
  have hfr : fr ≤ 4096 := by rcases h.head with h | ⟨_, h⟩ <;> omega
  have hne := h.ne
  clear h
  go_enter Try.func68, Try.ntmps68
  go_wp2_with fail
  refine CT.out.mono ?_
  rintro e w1 ⟨rfl, n1, hw1⟩
  have hc1 : Chg [] w w1 := by rw [hw1]; exact (Chg.refl _ _).drewN _
  have hr1 : Ring w1.drew p g N fr l := H.out.chg hc1.drew (by simp) (by simp)
  obtain ⟨k, hk⟩ : ∃ k, k = (fr + l.length) % N := ⟨_, rfl⟩
  have hkN : k < N := by rw [hk]; exact Nat.mod_lt _ (by omega)
  have CA := Lib.hid (at_any w1.drew p g N fr l.length l.length hr1.str (by omega) hsm hfr (by omega))
  rw [← hk] at CA
  have hk1 : (0 : Int) ≤ (k : Nat) := by omega
  have hk2 : ((k : Nat) : Int) < (N : Nat) := by omega
  obtain ⟨d0, d1, d2, _⟩ := hr1.str.three
  have R1 := Lib.hid hr1
  have C1 := Lib.hid hc1
  have HK := Lib.hid hk
  clear hw1 hc1 hr1 hk CT
  go_upto_region 3 with (fail)
  refine wp_region_phase 12 (fun w' => w'.cell? ⟨p, 0, none⟩ = some (.slice (some ⟨g, 0, none⟩) N N) ∧ w'.cell? ⟨p, 2, none⟩ = some (.int .i64 l.length)) (by kernel_rfl) ?_
  refine wpAnyP_with (by exact ⟨d0, d2⟩) (fun hSw => ?_)
  refine wpAnyP_take 0 [] (v := ?_) rfl (by kernel_rfl) (fun _ _ _ h => h) (by assumption) (Or.inl ⟨by rfl, ?_⟩) ?_
  rotate_left
  · (intro w hSw; (try dsimp only at hSw); obtain ⟨y0, y1⟩ := hSw; go_simp; try with_reducible rfl)
  simp only [Act.put, List.setIfInBounds_toArray, List.set_cons_zero, List.set_cons_succ]
  refine wpAnyP_take 1 [] (v := ?_) rfl (by kernel_rfl) (fun _ _ _ h => h) (by assumption) (Or.inl ⟨by rfl, ?_⟩) ?_
  rotate_left
  · (intro w hSw; (try dsimp only at hSw); obtain ⟨y0, y1⟩ := hSw; go_simp; try with_reducible rfl)
  simp only [Act.put, List.setIfInBounds_toArray, List.set_cons_zero, List.set_cons_succ]
  refine wpAnyP_take 2 [] (v := ?_) rfl (by kernel_rfl) (fun _ _ _ h => h) (by assumption) (Or.inl ⟨by rfl, ?_⟩) ?_
  rotate_left
  · (intro w hSw; (try dsimp only at hSw); obtain ⟨y0, y1⟩ := hSw; go_simp; try with_reducible rfl)
  simp only [Act.put, List.setIfInBounds_toArray, List.set_cons_zero, List.set_cons_succ]
  refine wpAnyP_take 3 [] (v := ?_) rfl (by kernel_rfl) (fun _ _ _ h => h) (by assumption) (Or.inl ⟨by rfl, ?_⟩) ?_
  rotate_left
  · (intro w hSw; (try dsimp only at hSw); obtain ⟨y0, y1⟩ := hSw; go_simp; try with_reducible rfl)
  simp only [Act.put, List.setIfInBounds_toArray, List.set_cons_zero, List.set_cons_succ]
  refine wpAnyP_take 4 [] (v := ?_) rfl (by kernel_rfl) (fun _ _ _ h => h) (by assumption) (Or.inl ⟨by rfl, ?_⟩) ?_
  rotate_left
  · (intro w hSw; (try dsimp only at hSw); obtain ⟨y0, y1⟩ := hSw; go_simp; try with_reducible rfl)
  simp only [Act.put, List.setIfInBounds_toArray, List.set_cons_zero, List.set_cons_succ]
  refine wpAnyP_take 5 [] (v := ?_) rfl (by kernel_rfl) (fun _ _ _ h => h) (by assumption) (Or.inl ⟨by rfl, ?_⟩) ?_
  rotate_left
  · (intro w hSw; (try dsimp only at hSw); obtain ⟨y0, y1⟩ := hSw; go_simp; try with_reducible rfl)
  simp only [Act.put, List.setIfInBounds_toArray, List.set_cons_zero, List.set_cons_succ]
  refine wpAnyP_take 6 [] (v := ?_) rfl (by kernel_rfl) (fun _ _ _ h => h) (by assumption) (Or.inl ⟨by rfl, ?_⟩) ?_
  rotate_left
  · (intro w hSw; (try dsimp only at hSw); obtain ⟨y0, y1⟩ := hSw; go_simp; try with_reducible rfl)
  simp only [Act.put, List.setIfInBounds_toArray, List.set_cons_zero, List.set_cons_succ]
  refine wpAnyP_take 7 [] (v := ?_) rfl (by kernel_rfl) (fun _ _ _ h => h) (by assumption) (Or.inl ⟨by rfl, ?_⟩) ?_
  rotate_left
  · (intro w hSw; (try dsimp only at hSw); obtain ⟨y0, y1⟩ := hSw; go_simp; try with_reducible rfl)
  simp only [Act.put, List.setIfInBounds_toArray, List.set_cons_zero, List.set_cons_succ]
  refine wpAnyP_take 8 [] (v := ?_) rfl (by kernel_rfl) (fun _ _ _ h => h) (by assumption) (Or.inl ⟨by rfl, ?_⟩) ?_
  rotate_left
  · (intro w hSw; (try dsimp only at hSw); obtain ⟨y0, y1⟩ := hSw; go_simp; try with_reducible rfl)
  simp only [Act.put, List.setIfInBounds_toArray, List.set_cons_zero, List.set_cons_succ]
  refine wpAnyP_take 10 [] (v := ?_) rfl (by kernel_rfl) (fun _ _ _ h => h) (by assumption) (Or.inl ⟨by rfl, ?_⟩) ?_
  rotate_left
  · (intro w hSw; (try dsimp only at hSw); obtain ⟨y0, y1⟩ := hSw; go_simp; try with_reducible rfl)
  simp only [Act.put, List.setIfInBounds_toArray, List.set_cons_zero, List.set_cons_succ]
  refine wpAnyP_one 9 rfl (by kernel_rfl) (fun K hK => ?_)
  rw [if_pos (by rfl)]
  go_wp2_with ((refine CA.out.mono ?_; rintro e w2 ⟨rfl, n2, hw2⟩; have hc2 : Chg [] w1.drew w2 := (by rw [hw2]; exact (Chg.refl _ _).drewN _); have hr2 := R1.out.chg hc2 (by simp) (by simp); obtain ⟨e0, e1, e2, _⟩ := hr2.str.three; obtain ⟨old, g0, g1, _⟩ := hr2.cell hkN; have R2 := Lib.hid hr2; have C2 := Lib.hid hc2; clear hw2 hr2 hc2))
  refine hold_with (by (try dsimp only at hSw); exact ⟨e0, e2⟩) (fun hSn => ?_)
  clear hSw; have hSw := hSn; clear hSn
  refine wpAnyP_take 11 [] (v := ?_) rfl (by kernel_rfl) (fun _ _ _ h => h) (by assumption) (Or.inl ⟨by rfl, ?_⟩) ?_
  rotate_left
  · (intro w hSw; (try dsimp only at hSw); obtain ⟨y0, y1⟩ := hSw; go_simp; try with_reducible rfl)
  simp only [Act.put, List.setIfInBounds_toArray, List.set_cons_zero, List.set_cons_succ]
  refine wpAnyP_one 12 rfl (by kernel_rfl) (fun K hK => ?_)
  rw [if_pos (by rfl)]
  go_wp2_with (fail)
  refine ⟨fun hz => (by simp at hz), ?_⟩
  refine wpAnyP_done (by kernel_rfl) ?_ _
  skip
  have hA3 := (R2.out.str.far (a := ⟨g, k, none⟩) hne (.slice xa xn xc))
  have R3 := R2.out.push hl (x := .slice xa xn xc) ⟨xa, xn, xc, rfl⟩
  rw [← HK.out] at R3
  have RC : Chg [p, g] w ((w2.setCell ⟨g, k, none⟩ (.slice xa xn xc)).setCell ⟨p, 2, none⟩ (.int .i64 (l.length + 1 : Nat))) := (((C1.out.drew.trans C2.out).mono (F' := [p, g]) (by simp)).set (by simp) _).set (by simp) _
  have RR := Lib.hid R3
  have RCC := Lib.hid RC
  have HA3 := Lib.hid hA3
  clear hSw d0 d1 d2 e0 e1 e2 g0 g1 hA3 R3 RC CA
  obtain ⟨w3, hw3⟩ : ∃ w3, w3 = w2.setCell ⟨g, k, none⟩ (.slice xa xn xc) := ⟨_, rfl⟩
  rw [← hw3] at HA3 RR RCC ⊢
  clear hw3
  obtain ⟨d0, d1, d2, f0, f1, f2⟩ := HA3.out.three
  go_wp2_with fail
  go_ret
  exact ⟨rfl, RR.out, RCC.out⟩

set_option maxHeartbeats 400000 in
theorem pop_none (w : World) (p g N fr : Nat) (h : Ring w p g N fr []) :
    Calls Try.prog 62 #[.pointer (some ⟨p, 0, none⟩)] w fun e w' => e = .returned (.tuple #[.slice none 0 0, .bool false]) ∧ w = w' := by
  obtain ⟨c0, c1, c2, _⟩ := h.str.three
  clear h
  go_enter Try.func62, Try.ntmps62
  go_wp2
  go_ret2
  exact ⟨rfl, rfl⟩

def PopPost (p g N fr : Nat) (x : Value) (l : List Value) (w : World) (e : Ending) (w' : World) : Prop := e = .returned (.tuple #[x, .bool true]) ∧ Ring w' p g N ((fr + 1) % N) l ∧ Chg [p, g] w w'
set_option maxRecDepth 100000 in
set_option maxHeartbeats 1000000 in
theorem pop_some (w : World) (p g N fr : Nat) (x : Value) (l : List Value) (h : Ring w p g N fr (x :: l)) :
    Calls Try.prog 62 #[.pointer (some ⟨p, 0, none⟩)] w (PopPost p g N fr x l w) := by
  obtain ⟨xa, xn, xc, rfl⟩ := h.form x (by simp)
  have hfit := h.fits
  simp at hfit
  have hfr : fr < N := by rcases h.head with h1 | ⟨h1, _⟩ <;> omega
  have hsm := h.small
  have hne := h.ne
  obtain ⟨c0, c1, c2, f0, f1, f2⟩ := h.str.three
  have cg := h.at (i := 0) (x := .slice xa xn xc) rfl
  rw [Nat.add_zero, Nat.mod_eq_of_lt hfr] at cg
  obtain ⟨_, _, fg, _⟩ := h.cell hfr
  have hlen : (((.slice xa xn xc) :: l).length : Int) = (l.length : Nat) + 1 := by simp
  rw [hlen] at c2
  have hn0 : (((l.length : Nat) : Int) + 1 == 0) = false := beq_eq_false_iff_ne.2 (by omega)
  have hb1 : (0 : Int) ≤ (fr : Nat) := by omega
  have hb2 : ((fr : Nat) : Int) < (N : Nat) := by omega
  have H := Lib.hid h
  clear h hlen
  go_enter Try.func62, Try.ntmps62
  go_wp2_with fail
  go_quiet (fail)
  obtain ⟨w1, hw1⟩ : ∃ w1, w1 = w.drewN nq := ⟨_, rfl⟩
  have hc1 : Chg [] w w1 := by rw [hw1]; exact (Chg.refl _ _).drewN _
  have hr1 := H.out.chg hc1.drew (by simp) (by simp)
  rw [← hw1]
  obtain ⟨d0, d1, d2, x0, x1, x2⟩ := hr1.str.three
  have dg := hr1.at (i := 0) (x := .slice xa xn xc) rfl
  rw [Nat.add_zero, Nat.mod_eq_of_lt hfr] at dg
  obtain ⟨_, _, xg, _⟩ := hr1.cell hfr
  have R1 := Lib.hid hr1
  have C1 := Lib.hid hc1
  clear hw1 hc1 hr1 c0 c1 c2 f0 f1 f2 cg fg
  go_wp2_with fail
  refine wp_region_phase 10 (fun w' => w'.cell? ⟨p, 0, none⟩ = some (.slice (some ⟨g, 0, none⟩) N N) ∧ w'.cell? ⟨p, 1, none⟩ = some (.int .i64 fr)) (by kernel_rfl) ?_
  refine wpAnyP_with (by exact ⟨d0, d1⟩) (fun hSw => ?_)
  refine wpAnyP_take 0 [] (v := ?_) rfl (by kernel_rfl) (fun _ _ _ h => h) (by assumption) (Or.inl ⟨by rfl, ?_⟩) ?_
  rotate_left
  · (intro w hSw; (try dsimp only at hSw); obtain ⟨y0, y1⟩ := hSw; go_simp; try with_reducible rfl)
  simp only [Act.put, List.setIfInBounds_toArray, List.set_cons_zero, List.set_cons_succ]
  refine wpAnyP_take 1 [] (v := ?_) rfl (by kernel_rfl) (fun _ _ _ h => h) (by assumption) (Or.inl ⟨by rfl, ?_⟩) ?_
  rotate_left
  · (intro w hSw; (try dsimp only at hSw); obtain ⟨y0, y1⟩ := hSw; go_simp; try with_reducible rfl)
  simp only [Act.put, List.setIfInBounds_toArray, List.set_cons_zero, List.set_cons_succ]
  refine wpAnyP_take 2 [] (v := ?_) rfl (by kernel_rfl) (fun _ _ _ h => h) (by assumption) (Or.inl ⟨by rfl, ?_⟩) ?_
  rotate_left
  · (intro w hSw; (try dsimp only at hSw); obtain ⟨y0, y1⟩ := hSw; go_simp; try with_reducible rfl)
  simp only [Act.put, List.setIfInBounds_toArray, List.set_cons_zero, List.set_cons_succ]
  refine wpAnyP_take 3 [] (v := ?_) rfl (by kernel_rfl) (fun _ _ _ h => h) (by assumption) (Or.inl ⟨by rfl, ?_⟩) ?_
  rotate_left
  · (intro w hSw; (try dsimp only at hSw); obtain ⟨y0, y1⟩ := hSw; go_simp; try with_reducible rfl)
  simp only [Act.put, List.setIfInBounds_toArray, List.set_cons_zero, List.set_cons_succ]
  refine wpAnyP_take 4 [] (v := ?_) rfl (by kernel_rfl) (fun _ _ _ h => h) (by assumption) (Or.inl ⟨by rfl, ?_⟩) ?_
  rotate_left
  · (intro w hSw; (try dsimp only at hSw); obtain ⟨y0, y1⟩ := hSw; go_simp; try with_reducible rfl)
  simp only [Act.put, List.setIfInBounds_toArray, List.set_cons_zero, List.set_cons_succ]
  refine wpAnyP_take 5 [] (v := ?_) rfl (by kernel_rfl) (fun _ _ _ h => h) (by assumption) (Or.inl ⟨by rfl, ?_⟩) ?_
  rotate_left
  · (intro w hSw; (try dsimp only at hSw); obtain ⟨y0, y1⟩ := hSw; go_simp; try with_reducible rfl)
  simp only [Act.put, List.setIfInBounds_toArray, List.set_cons_zero, List.set_cons_succ]
  refine wpAnyP_take 6 [] (v := ?_) rfl (by kernel_rfl) (fun _ _ _ h => h) (by assumption) (Or.inl ⟨by rfl, ?_⟩) ?_
  rotate_left
  · (intro w hSw; (try dsimp only at hSw); obtain ⟨y0, y1⟩ := hSw; go_simp; try with_reducible rfl)
  simp only [Act.put, List.setIfInBounds_toArray, List.set_cons_zero, List.set_cons_succ]
  refine wpAnyP_take 7 [] (v := ?_) rfl (by kernel_rfl) (fun _ _ _ h => h) (by assumption) (Or.inl ⟨by rfl, ?_⟩) ?_
  rotate_left
  · (intro w hSw; (try dsimp only at hSw); obtain ⟨y0, y1⟩ := hSw; go_simp; try with_reducible rfl)
  simp only [Act.put, List.setIfInBounds_toArray, List.set_cons_zero, List.set_cons_succ]
  refine wpAnyP_take 8 [] (v := ?_) rfl (by kernel_rfl) (fun _ _ _ h => h) (by assumption) (Or.inl ⟨by rfl, ?_⟩) ?_
  rotate_left
  · (intro w hSw; (try dsimp only at hSw); obtain ⟨y0, y1⟩ := hSw; go_simp; try with_reducible rfl)
  simp only [Act.put, List.setIfInBounds_toArray, List.set_cons_zero, List.set_cons_succ]
  refine wpAnyP_take 9 [] (v := ?_) rfl (by kernel_rfl) (fun _ _ _ h => h) (by assumption) (Or.inl ⟨by rfl, ?_⟩) ?_
  rotate_left
  · (intro w hSw; (try dsimp only at hSw); obtain ⟨y0, y1⟩ := hSw; go_simp; try with_reducible rfl)
  simp only [Act.put, List.setIfInBounds_toArray, List.set_cons_zero, List.set_cons_succ]
  refine wpAnyP_one 10 rfl (by kernel_rfl) (fun K hK => ?_)
  rw [if_pos (by rfl)]
  go_wp2_with (fail)
  refine ⟨fun hz => (by simp at hz), ?_⟩
  refine wpAnyP_done (by kernel_rfl) ?_ _
  skip
  obtain ⟨w3, hw3⟩ : ∃ w3, w3 = (w1.setCell ⟨g, fr, none⟩ (.slice none 0 0)).drew := ⟨_, rfl⟩
  have hA3 : At w3 p 156 [.slice (some ⟨g, 0, none⟩) N N, .int .i64 fr, .int .i64 ((.slice xa xn xc) :: l).length] := by rw [hw3]; exact (R1.out.str.far (a := ⟨g, fr, none⟩) hne (.slice none 0 0))
  have hcg : Chg [g] w1 w3 := by rw [hw3]; exact ((Chg.refl [g] w1).set (by simp) _).drew
  have CA := Lib.hid (at_any w3 p g N fr _ 1 hA3 (by omega) hsm (by omega) (by omega))
  have HA3 := Lib.hid hA3
  have HCG := Lib.hid hcg
  have HW3 := Lib.hid hw3
  rw [← hw3]
  obtain ⟨k, hk⟩ : ∃ k, k = (fr + 1) % N := ⟨_, rfl⟩
  rw [← hk] at CA
  have HK := Lib.hid hk
  clear hw3 hA3 hcg hSw d0 d1 d2 x0 x1 x2 dg xg hk
  go_wp2_with fail
  refine CA.out.mono ?_
  rintro e w4 ⟨rfl, n4, hw4⟩
  have hc4 : Chg [] w3 w4 := by rw [hw4]; exact (Chg.refl _ _).drewN _
  have hlen : (((.slice xa xn xc) :: l).length : Int) = (l.length : Nat) + 1 := by simp
  have hA4 := HA3.out.chg hc4 (by simp)
  rw [hlen] at hA4
  obtain ⟨d0, d1, d2, x0, x1, x2⟩ := hA4.three
  have R := R1.out.pop (z := .slice none 0 0) ⟨none, 0, 0, rfl⟩ (w2 := w4) (by
    have h := HW3.out
    have hh : Chg [] (w1.drew.setCell ⟨g, fr, none⟩ (.slice none 0 0)) w3 := by rw [h]; exact ⟨rfl, rfl, rfl, Nat.le_refl _, fun _ _ _ => rfl⟩
    exact hh.trans hc4)
  rw [← HK.out] at R
  have RC : Chg [p, g] w ((w4.setCell ⟨p, 1, none⟩ (.int .i64 (k : Nat))).setCell ⟨p, 2, none⟩ (.int .i64 (l.length : Nat))) :=
    ((((C1.out.mono (F' := [p, g]) (by simp)).trans (HCG.out.mono (F' := [p, g]) (by simp))).trans (hc4.mono (F' := [p, g]) (by simp))).set (by simp) _).set (by simp) _
  have RR := Lib.hid R
  have RCC := Lib.hid RC
  clear hw4 hc4 hA4 hlen R RC CA
  go_wp2_with fail
  go_ret2
  refine ⟨rfl, ?_, RCC.out⟩
  rw [← HK.out]
  exact RR.out
end RB
end Go.Proofs.Ytkmjpphmciaklaa
