/- A block of so many bools, of the call's own. -/
import Derived.Test.YtkmjpphmciaklaaHeap
import Derived.Laws.OwnMore
import Derived.Laws.MakeOwn
import Derived.MapKept
namespace Go.Proofs.Ytkmjpphmciaklaa
open Go.RowKit
set_option linter.unusedVariables false
set_option linter.unusedSimpArgs false

/-- Block g holds n bools. -/
def CameAt (w : World) (g n : Nat) (f : Nat → Bool) : Prop := ∃ cs : Array Value, w.heap[g]? = some (.cells cs 4 (0, 0)) ∧ cs.size = n ∧ ∀ j, j < n → cs[j]? = some (.bool (f j))
theorem CameAt.lt {w : World} {g n : Nat} {f : Nat → Bool} (h : CameAt w g n f) : g < w.heap.size := by
  obtain ⟨cs, hb, _⟩ := h
  exact (Array.getElem?_eq_some_iff.1 hb).1
theorem CameAt.cell {w : World} {g n : Nat} {f : Nat → Bool} (h : CameAt w g n f) {j : Nat} (hj : j < n) : w.cell? ⟨g, j, none⟩ = some (.bool (f j)) ∧ w.frozen? ⟨g, j, none⟩ = false := by
  obtain ⟨cs, hb, _, hc⟩ := h
  exact ⟨by simp [World.cell?, hb, hc j hj], by simp [World.frozen?, hb]⟩
theorem CameAt.chg {F : List Nat} {w w' : World} {g n : Nat} {f : Nat → Bool} (h : CameAt w g n f) (c : Chg F w w') (hn : g ∉ F) : CameAt w' g n f := by
  have hl := h.lt
  obtain ⟨cs, hb, r⟩ := h
  exact ⟨cs, by rw [c.block g hl hn]; exact hb, r⟩
theorem CameAt.set {w : World} {g n : Nat} {f : Nat → Bool} (h : CameAt w g n f) (i : Nat) : CameAt (w.setCell ⟨g, i, none⟩ (.bool true)) g n (fun j => f j || j == i) := by
  obtain ⟨cs, hb, hs, hc⟩ := h
  refine ⟨cs.setIfInBounds i (.bool true), by simp [World.setCell, Array.getElem?_modify, hb], by simp [hs], fun j hj => ?_⟩
  by_cases e : j = i
  · subst e
    rw [Array.getElem?_setIfInBounds_self_of_lt (by omega)]
    simp
  · rw [Array.getElem?_setIfInBounds_ne (fun h => e h.symm), hc j hj]
    simp [e]
/-- make of 100001 bools. -/
theorem came_made {P : Program} {t : TypeId} {i : TypeInfo} (ht : P.underlying t = some (.slice 4)) (hi : P.info? 4 = some i) (hz : i.zero = some (.bool false)) (hs : i.size = 1) (hb : i.bytes = 1) (w : World) :
    ∃ w', (Instr.makeSlice t (.int .i64 100001) (.int .i64 100001)).run P w = .ok (.slice (some ⟨w.heap.size, 0, none⟩) 100001 100001) w' ∧ CameAt w' w.heap.size 100001 (fun _ => false) ∧ Chg [] w w' := by
  have hr := run_make (P := P) w t 4 i (.bool false) ht hi hz .i64 .i64 100001 100001 (by omega) (by omega) (by rw [hb]; decide) (by decide)
  rw [hs] at hr
  refine ⟨_, hr, ⟨_, (MapKept.heap_alloc w _).1, size_madeCells _ _, fun j hj => ?_⟩, (Chg.refl _ _).alloc _⟩
  have h2 := toList_madeCells_one (.bool false) 100001
  have h3 : (madeCells #[Value.bool false] 100001)[j]? = (List.replicate 100001 (Value.bool false))[j]? := by rw [← h2, Array.getElem?_toList]
  refine h3.trans ?_
  rw [List.getElem?_replicate, if_pos hj]
end Go.Proofs.Ytkmjpphmciaklaa
