/- Small laws on blocks of memory: At (a block holds just these cells), Chg (nothing but these blocks, and new ones, has changed). -/
import Derived.WalkKit
import Derived.WalkSpells
import Derived.WalkLawsBesides
import Derived.Below
import Derived.Lib.Hide
namespace Go.Proofs.Ytkmjpphmciaklaa
open Go.RowKit

/-- Block b holds just these cells, none of them frozen. -/
def At (w : World) (b : Nat) (T : TypeId) (cs : List Value) : Prop := w.heap[b]? = some (.cells cs.toArray T (0, 0))

theorem At.lt {w : World} {b T : Nat} {cs : List Value} (h : At w b T cs) : b < w.heap.size := by
  rcases Nat.lt_or_ge b w.heap.size with h' | h'
  · exact h'
  · unfold At at h; rw [Array.getElem?_eq_none h'] at h; cases h
theorem At.cell {w : World} {b T : Nat} {cs : List Value} (h : At w b T cs) (i : Nat) : w.cell? ⟨b, i, none⟩ = cs[i]? := by
  unfold At at h; simp [World.cell?, h]
theorem At.frozen {w : World} {b T : Nat} {cs : List Value} (h : At w b T cs) (i : Nat) : w.frozen? ⟨b, i, none⟩ = false := by
  unfold At at h; simp [World.frozen?, h]
theorem At.two {w : World} {b T : Nat} {x y : Value} (h : At w b T [x, y]) : w.cell? ⟨b, 0, none⟩ = some x ∧ w.cell? ⟨b, 1, none⟩ = some y ∧ w.frozen? ⟨b, 0, none⟩ = false ∧ w.frozen? ⟨b, 1, none⟩ = false :=
  ⟨by rw [h.cell]; rfl, by rw [h.cell]; rfl, h.frozen 0, h.frozen 1⟩
theorem At.three {w : World} {b T : Nat} {x y z : Value} (h : At w b T [x, y, z]) : w.cell? ⟨b, 0, none⟩ = some x ∧ w.cell? ⟨b, 1, none⟩ = some y ∧ w.cell? ⟨b, 2, none⟩ = some z ∧
    w.frozen? ⟨b, 0, none⟩ = false ∧ w.frozen? ⟨b, 1, none⟩ = false ∧ w.frozen? ⟨b, 2, none⟩ = false :=
  ⟨by rw [h.cell]; rfl, by rw [h.cell]; rfl, by rw [h.cell]; rfl, h.frozen 0, h.frozen 1, h.frozen 2⟩
theorem At.four {w : World} {b T : Nat} {x y z u : Value} (h : At w b T [x, y, z, u]) : w.cell? ⟨b, 0, none⟩ = some x ∧ w.cell? ⟨b, 1, none⟩ = some y ∧ w.cell? ⟨b, 2, none⟩ = some z ∧ w.cell? ⟨b, 3, none⟩ = some u ∧
    w.frozen? ⟨b, 0, none⟩ = false ∧ w.frozen? ⟨b, 1, none⟩ = false ∧ w.frozen? ⟨b, 2, none⟩ = false ∧ w.frozen? ⟨b, 3, none⟩ = false :=
  ⟨by rw [h.cell]; rfl, by rw [h.cell]; rfl, by rw [h.cell]; rfl, by rw [h.cell]; rfl, h.frozen 0, h.frozen 1, h.frozen 2, h.frozen 3⟩
theorem At.to {w : World} {b T : Nat} {cs cs' : List Value} (h : At w b T cs) (e : cs = cs') : At w b T cs' := e ▸ h
theorem At.drew {w : World} {b T : Nat} {cs : List Value} (h : At w b T cs) : At w.drew b T cs := h
theorem At.drewN {w : World} {b T n : Nat} {cs : List Value} (h : At w b T cs) : At (w.drewN n) b T cs := h
theorem At.alloc {w : World} {b T : Nat} {cs : List Value} (h : At w b T cs) (o : Obj) : At (w.alloc o) b T cs := by
  have := h.lt; unfold At at *; rw [Below.heap_alloc _ _ _ this]; exact h
theorem At.new (w : World) (T : Nat) (cs : List Value) : At (w.alloc (.cells cs.toArray T)) w.heap.size T cs := by
  unfold At World.alloc; simp
theorem At.set {w : World} {b T : Nat} {cs : List Value} (h : At w b T cs) (i : Nat) (v : Value) : At (w.setCell ⟨b, i, none⟩ v) b T (cs.set i v) := by
  unfold At at *; simp [World.setCell, Array.getElem?_modify, h]
theorem At.far {w : World} {b T : Nat} {cs : List Value} (h : At w b T cs) {a : Addr} (hb : b ≠ a.block) (v : Value) : At (w.setCell a v) b T cs := by
  unfold At at *; rw [Below.heap_setCell _ _ _ _ hb]; exact h

theorem At.far2 {w : World} {b T : Nat} {cs : List Value} (h : At w b T cs) {b' : Nat} (hb : b ≠ b') (i j : Nat) (u v : Value) : At ((w.setCell ⟨b', i, none⟩ u).setCell ⟨b', j, none⟩ v) b T cs :=
  (h.far hb u).far hb v

/-- Nothing but the blocks of F, and blocks that are new, has changed. -/
structure Chg (F : List Nat) (w w' : World) : Prop where
  os : w'.os = w.os
  tape : w'.tape = w.tape
  output : w'.output = w.output
  size : w.heap.size ≤ w'.heap.size
  block : ∀ k, k < w.heap.size → k ∉ F → w'.heap[k]? = w.heap[k]?

theorem Chg.refl (F : List Nat) (w : World) : Chg F w w := ⟨rfl, rfl, rfl, Nat.le_refl _, fun _ _ _ => rfl⟩
theorem Chg.trans' {F F' : List Nat} {a b c : World} (h : Chg F a b) (k : Chg F' b c) (hF : ∀ x ∈ F', x ∈ F ∨ a.heap.size ≤ x) : Chg F a c :=
  ⟨k.os.trans h.os, k.tape.trans h.tape, k.output.trans h.output, Nat.le_trans h.size k.size,
   fun i hi hn => (k.block i (Nat.lt_of_lt_of_le hi h.size) (fun hm => by rcases hF i hm with h' | h'; exact hn h'; omega)).trans (h.block i hi hn)⟩
theorem Chg.trans {F : List Nat} {a b c : World} (h : Chg F a b) (k : Chg F b c) : Chg F a c := h.trans' k fun _ hx => Or.inl hx
theorem Chg.mono {F F' : List Nat} {w w' : World} (h : Chg F w w') (hF : ∀ x ∈ F, x ∈ F' ∨ w.heap.size ≤ x) : Chg F' w w' :=
  ⟨h.os, h.tape, h.output, h.size, fun k hk hn => h.block k hk fun hm => by rcases hF k hm with h' | h'; exact hn h'; omega⟩
theorem Chg.drew {F : List Nat} {a w : World} (h : Chg F a w) : Chg F a w.drew := ⟨h.os, h.tape, h.output, h.size, h.block⟩
theorem Chg.drewN {F : List Nat} {a w : World} (h : Chg F a w) (n : Nat) : Chg F a (w.drewN n) := ⟨h.os, h.tape, h.output, h.size, h.block⟩
theorem Chg.alloc {F : List Nat} {a w : World} (h : Chg F a w) (o : Obj) : Chg F a (w.alloc o) :=
  h.trans ⟨rfl, rfl, rfl, by simp, fun k hk _ => Below.heap_alloc _ _ _ hk⟩
theorem Chg.set {F : List Nat} {a w : World} (h : Chg F a w) {p : Addr} (hp : p.block ∈ F ∨ a.heap.size ≤ p.block) (v : Value) : Chg F a (w.setCell p v) :=
  h.trans' (F' := [p.block]) ⟨rfl, rfl, rfl, by simp [World.setCell], fun k _ hn => Below.heap_setCell _ _ _ _ (fun e => hn (by simp [e]))⟩ (fun x hx => by simp at hx; subst hx; exact hp)
theorem Chg.below {F : List Nat} {w w' : World} (h : Chg F w w') {B : Nat} (hB : B ≤ w.heap.size) (hF : ∀ x ∈ F, B ≤ x) : Below B w w' :=
  ⟨h.os, h.tape, h.output, h.size, fun k hk => h.block k (by omega) fun hm => by have := hF k hm; omega⟩
theorem Chg.of_below {w w' : World} (h : Below w.heap.size w w') : Chg [] w w' := ⟨h.os, h.tape, h.output, h.size, fun k hk _ => h.block k hk⟩
theorem At.chg {F : List Nat} {w w' : World} {b T : Nat} {cs : List Value} (h : At w b T cs) (c : Chg F w w') (hn : b ∉ F) : At w' b T cs := by
  have := h.lt; unfold At at *; rw [c.block b this hn]; exact h
theorem Chg.cell {F : List Nat} {w w' : World} (c : Chg F w w') {p : Addr} (hp : p.block < w.heap.size) (hn : p.block ∉ F) : w'.cell? p = w.cell? p :=
  World.cell?_of_block (w := w) (c.block p.block hp hn)
theorem Chg.frozen {F : List Nat} {w w' : World} (c : Chg F w w') {p : Addr} (hp : p.block < w.heap.size) (hn : p.block ∉ F) : w'.frozen? p = w.frozen? p :=
  World.frozen?_of_block (w := w) (c.block p.block hp hn)
end Go.Proofs.Ytkmjpphmciaklaa
