/- Small laws on blocks of memory: At (a block holds just these cells), Chg (nothing but these blocks, and new ones, has changed). Regions that draw their order: operations that yield one value in every world that meets S are taken first, S being asked only as long as one operation (the region's last phase) has not come up.
Stands on the library's Derived.OrdersHeld (its YieldsIf, wpOp_putIf) and Derived.StillTail (its waitsFor). -/
import Derived.WalkKit
import Derived.WalkSpells
import Derived.WalkLawsBesides
import Derived.Below
import Derived.Lib.Hide
import Derived.OrdersHeld
import Derived.StillTail
import Derived.Tactics
import Derived.Tactics2
import Derived.KernelRfl
namespace Go.Proofs.Ytkmjpphmciaklaa
open Go.RowKit

/-- Block b holds just these cells, none of them frozen. -/
def At (w : World) (b : Nat) (T : TypeId) (cs : List Value) : Prop := w.heap[b]? = some (.cells cs.toArray T (0, 0))

theorem At.lt {w : World} {b T : Nat} {cs : List Value} (h : At w b T cs) : b < w.heap.size := by
  rcases Nat.lt_or_ge b w.heap.size with h' | h'
  · exact h'
  · unfold At at h; rw [Array.getElem?_eq_none h'] at h; cases h
theorem At.cell {w : World} {b T : Nat} {cs : List Value} (h : At w b T cs) (i : Nat) : w.cell? ⟨b, i, none⟩ = cs[i]? := by
  unfold At at h; simp [World.cell?, h]
theorem At.frozen {w : World} {b T : Nat} {cs : List Value} (h : At w b T cs) (i : Nat) : w.frozen? ⟨b, i, none⟩ = false := by
  unfold At at h; simp [World.frozen?, h]
theorem At.two {w : World} {b T : Nat} {x y : Value} (h : At w b T [x, y]) : w.cell? ⟨b, 0, none⟩ = some x ∧ w.cell? ⟨b, 1, none⟩ = some y ∧ w.frozen? ⟨b, 0, none⟩ = false ∧ w.frozen? ⟨b, 1, none⟩ = false :=
  ⟨by rw [h.cell]; rfl, by rw [h.cell]; rfl, h.frozen 0, h.frozen 1⟩
theorem At.three {w : World} {b T : Nat} {x y z : Value} (h : At w b T [x, y, z]) : w.cell? ⟨b, 0, none⟩ = some x ∧ w.cell? ⟨b, 1, none⟩ = some y ∧ w.cell? ⟨b, 2, none⟩ = some z ∧
    w.frozen? ⟨b, 0, none⟩ = false ∧ w.frozen? ⟨b, 1, none⟩ = false ∧ w.frozen? ⟨b, 2, none⟩ = false :=
  ⟨by rw [h.cell]; rfl, by rw [h.cell]; rfl, by rw [h.cell]; rfl, h.frozen 0, h.frozen 1, h.frozen 2⟩
theorem At.four {w : World} {b T : Nat} {x y z u : Value} (h : At w b T [x, y, z, u]) : w.cell? ⟨b, 0, none⟩ = some x ∧ w.cell? ⟨b, 1, none⟩ = some y ∧ w.cell? ⟨b, 2, none⟩ = some z ∧ w.cell? ⟨b, 3, none⟩ = some u ∧
    w.frozen? ⟨b, 0, none⟩ = false ∧ w.frozen? ⟨b, 1, none⟩ = false ∧ w.frozen? ⟨b, 2, none⟩ = false ∧ w.frozen? ⟨b, 3, none⟩ = false :=
  ⟨by rw [h.cell]; rfl, by rw [h.cell]; rfl, by rw [h.cell]; rfl, by rw [h.cell]; rfl, h.frozen 0, h.frozen 1, h.frozen 2, h.frozen 3⟩
theorem At.to {w : World} {b T : Nat} {cs cs' : List Value} (h : At w b T cs) (e : cs = cs') : At w b T cs' := e ▸ h
theorem At.drew {w : World} {b T : Nat} {cs : List Value} (h : At w b T cs) : At w.drew b T cs := h
theorem At.drewN {w : World} {b T n : Nat} {cs : List Value} (h : At w b T cs) : At (w.drewN n) b T cs := h
theorem At.alloc {w : World} {b T : Nat} {cs : List Value} (h : At w b T cs) (o : Obj) : At (w.alloc o) b T cs := by
  have := h.lt; unfold At at *; rw [Below.heap_alloc _ _ _ this]; exact h
theorem At.new (w : World) (T : Nat) (cs : List Value) : At (w.alloc (.cells cs.toArray T)) w.heap.size T cs := by
  unfold At World.alloc; simp
theorem At.set {w : World} {b T : Nat} {cs : List Value} (h : At w b T cs) (i : Nat) (v : Value) : At (w.setCell ⟨b, i, none⟩ v) b T (cs.set i v) := by
  unfold At at *; simp [World.setCell, Array.getElem?_modify, h]
theorem At.far {w : World} {b T : Nat} {cs : List Value} (h : At w b T cs) {a : Addr} (hb : b ≠ a.block) (v : Value) : At (w.setCell a v) b T cs := by
  unfold At at *; rw [Below.heap_setCell _ _ _ _ hb]; exact h

theorem At.far2 {w : World} {b T : Nat} {cs : List Value} (h : At w b T cs) {b' : Nat} (hb : b ≠ b') (i j : Nat) (u v : Value) : At ((w.setCell ⟨b', i, none⟩ u).setCell ⟨b', j, none⟩ v) b T cs :=
  (h.far hb u).far hb v

/-- Nothing but the blocks of F, and blocks that are new, has changed. -/
structure Chg (F : List Nat) (w w' : World) : Prop where
  os : w'.os = w.os
  tape : w'.tape = w.tape
  output : w'.output = w.output
  size : w.heap.size ≤ w'.heap.size
  block : ∀ k, k < w.heap.size → k ∉ F → w'.heap[k]? = w.heap[k]?

theorem Chg.refl (F : List Nat) (w : World) : Chg F w w := ⟨rfl, rfl, rfl, Nat.le_refl _, fun _ _ _ => rfl⟩
theorem Chg.trans' {F F' : List Nat} {a b c : World} (h : Chg F a b) (k : Chg F' b c) (hF : ∀ x ∈ F', x ∈ F ∨ a.heap.size ≤ x) : Chg F a c :=
  ⟨k.os.trans h.os, k.tape.trans h.tape, k.output.trans h.output, Nat.le_trans h.size k.size,
   fun i hi hn => (k.block i (Nat.lt_of_lt_of_le hi h.size) (fun hm => by rcases hF i hm with h' | h'; exact hn h'; omega)).trans (h.block i hi hn)⟩
theorem Chg.trans {F : List Nat} {a b c : World} (h : Chg F a b) (k : Chg F b c) : Chg F a c := h.trans' k fun _ hx => Or.inl hx
theorem Chg.mono {F F' : List Nat} {w w' : World} (h : Chg F w w') (hF : ∀ x ∈ F, x ∈ F' ∨ w.heap.size ≤ x) : Chg F' w w' :=
  ⟨h.os, h.tape, h.output, h.size, fun k hk hn => h.block k hk fun hm => by rcases hF k hm with h' | h'; exact hn h'; omega⟩
theorem Chg.drew {F : List Nat} {a w : World} (h : Chg F a w) : Chg F a w.drew := ⟨h.os, h.tape, h.output, h.size, h.block⟩
theorem Chg.drewN {F : List Nat} {a w : World} (h : Chg F a w) (n : Nat) : Chg F a (w.drewN n) := ⟨h.os, h.tape, h.output, h.size, h.block⟩
theorem Chg.alloc {F : List Nat} {a w : World} (h : Chg F a w) (o : Obj) : Chg F a (w.alloc o) :=
  h.trans ⟨rfl, rfl, rfl, by simp, fun k hk _ => Below.heap_alloc _ _ _ hk⟩
theorem Chg.set {F : List Nat} {a w : World} (h : Chg F a w) {p : Addr} (hp : p.block ∈ F ∨ a.heap.size ≤ p.block) (v : Value) : Chg F a (w.setCell p v) :=
  h.trans' (F' := [p.block]) ⟨rfl, rfl, rfl, by simp [World.setCell], fun k _ hn => Below.heap_setCell _ _ _ _ (fun e => hn (by simp [e]))⟩ (fun x hx => by simp at hx; subst hx; exact hp)
theorem Chg.below {F : List Nat} {w w' : World} (h : Chg F w w') {B : Nat} (hB : B ≤ w.heap.size) (hF : ∀ x ∈ F, B ≤ x) : Below B w w' :=
  ⟨h.os, h.tape, h.output, h.size, fun k hk => h.block k (by omega) fun hm => by have := hF k hm; omega⟩
theorem Chg.of_below {w w' : World} (h : Below w.heap.size w w') : Chg [] w w' := ⟨h.os, h.tape, h.output, h.size, fun k hk _ => h.block k hk⟩
theorem At.chg {F : List Nat} {w w' : World} {b T : Nat} {cs : List Value} (h : At w b T cs) (c : Chg F w w') (hn : b ∉ F) : At w' b T cs := by
  have := h.lt; unfold At at *; rw [c.block b this hn]; exact h
theorem Chg.cell {F : List Nat} {w w' : World} (c : Chg F w w') {p : Addr} (hp : p.block < w.heap.size) (hn : p.block ∉ F) : w'.cell? p = w.cell? p :=
  World.cell?_of_block (w := w) (c.block p.block hp hn)
theorem Chg.frozen {F : List Nat} {w w' : World} (c : Chg F w w') {p : Addr} (hp : p.block < w.heap.size) (hn : p.block ∉ F) : w'.frozen? p = w.frozen? p :=
  World.frozen?_of_block (w := w) (c.block p.block hp hn)
end Go.Proofs.Ytkmjpphmciaklaa
namespace Go.Proofs.Ytkmjpphmciaklaa
section
variable {P : Program} {ops : Array Oper} {Q : Exit → Act → World → Prop} {md : Region.Mode} {S : World → Prop} {i0 : Nat}

/-- S holds as long as operation number i0 has not come up (i0 past the end: then it is never asked). -/
def Hold (i0 : Nat) (S : World → Prop) (listed : Array Bool) (w : World) : Prop := listed.getD i0 true = false → S w

def wpAnyP (P : Program) (md : Region.Mode) (ops : Array Oper) (Q : Exit → Act → World → Prop) (i0 : Nat) (S : World → Prop) : Nat → Array Bool → Act → World → Prop
  | 0, listed, a, w => Region.ready md ops listed = [] ∧ Q .normal a w
  | fuel + 1, listed, a, w =>
    (Region.ready md ops listed = [] → Q .normal a w) ∧
    ∀ i ∈ Region.ready md ops listed, wpOp P ops Q i (fun a' w' => Hold i0 S (listed.setIfInBounds i true) w' ∧ wpAnyP P md ops Q i0 S fuel (listed.setIfInBounds i true) a' w') a w

theorem wpAny_of_phase : ∀ (fuel : Nat) (listed : Array Bool) (a : Act) (w : World), wpAnyP P md ops Q i0 S fuel listed a w → wpAny P md ops Q fuel listed a w
  | 0, _, _, _, h => h
  | fuel + 1, _, _, _, h => ⟨h.1, fun i hi => wpOp_mono (fun a' w' h' => wpAny_of_phase fuel _ a' w' h'.2) (h.2 i hi)⟩

/-- What has come up is closed: whatever it waits for has come up. -/
def Closed (md : Region.Mode) (ops : Array Oper) (listed : Array Bool) : Prop :=
  ∀ j oj, ops[j]? = some oj → listed.getD j false = true → ∀ e ∈ oj.after, Region.binds md e = true → listed.getD e.on false = true

theorem Closed.set {i : Nat} {listed : Array Bool} (c : Closed md ops listed) (hi : i ∈ Region.ready md ops listed) : Closed md ops (listed.setIfInBounds i true) := by
  obtain ⟨_, oi, hoi, hall⟩ := mem_ready.1 hi
  intro j oj hj hl e he hb
  by_cases hij : i = j
  · subst hij
    have e1 : oj = oi := Option.some.inj (hj.symm.trans hoi)
    subst e1
    exact getD_set_true (hall e he hb)
  · rw [getD_set_ne false hij] at hl
    exact getD_set_true (c j oj hj hl e he hb)

def closedB (md : Region.Mode) (ops : Array Oper) (listed : Array Bool) : Bool :=
  (List.range ops.size).all fun j => !listed.getD j false || match ops[j]? with
    | some oj => oj.after.all fun e => !Region.binds md e || listed.getD e.on false
    | none => true

theorem closed_of {listed : Array Bool} (h : closedB md ops listed = true) : Closed md ops listed := by
  intro j oj hj hl e he hb
  have h1 := List.all_eq_true.1 h j (List.mem_range.2 (Array.getElem?_eq_some_iff.1 hj).1)
  simp only [hj, hl, Bool.not_true, Bool.false_or] at h1
  have h2 := Array.all_eq_true_iff_forall_mem.1 h1 e he
  simpa [hb] using h2

/-- A way back along which each number waits for the next one. -/
def pathB (md : Region.Mode) (ops : Array Oper) : Nat → List Nat → Nat → Bool
  | j, [], i => Region.waitsFor md ops j i
  | j, k :: l, i => Region.waitsFor md ops j k && pathB md ops k l i

theorem listed_of_path {listed : Array Bool} (c : Closed md ops listed) : ∀ (l : List Nat) (j i : Nat), pathB md ops j l i = true → listed.getD j false = true → listed.getD i false = true
  | [], j, i, h, hj => by
    obtain ⟨oj, hoj, e, he, hb, hon⟩ := Region.waitsFor_spec h
    rw [← hon]; exact c j oj hoj hj e he hb
  | k :: l, j, i, h, hj => by
    simp only [pathB, Bool.and_eq_true] at h
    obtain ⟨oj, hoj, e, he, hb, hon⟩ := Region.waitsFor_spec h.1
    exact listed_of_path c l k i h.2 (by rw [← hon]; exact c j oj hoj hj e he hb)

theorem not_ready_of_path {listed : Array Bool} (c : Closed md ops listed) (l : List Nat) {j i : Nat} (h : pathB md ops j l i = true) (hi : listed.getD i true = false) : j ∉ Region.ready md ops listed := by
  intro hj
  obtain ⟨_, oj, hoj, hall⟩ := mem_ready.1 hj
  have key : ∀ k, Region.waitsFor md ops j k = true → listed.getD k false = true := fun k hk => by
    obtain ⟨o', ho', e, he, hb, hon⟩ := Region.waitsFor_spec hk
    have e1 : o' = oj := Option.some.inj (ho'.symm.trans hoj)
    subst e1
    rw [← hon]; exact hall e he hb
  have : listed.getD i false = true := by
    cases l with
    | nil => exact key i h
    | cons k l =>
      simp only [pathB, Bool.and_eq_true] at h
      exact listed_of_path c l k i h.2 (key k h.1)
  rw [getD_both hi] at this
  cases this

/-- May number i be taken first, S being asked till i0 comes up? i0 waits for i (by the way l), and has not come up. -/
def phaseOk (md : Region.Mode) (ops : Array Oper) (i0 : Nat) (listed : Array Bool) (l : List Nat) (i : Nat) : Bool :=
  !listed.getD i0 true && pathB md ops i0 l i && decide (i ≠ i0) && closedB md ops listed

theorem wpAnyP_first {i : Nat} {oi : Oper} {v : Value} (hi : ops[i]? = some oi) (hsel : ∀ (j : Nat) (o : Oper) cs b, ops[j]? = some o → o.op ≠ .select cs b)
    (hQ : ∀ c a w, Q (.panic c) (a.put oi.dst v) w → Q (.panic c) a w) (hne : i ≠ i0) (way : List Nat) (hwait : pathB md ops i0 way i = true) :
    ∀ (fuel : Nat) (listed : Array Bool) (a : Act) (w : World),
      (∀ j oj, ops[j]? = some oj → j ≠ i → listed.getD j true = false → (∀ e ∈ oj.after, Region.binds md e = true → e.on ≠ i) → oi.apart ops oj = true) →
      i ∈ Region.ready md ops listed → listed.getD i0 true = false → Closed md ops listed → YieldsIf P ops S oi v a → S w →
      wpAnyP P md ops Q i0 S fuel (listed.setIfInBounds i true) (a.put oi.dst v) w → wpAnyP P md ops Q i0 S (fuel + 1) listed a w := by
  intro fuel
  induction fuel with
  | zero =>
    intro listed a w _ hr _ _ hy hS H
    refine ⟨fun h => (by rw [h] at hr; cases hr), fun j hj => ?_⟩
    by_cases hji : j = i
    · subst hji; exact hy.wpOp hi hS ⟨fun _ => hS, H⟩
    · have h1 := ready_mono hj hji
      rw [H.1] at h1
      cases h1
  | succ fuel ih =>
    intro listed a w hfree hr hun0 hc hy hS H
    refine ⟨fun h => (by rw [h] at hr; cases hr), fun j hj => ?_⟩
    by_cases hji : j = i
    · subst hji; exact hy.wpOp hi hS ⟨fun _ => hS, H⟩
    · have hiun := (mem_ready.1 hr).1
      obtain ⟨hjun, oj, hoj, hall⟩ := mem_ready.1 hj
      have hnot : ∀ e ∈ oj.after, Region.binds md e = true → e.on ≠ i := fun e he hb heq => by
        have h1 := hall e he hb
        rw [heq, getD_both hiun] at h1
        cases h1
      have hj0 : j ≠ i0 := fun h => by subst h; exact not_ready_of_path hc way hwait hiun hj
      have h2 := wpOp_putIf hoj (hfree j oj hoj hji hjun hnot) (fun cs b => hsel i oi cs b hi) (fun cs b => hsel j oj cs b hoj) hQ hy (H.2 j (ready_mono hj hji))
      have hun1 : (listed.setIfInBounds j true).getD i0 true = false := by rw [getD_set_ne true hj0]; exact hun0
      have hun2 : ((listed.setIfInBounds i true).setIfInBounds j true).getD i0 true = false := by
        rw [getD_set_ne true hj0, getD_set_ne true hne]; exact hun0
      have hfree' : ∀ k ok, ops[k]? = some ok → k ≠ i → (listed.setIfInBounds j true).getD k true = false →
          (∀ e ∈ ok.after, Region.binds md e = true → e.on ≠ i) → oi.apart ops ok = true := fun k ok hk hki hun hno => by
        refine hfree k ok hk hki ?_ hno
        by_cases hjk : j = k
        · subst hjk; exact hjun
        · rw [getD_set_ne true hjk] at hun; exact hun
      refine wpOp_mono (fun a' w' h3 => ⟨fun _ => h3.2.1 hun2, ih (listed.setIfInBounds j true) a' w' hfree' (ready_mono hr (Ne.symm hji)) hun1 (hc.set hj) h3.1 (h3.2.1 hun2) ?_⟩) h2
      rw [Array.setIfInBounds_comm _ _ hji]
      exact h3.2.2

/-- Take number i first. -/
theorem wpAnyP_take (i : Nat) (way : List Nat) {oi : Oper} {v : Value} {fuel : Nat} {listed : Array Bool} {a : Act} {w : World} (hi : ops[i]? = some oi)
    (hs : (Region.noSelect ops && Region.free md ops listed i && (Region.ready md ops listed).contains i && phaseOk md ops i0 listed way i) = true)
    (hQ : ∀ c a w, Q (.panic c) (a.put oi.dst v) w → Q (.panic c) a w) (hS : S w) (hy : YieldsIf P ops S oi v a)
    (h : wpAnyP P md ops Q i0 S fuel (listed.setIfInBounds i true) (a.put oi.dst v) w) : wpAnyP P md ops Q i0 S (fuel + 1) listed a w := by
  simp only [phaseOk, Bool.and_eq_true, decide_eq_true_eq, Bool.not_eq_true'] at hs
  obtain ⟨⟨⟨h1, h2⟩, h3⟩, ⟨⟨h4, h5⟩, h6⟩, h7⟩ := hs
  exact wpAnyP_first hi (Region.noSelect_spec h1) hQ h6 way h5 fuel listed a w (Region.free_spec hi h2) (by simpa using h3) h4 (closed_of h7) hy hS h

/-- S is shown once, and lies among the hypotheses behind. -/
theorem wpAnyP_with {fuel : Nat} {listed : Array Bool} {a : Act} {w : World} (hS : S w) (h : S w → wpAnyP P md ops Q i0 S fuel listed a w) : wpAnyP P md ops Q i0 S fuel listed a w := h hS

theorem hold_with {fuel : Nat} {listed : Array Bool} {a : Act} {w : World} (hS : S w) (h : S w → wpAnyP P md ops Q i0 S fuel listed a w) : Hold i0 S listed w ∧ wpAnyP P md ops Q i0 S fuel listed a w := ⟨fun _ => hS, h hS⟩

/-- Number i alone may come up: it is carried out. -/
theorem wpAnyP_one (i : Nat) {oi : Oper} {fuel : Nat} {listed : Array Bool} {a : Act} {w : World} (hi : ops[i]? = some oi) (hr : Region.ready md ops listed = [i])
    (h : ∀ K : Act → World → Prop, (∀ a' w', (Hold i0 S (listed.setIfInBounds i true) w' ∧ wpAnyP P md ops Q i0 S fuel (listed.setIfInBounds i true) a' w') → K a' w') →
      if Region.wanted oi (yielded ops a.tmps) then oi.wp P a w K Q else K (a.put oi.dst undef) w) : wpAnyP P md ops Q i0 S (fuel + 1) listed a w := by
  refine ⟨fun h0 => (by rw [hr] at h0; cases h0), fun j hj => ?_⟩
  rw [hr] at hj
  obtain rfl : j = i := by simpa using hj
  have h1 := h _ (fun _ _ x => x)
  unfold wpOp
  simp only [hi]
  split
  · rename_i hw; rw [if_pos hw] at h1; exact .inl h1
  · rename_i hw; rw [if_neg hw] at h1; exact h1

/-- Number i alone may come up, and its guard says no. -/
theorem wpAnyP_skip (i : Nat) {oi : Oper} {fuel : Nat} {listed : Array Bool} {a : Act} {w : World} (hi : ops[i]? = some oi) (hr : Region.ready md ops listed = [i]) (hw : Region.wanted oi (yielded ops a.tmps) = false)
    (h : Hold i0 S (listed.setIfInBounds i true) w ∧ wpAnyP P md ops Q i0 S fuel (listed.setIfInBounds i true) (a.put oi.dst undef) w) : wpAnyP P md ops Q i0 S (fuel + 1) listed a w :=
  wpAnyP_one i hi hr fun K hK => by rw [if_neg (by rw [hw]; exact Bool.false_ne_true)]; exact hK _ _ h

/-- One of two numbers may come up. -/
theorem wpAnyP_two (i j : Nat) {oi oj : Oper} {fuel : Nat} {listed : Array Bool} {a : Act} {w : World} (hi : ops[i]? = some oi) (hj : ops[j]? = some oj) (hr : Region.ready md ops listed = [i, j])
    (h1 : ∀ K : Act → World → Prop, (∀ a' w', (Hold i0 S (listed.setIfInBounds i true) w' ∧ wpAnyP P md ops Q i0 S fuel (listed.setIfInBounds i true) a' w') → K a' w') →
      if Region.wanted oi (yielded ops a.tmps) then oi.wp P a w K Q else K (a.put oi.dst undef) w)
    (h2 : ∀ K : Act → World → Prop, (∀ a' w', (Hold i0 S (listed.setIfInBounds j true) w' ∧ wpAnyP P md ops Q i0 S fuel (listed.setIfInBounds j true) a' w') → K a' w') →
      if Region.wanted oj (yielded ops a.tmps) then oj.wp P a w K Q else K (a.put oj.dst undef) w) : wpAnyP P md ops Q i0 S (fuel + 1) listed a w := by
  refine ⟨fun h0 => (by rw [hr] at h0; cases h0), fun k hk => ?_⟩
  rw [hr] at hk
  have hk' : k = i ∨ k = j := by simpa using hk
  rcases hk' with rfl | rfl
  · have h := h1 _ (fun _ _ x => x)
    unfold wpOp
    simp only [hi]
    split
    · rename_i hw; rw [if_pos hw] at h; exact .inl h
    · rename_i hw; rw [if_neg hw] at h; exact h
  · have h := h2 _ (fun _ _ x => x)
    unfold wpOp
    simp only [hj]
    split
    · rename_i hw; rw [if_pos hw] at h; exact .inl h
    · rename_i hw; rw [if_neg hw] at h; exact h

/-- All have come up. -/
theorem wpAnyP_done {listed : Array Bool} {a : Act} {w : World} (hr : Region.ready md ops listed = []) (h : Q .normal a w) : ∀ fuel, wpAnyP P md ops Q i0 S fuel listed a w
  | 0 => ⟨hr, h⟩
  | _ + 1 => ⟨fun _ => h, by rw [hr]; simp⟩

/-- The beginning. -/
theorem wp_region_phase (i0 : Nat) (S : World → Prop) {id : Nat} {a : Act} {w : World} {l : List Oper} (hm : P.follows .mixedOrders = true)
    (h : wpAnyP P .any l.toArray Q i0 S l.toArray.size (Array.replicate l.toArray.size false) a w.drew) : (Code.region id l.toArray true).wp P Q a w :=
  wp_region_any hm (wpAny_of_phase _ _ _ _ h)
end
end Go.Proofs.Ytkmjpphmciaklaa
