/- Slices of structs that came in, at one place. The first theorem is the guide's own (extra-structs). A slice of catwalklaw31.Op that came in, at one place. The chapter's example of layer 32; what the laws of layer 32 take. -/
import Derived.Test.YtkmjpphmciaklaaJ1
import Derived.OpenShut
import Derived.Deep.Slices
import Derived.Deep.Fields
import Derived.ChangeSame
import Derived.Test.YtkmjpphmciaklaaJ35
import Derived.Laws.IdiomStrings
import Derived.Lib.SmallJoins
namespace Go.Proofs.Ytkmjpphmciaklaa
open Go.RowKit Go.ChangeShapes Go.WideShapes Go.Deep
section
variable {H : Type} {enc : TypeId × Value → H} {P : Program} {w : World} {base : Nat} {spare : Nat → Bool} {held : Bool}
theorem open_slice_fields {t e : TypeId} {fs : Array Field} {fuel : Nat} {cs : List Value} {x : DataW H × List MemPlace} (ht : P.underlying t = some (.slice e)) (he : P.underlying e = some (.struct fs))
    (hone : oneCellFields P fs = true) (hC : P.cellsOf e = fs.size) (h : DataW.trod enc P w base spare held fuel t cs = some x) :
    (cs = [.slice none 0 0] ∧ x = (.nil, [])) ∨
    ∃ (a : Addr) (len cap m : Nat) (D : Nat → DataW H) (Pl : Nat → List MemPlace), cs = [.slice (some a) len cap] ∧ base ≤ a.block ∧ len ≤ cap ∧ cap ≤ maxLen ∧ m = (if spare a.block then cap else len) ∧
      x = (.slice ((List.range len).map D) ((List.range (m - len)).map fun j => D (len + j)), MemPlace.row a (m * fs.size) ++ (List.range m).flatMap Pl) ∧
      ∀ i, i < m → ∃ (ys : List (DataW H × List MemPlace)) (n : Nat), D i = .agg (ys.map (·.1)) ∧ Pl i = ys.flatMap (·.2) ∧ ys.length = fs.size ∧
        ∀ (j : Nat) (f : Field), fs[j]? = some f → ∃ (v : Value) (y : DataW H × List MemPlace), w.cell? (a.add (i * fs.size + j)) = some v ∧ ys[j]? = some y ∧ DataW.trod enc P w base spare held n f.type [v] = some y := by
  rcases open_slice ht h with h0 | ⟨a, len, cap, m, n, D, Pl, hcs, hb, hl, hm, hmm, hx, hi⟩
  · exact .inl h0
  · refine .inr ⟨a, len, cap, m, D, Pl, hcs, hb, hl, hm, hmm, by rw [hC] at hx; exact hx, fun i him => ?_⟩
    obtain ⟨cs', hc, ht'⟩ := hi i him
    rw [hC] at hc
    obtain ⟨ys, n', hn', hy, hlen, hyl, hf⟩ := DataW.trod_struct he ht'
    obtain ⟨_, hcl, hat⟩ := World.cells?_some hc
    simp only [Prod.mk.injEq] at hy
    refine ⟨ys, n', hy.1, hy.2, hyl, fun j f hj => ?_⟩
    obtain ⟨ho, hk⟩ := hone_of hone j f hj
    have hjl : j < fs.size := (Array.getElem?_eq_some_iff.1 hj).1
    have hcell := hat j hjl
    have hv : cs'[j]? = some (cs'[j]'(by omega)) := List.getElem?_eq_getElem (by omega)
    have h1 := hf j f hj
    rw [ho, hk] at h1
    have hone' : (cs'.drop j).take 1 = [cs'[j]'(by omega)] := by
      rw [List.drop_eq_getElem_cons (by omega)]
      rfl
    rw [hone'] at h1
    have hys : ys[j]? = some (ys[j]'(by omega)) := List.getElem?_eq_getElem (by omega)
    refine ⟨_, _, ?_, hys, h1.trans hys⟩
    rw [← Go.Deep.add_add, hcell, hv]

/-- Of each element: its cells lie in one block, the fields from 'off + i * n' on. -/
theorem struct_at {t e : TypeId} {fs : Array Field} {fuel : Nat} {a : Option Addr} {len cap : Nat} {x : DataW H × List MemPlace} (ht : P.underlying t = some (.slice e)) (he : P.underlying e = some (.struct fs))
    (hone : oneCellFields P fs = true) (hC : P.cellsOf e = fs.size) (hpos : 0 < fs.size) (h : DataW.trod enc P w base spare held fuel t [.slice a len cap] = some x) (i : Nat) (hi : i < len) :
    len ≤ cap ∧ cap ≤ maxLen ∧ ∃ b off, a = some ⟨b, off, none⟩ ∧ b < w.heap.size ∧ ∃ n, ∀ (j : Nat) (f : Field), fs[j]? = some f → ∃ (v : Value) (y : DataW H × List MemPlace), w.cell? ⟨b, off + (i * fs.size + j), none⟩ = some v ∧ DataW.trod enc P w base spare held n f.type [v] = some y := by
  rcases open_slice_fields ht he hone hC h with ⟨hcs, _⟩ | ⟨a', len', cap', m, D, Pl, hcs, hb, hl, hm, hmm, hx, hel⟩
  · simp at hcs; omega
  · simp at hcs
    obtain ⟨rfl, rfl, rfl⟩ := hcs
    have him : i < m := by rw [hmm]; split <;> omega
    obtain ⟨ys, n, _, _, _, hf⟩ := hel i him
    obtain ⟨ab, aoff, aspot⟩ := a'
    obtain ⟨_, _, _, _, _, hf0⟩ := hel 0 (by omega)
    obtain ⟨v0, y0, hc0, _, _⟩ := hf0 0 fs[0] (Array.getElem?_eq_getElem hpos)
    have hspot : aspot = none := by simpa [Addr.add] using World.cell?_spot hc0
    subst hspot
    have hbl : ab < w.heap.size := by
      have := World.block_lt_of_cell? w _ hc0
      rw [Go.WideShapes.add_plain] at this; exact this
    refine ⟨hl, hm, ab, aoff, rfl, hbl, n, fun j f hj => ?_⟩
    obtain ⟨v, y, hc, _, ht'⟩ := hf j f hj
    exact ⟨v, y, by rw [← Go.WideShapes.add_plain]; exact hc, ht'⟩
end

/-- A slice of structs of two ints. -/
def Ops2 (w : World) (a : Option Addr) (len : Nat) : Prop :=
  ∀ i, i < len → ∃ b off n t, a = some ⟨b, off, none⟩ ∧ b < w.heap.size ∧ w.cell? ⟨b, off + i * 2, none⟩ = some (.int .i64 n) ∧ w.cell? ⟨b, off + i * 2 + 1, none⟩ = some (.int .i64 t) ∧
    (-9223372036854775808 ≤ n ∧ n ≤ 9223372036854775807) ∧ -9223372036854775808 ≤ t ∧ t ≤ 9223372036854775807

theorem ops2_of {H : Type} {enc : TypeId × Value → H} {P : Program} {w : World} {base : Nat} {spare : Nat → Bool} {held : Bool} {t e : TypeId} {f0 f1 : Field} {fuel : Nat} {a : Option Addr} {len cap : Nat} {x : DataW H × List MemPlace}
    (ht : P.underlying t = some (.slice e)) (he : P.underlying e = some (.struct #[f0, f1])) (hone : oneCellFields P #[f0, f1] = true) (hC : P.cellsOf e = 2)
    (h0 : P.underlying f0.type = some (.int .i64)) (h1 : P.underlying f1.type = some (.int .i64)) (h : DataW.trod enc P w base spare held fuel t [.slice a len cap] = some x) : Ops2 w a len := by
  intro i hi
  obtain ⟨_, _, b, off, rfl, hb, n, hf⟩ := struct_at ht he hone hC (by simp) h i hi
  obtain ⟨v0, y0, c0, t0⟩ := hf 0 f0 rfl
  obtain ⟨v1, y1, c1, t1⟩ := hf 1 f1 rfl
  obtain ⟨n0, e0, _, w0⟩ := DataW.trod_int h0 t0
  obtain ⟨n1, e1, _, w1⟩ := DataW.trod_int h1 t1
  simp at e0 e1; subst e0 e1
  exact ⟨b, off, n0, n1, rfl, hb, c0, c1, bounds_i64 w0, bounds_i64 w1⟩
end Go.Proofs.Ytkmjpphmciaklaa
namespace Go.Proofs.Ytkmjpphmciaklaa
open Go.RowKit Go.ChangeShapes Go.WideShapes Go.Deep
set_option linter.unusedVariables false
set_option linter.unusedSimpArgs false

/-- A slice of structs of three ints and a slice. -/
def Ops4 (w : World) (a : Option Addr) (len : Nat) : Prop :=
  ∀ i, i < len → ∃ b off k n t A m c, a = some ⟨b, off, none⟩ ∧ b < w.heap.size ∧ w.cell? ⟨b, off + i * 4, none⟩ = some (.int .i64 k) ∧ w.cell? ⟨b, off + i * 4 + 1, none⟩ = some (.int .i64 n) ∧ w.cell? ⟨b, off + i * 4 + 2, none⟩ = some (.int .i64 t) ∧
    w.cell? ⟨b, off + i * 4 + 3, none⟩ = some (.slice A m c) ∧ (-9223372036854775808 ≤ k ∧ k ≤ 9223372036854775807) ∧ (-9223372036854775808 ≤ n ∧ n ≤ 9223372036854775807) ∧ -9223372036854775808 ≤ t ∧ t ≤ 9223372036854775807

theorem ops4_of {H : Type} {enc : TypeId × Value → H} {P : Program} {w : World} {base : Nat} {spare : Nat → Bool} {held : Bool} {t e eb : TypeId} {f0 f1 f2 f3 : Field} {fuel : Nat} {a : Option Addr} {len cap : Nat} {x : DataW H × List MemPlace}
    (ht : P.underlying t = some (.slice e)) (he : P.underlying e = some (.struct #[f0, f1, f2, f3])) (hone : oneCellFields P #[f0, f1, f2, f3] = true) (hC : P.cellsOf e = 4)
    (h0 : P.underlying f0.type = some (.int .i64)) (h1 : P.underlying f1.type = some (.int .i64)) (h2 : P.underlying f2.type = some (.int .i64)) (h3 : P.underlying f3.type = some (.slice eb)) (h : DataW.trod enc P w base spare held fuel t [.slice a len cap] = some x) : Ops4 w a len := by
  intro i hi
  obtain ⟨_, _, b, off, rfl, hb, n, hf⟩ := struct_at ht he hone hC (by simp) h i hi
  obtain ⟨v0, y0, c0, t0⟩ := hf 0 f0 rfl
  obtain ⟨v1, y1, c1, t1⟩ := hf 1 f1 rfl
  obtain ⟨v2, y2, c2, t2⟩ := hf 2 f2 rfl
  obtain ⟨v3, y3, c3, t3⟩ := hf 3 f3 rfl
  obtain ⟨n0, e0, _, w0⟩ := DataW.trod_int h0 t0
  obtain ⟨n1, e1, _, w1⟩ := DataW.trod_int h1 t1
  obtain ⟨n2, e2, _, w2⟩ := DataW.trod_int h2 t2
  simp at e0 e1 e2; subst e0 e1 e2
  obtain ⟨A, m, c, rfl⟩ : ∃ A m c, v3 = .slice A m c := by
    rcases open_slice h3 t3 with ⟨hcs, _⟩ | ⟨a', len', cap', m, n, D, Pl, hcs, _⟩
    · simp at hcs; exact ⟨_, _, _, hcs⟩
    · simp at hcs; exact ⟨_, _, _, hcs⟩
  exact ⟨b, off, n0, n1, n2, A, m, c, rfl, hb, c0, c1, c2, c3, bounds_i64 w0, bounds_i64 w1, bounds_i64 w2⟩
end Go.Proofs.Ytkmjpphmciaklaa
namespace Go.Proofs.Ytkmjpphmciaklaa
open Go.RowKit Go.ChangeShapes Go.WideShapes Go.Deep
set_option linter.unusedVariables false
set_option linter.unusedSimpArgs false
attribute [local go_sem ↓] Go.wp_at_zero Go.wp_at_succ

section
variable {H : Type} {enc : TypeId × Value → H} {P : Program} {w : World} {base : Nat} {spare : Nat → Bool} {held : Bool}
/-- An array of two ints that came in. -/
theorem open_arr2 {r : Reach} {b0 : Nat} {t e : TypeId} {k : IntKind} {v : Value} {d : DataW H} {p : List MemPlace} (ht : P.underlying t = some (.array 2 e)) (he : P.underlying e = some (.int k)) (hC : P.cellsOf t = 2) (hc : P.cellsOf e = 1)
    (hv : Value.okWide P w r b0 t v) (h : DataW.Trod enc P w base spare held t v d p) : ∃ n0 n1, v = .agg #[.int k n0, .int k n1] ∧ (Lit.int k n0).wf = true ∧ (Lit.int k n1).wf = true := by
  unfold Value.okWide at hv
  rw [ht] at hv
  obtain ⟨cs, rfl, hsz, _⟩ := hv
  rw [hC] at hsz
  obtain ⟨c0, c1, rfl⟩ : ∃ c0 c1, cs = #[c0, c1] := by
    obtain ⟨l⟩ := cs
    match l, hsz with
    | [a, b], _ => exact ⟨a, b, rfl⟩
  obtain ⟨fuel, hf⟩ := h
  obtain ⟨xs, m, _, _, _, hxl, hat⟩ := DataW.trod_array ht hf
  rw [hc] at hat
  have h0 := hat 0 (by decide)
  have h1 := hat 1 (by decide)
  simp [Value.cells] at h0 h1
  rw [List.getElem?_eq_getElem (by omega)] at h0 h1
  obtain ⟨n0, e0, _, w0⟩ := DataW.trod_int he h0
  obtain ⟨n1, e1, _, w1⟩ := DataW.trod_int he h1
  simp at e0 e1
  subst e0 e1
  exact ⟨n0, n1, rfl, w0, w1⟩
end
/-- A slice of structs of two ints and a bool that came in. -/
def OpsT (w : World) (a : Option Addr) (len : Nat) : Prop :=
  ∀ i, i < len → ∃ b off k n t, a = some ⟨b, off, none⟩ ∧ b < w.heap.size ∧ w.cell? ⟨b, off + i * 3, none⟩ = some (.int .i64 k) ∧ w.cell? ⟨b, off + i * 3 + 1, none⟩ = some (.int .i64 n) ∧ w.cell? ⟨b, off + i * 3 + 2, none⟩ = some (.bool t) ∧ -9223372036854775808 ≤ n ∧ n ≤ 9223372036854775807
theorem opsT_of {H : Type} {enc : TypeId × Value → H} {P : Program} {w : World} {base : Nat} {spare : Nat → Bool} {held : Bool} {t e : TypeId} {f0 f1 f2 : Field} {fuel : Nat} {a : Option Addr} {len cap : Nat} {x : DataW H × List MemPlace}
    (ht : P.underlying t = some (.slice e)) (he : P.underlying e = some (.struct #[f0, f1, f2])) (hone : oneCellFields P #[f0, f1, f2] = true) (hC : P.cellsOf e = 3)
    (h0 : P.underlying f0.type = some (.int .i64)) (h1 : P.underlying f1.type = some (.int .i64)) (h2 : P.underlying f2.type = some .bool) (h : DataW.trod enc P w base spare held fuel t [.slice a len cap] = some x) : OpsT w a len := by
  intro i hi
  obtain ⟨_, _, b, off, rfl, hb, n, hf⟩ := struct_at ht he hone hC (by simp) h i hi
  obtain ⟨v0, y0, c0, t0⟩ := hf 0 f0 rfl
  obtain ⟨v1, y1, c1, t1⟩ := hf 1 f1 rfl
  obtain ⟨v2, y2, c2, t2⟩ := hf 2 f2 rfl
  obtain ⟨n0, e0, _, w0⟩ := DataW.trod_int h0 t0
  obtain ⟨n1, e1, _, w1⟩ := DataW.trod_int h1 t1
  obtain ⟨n2, e2, _⟩ := DataW.trod_bool h2 t2
  simp at e0 e1 e2; subst e0 e1 e2
  exact ⟨b, off, n0, n1, n2, rfl, hb, c0, c1, c2, bounds_i64 w1⟩
/-- A slice of bools that came in. -/
def BoolsAt (w : World) (a : Option Addr) (len : Nat) : Prop := ∀ i, i < len → ∃ b off x, a = some ⟨b, off, none⟩ ∧ b < w.heap.size ∧ w.cell? ⟨b, off + i, none⟩ = some (.bool x)
theorem boolsAt_of {H : Type} {enc : TypeId × Value → H} {P : Program} {w : World} {base : Nat} {spare : Nat → Bool} {held : Bool} {t e : TypeId} {fuel : Nat} {a : Option Addr} {len cap : Nat} {x : DataW H × List MemPlace}
    (ht : P.underlying t = some (.slice e)) (he : P.underlying e = some .bool) (hC : P.cellsOf e = 1) (h : DataW.trod enc P w base spare held fuel t [.slice a len cap] = some x) : BoolsAt w a len := by
  intro i hi
  rcases open_slice ht h with ⟨hcs, _⟩ | ⟨a', len', cap', m, n, D, Pl, hcs, _, hl, _, hm, _, hat⟩
  · simp at hcs; omega
  · simp at hcs
    obtain ⟨rfl, rfl, rfl⟩ := hcs
    have hcell : ∀ j, j < len → ∃ bb, w.cell? (a'.add j) = some (.bool bb) := fun j hj => by
      obtain ⟨cs, hc, ht2⟩ := hat j (by rw [hm]; split <;> omega)
      obtain ⟨bb, hb, _⟩ := DataW.trod_bool he ht2
      subst hb
      rw [hC, Nat.mul_one] at hc
      obtain ⟨_, _, hcell⟩ := World.cells?_some hc
      have h0 := hcell 0 (by simp)
      refine ⟨bb, ?_⟩
      simpa [Addr.add] using h0
    obtain ⟨ab, aoff, aspot⟩ := a'
    obtain ⟨b0, h0⟩ := hcell 0 (by omega)
    have hspot : aspot = none := by simpa [Addr.add] using World.cell?_spot h0
    subst hspot
    obtain ⟨bb, hb⟩ := hcell i hi
    rw [Go.WideShapes.add_plain] at hb
    exact ⟨ab, aoff, bb, rfl, World.block_lt_of_cell? w _ hb, hb⟩
theorem Below.cell {B : Nat} {w w' : World} (h : Below B w w') {p : Addr} (hp : p.block < B) : w'.cell? p = w.cell? p := World.cell?_of_block (w := w) (h.block p.block hp)

/-- A text of these bytes. -/
def strOf (d : List Int) : ByteArray := d.foldl (fun r n => r.push (UInt8.ofNat n.toNat)) ByteArray.empty
theorem conv_str {S : Nat → Prop} {w : World} {v : Value} {d : List Int} (h : BytS S w v d) : (convert 29 9 v).run Try.prog w = .ok (.string (strOf d)) w := by
  obtain ⟨A, c, rfl, hd⟩ := h
  rw [run_convert_bytes_string w 29 9 5 A d.length c Try.underlying29 Try.underlying5 Try.underlying9]
  cases d with
  | nil =>
    cases A with
    | none => simp [Conv.bytesToString, strOf]
    | some a =>
      have hl := run_loadCells_list (P := Try.prog) w a [] (fun j v hj => by simp at hj)
      exact run_bytesToString w a 0 c [] hl
  | cons x d =>
    obtain ⟨g, o, rfl, _, _, hc⟩ := hd (by simp)
    have hl := run_loadCells_list (P := Try.prog) w ⟨g, o, none⟩ ((x :: d).map (Value.int .u8)) (fun j v hj => by
      rw [List.getElem?_map] at hj
      cases hu : (x :: d)[j]? with
      | none => rw [hu] at hj; simp at hj
      | some u =>
        rw [hu] at hj
        simp at hj
        subst hj
        rw [Go.WideShapes.add_plain]
        exact hc j u hu)
    rw [List.length_map] at hl
    exact run_bytesToString w ⟨g, o, none⟩ (x :: d).length c (x :: d) hl
set_option maxRecDepth 100000 in
set_option maxHeartbeats 1000000 in
theorem same11_true {S S' : Nat → Prop} (w : World) (call : Int) (hs : Bool) (seq : Int) (ha : Bool) (ak : Int) (a a' : Option Addr) (c c' : Nat) (d : List Int) (h1 : BytS S w (.slice a d.length c) d) (h2 : BytS S' w (.slice a' d.length c') d) :
    Calls Try.prog 75 #[.agg #[.int .u16 call, .bool hs, .int .u32 seq, .bool ha, .int .u32 ak, .slice a d.length c], .agg #[.int .u16 call, .bool hs, .int .u32 seq, .bool ha, .int .u32 ak, .slice a' d.length c']] w fun e w' => e = .returned (.bool true) ∧ Chg [] w w' := by
  go_enter Try.func75, Try.ntmps75
  go_upto_region 1 with (fail)
  obtain ⟨wx, hwx⟩ : ∃ wx, wx = (w.alloc (.cells #[.int .u16 call, .bool hs, .int .u32 seq, .bool ha, .int .u32 ak, .slice a d.length c] 138)).alloc (.cells #[.int .u16 call, .bool hs, .int .u32 seq, .bool ha, .int .u32 ak, .slice a' d.length c'] 138) := ⟨_, rfl⟩
  have hcx : Chg [] w wx := by rw [hwx]; exact ((Chg.refl _ _).alloc _).alloc _
  have hB1 : At wx w.heap.size 138 [.int .u16 call, .bool hs, .int .u32 seq, .bool ha, .int .u32 ak, .slice a d.length c] := by rw [hwx]; exact (At.new w 138 [_, _, _, _, _, _]).alloc _
  have hB2 : At wx (w.heap.size + 1) 138 [.int .u16 call, .bool hs, .int .u32 seq, .bool ha, .int .u32 ak, .slice a' d.length c'] := by
    rw [hwx]
    have h := At.new (w.alloc (.cells #[.int .u16 call, .bool hs, .int .u32 seq, .bool ha, .int .u32 ak, .slice a d.length c] 138)) 138 [.int .u16 call, .bool hs, .int .u32 seq, .bool ha, .int .u32 ak, .slice a' d.length c']
    simpa using h
  rw [← hwx]
  have k1 := conv_str (h1.chg hcx (by simp))
  have k2 := conv_str (h2.chg hcx (by simp))
  obtain ⟨x0, x1, x2, x3, x4, x5, _⟩ := hB1.six
  obtain ⟨y0, y1, y2, y3, y4, y5, _⟩ := hB2.six
  obtain ⟨s, hs'⟩ : ∃ s, s = strOf d := ⟨_, rfl⟩
  rw [← hs'] at k1 k2
  have HC := Lib.hid hcx
  clear hwx hcx hB1 hB2 h1 h2 hs'
  go_wp2_with fail
  go_ret
  exact ⟨rfl, HC.out⟩

theorem ex32 : ((newEnd 7 2 1).send 0 [5]).2 = ([⟨7, true, 0, false, 0, [5]⟩], true) := by rfl
set_option maxRecDepth 100000 in
set_option maxHeartbeats 2000000 in
theorem alive32_any (w : World) : Calls Try.prog 41 #[] w fun e w' => e = .returned (.bool true) ∧ Chg [] w w' := by
  go_enter Try.func41, Try.ntmps41
  go_wp2_with fail
  refine (end_new _ _ _ _).mono ?_
  rintro e w1 ⟨q, F, rfl, hE, hc1⟩
  have hlow : ∀ b ∈ F, w.heap.size ≤ b := fun b hb => (hE.kind b hb).1
  have hca : Chg [] w1 (w1.alloc (.cells #[.int .u8 5] 5)) := (Chg.refl _ _).alloc _
  have CT := Lib.hid (send_end (w1.alloc (.cells #[.int .u8 5] 5)) w.heap.size q F (newEnd 7 2 1) 0 (some ⟨w1.heap.size, 0, none⟩) 1 [5] (hE.keep hca) (newEnd_ok 7 2 1) (Nat.le_trans hc1.size hca.size) (bytes_1 w1 5).wide (by decide) (by decide))
  have HC := Lib.hid (hc1.trans hca)
  have HL := Lib.hid hlow
  clear hE hc1 hlow hca
  go_wp2_with fail
  refine CT.out.mono ?_
  rintro e w2 ⟨o, rfl, hT, F', hE2, hc2, hsub⟩
  rw [ex32] at hT
  obtain ⟨ta, tc, hto⟩ := hT.slice
  simp only [List.length_cons, List.length_nil, Nat.zero_add] at hto
  subst hto
  obtain ⟨g, A, dm, dc, rfl, hg, b0, b1, b2, b3, b4, b5, hb⟩ := hT.at (k := 0) rfl
  simp only [Nat.zero_mul, Nat.zero_add] at b0 b1 b2 b3 b4 b5
  obtain ⟨_, _, hdv⟩ := hb.wide.slice'
  simp only [Value.slice.injEq] at hdv
  obtain ⟨-, rfl, -⟩ := hdv
  have hcw : Chg [] w w2 := HC.out.trans' hc2 (fun b hb => .inr (HL.out b hb))
  have hca2 : Chg [] w2 (w2.alloc (.cells #[.int .u8 5] 5)) := (Chg.refl _ _).alloc _
  have hbb := hb.chg hca2 (by simp)
  have C2 := Lib.hid (same11_true (w2.alloc (.cells #[.int .u8 5] 5)) 7 true 0 false 0 A (some ⟨w2.heap.size, 0, none⟩) dc 1 [5] hbb.wide (bytes_1 w2 5).wide)
  have HCW := Lib.hid (hcw.trans hca2)
  rw [ex32]
  clear hT hE2 hc2 hsub hb hcw hca2 hbb CT
  go_wp2_with fail
  refine C2.out.mono ?_
  rintro e w3 ⟨rfl, hc3⟩
  have HF := Lib.hid (HCW.out.trans hc3)
  clear hc3 C2
  go_wp2_with fail
  go_ret
  exact ⟨rfl, HF.out⟩
end Go.Proofs.Ytkmjpphmciaklaa
