/- A slice of catwalklaw31.Op that came in, at one place. -/
import Derived.Test.YtkmjpphmciaklaaStructs
namespace Go.Proofs.Ytkmjpphmciaklaa
open Go.RowKit Go.ChangeShapes Go.WideShapes Go.Deep
set_option linter.unusedVariables false
set_option linter.unusedSimpArgs false

/-- A slice of structs of three ints and a slice. -/
def Ops4 (w : World) (a : Option Addr) (len : Nat) : Prop :=
  ∀ i, i < len → ∃ b off k n t A m c, a = some ⟨b, off, none⟩ ∧ b < w.heap.size ∧ w.cell? ⟨b, off + i * 4, none⟩ = some (.int .i64 k) ∧ w.cell? ⟨b, off + i * 4 + 1, none⟩ = some (.int .i64 n) ∧ w.cell? ⟨b, off + i * 4 + 2, none⟩ = some (.int .i64 t) ∧
    w.cell? ⟨b, off + i * 4 + 3, none⟩ = some (.slice A m c) ∧ (-9223372036854775808 ≤ k ∧ k ≤ 9223372036854775807) ∧ (-9223372036854775808 ≤ n ∧ n ≤ 9223372036854775807) ∧ -9223372036854775808 ≤ t ∧ t ≤ 9223372036854775807

theorem ops4_of {H : Type} {enc : TypeId × Value → H} {P : Program} {w : World} {base : Nat} {spare : Nat → Bool} {held : Bool} {t e eb : TypeId} {f0 f1 f2 f3 : Field} {fuel : Nat} {a : Option Addr} {len cap : Nat} {x : DataW H × List MemPlace}
    (ht : P.underlying t = some (.slice e)) (he : P.underlying e = some (.struct #[f0, f1, f2, f3])) (hone : oneCellFields P #[f0, f1, f2, f3] = true) (hC : P.cellsOf e = 4)
    (h0 : P.underlying f0.type = some (.int .i64)) (h1 : P.underlying f1.type = some (.int .i64)) (h2 : P.underlying f2.type = some (.int .i64)) (h3 : P.underlying f3.type = some (.slice eb)) (h : DataW.trod enc P w base spare held fuel t [.slice a len cap] = some x) : Ops4 w a len := by
  intro i hi
  obtain ⟨_, _, b, off, rfl, hb, n, hf⟩ := struct_at ht he hone hC (by simp) h i hi
  obtain ⟨v0, y0, c0, t0⟩ := hf 0 f0 rfl
  obtain ⟨v1, y1, c1, t1⟩ := hf 1 f1 rfl
  obtain ⟨v2, y2, c2, t2⟩ := hf 2 f2 rfl
  obtain ⟨v3, y3, c3, t3⟩ := hf 3 f3 rfl
  obtain ⟨n0, e0, _, w0⟩ := DataW.trod_int h0 t0
  obtain ⟨n1, e1, _, w1⟩ := DataW.trod_int h1 t1
  obtain ⟨n2, e2, _, w2⟩ := DataW.trod_int h2 t2
  simp at e0 e1 e2; subst e0 e1 e2
  obtain ⟨A, m, c, rfl⟩ : ∃ A m c, v3 = .slice A m c := by
    rcases open_slice h3 t3 with ⟨hcs, _⟩ | ⟨a', len', cap', m, n, D, Pl, hcs, _⟩
    · simp at hcs; exact ⟨_, _, _, hcs⟩
    · simp at hcs; exact ⟨_, _, _, hcs⟩
  exact ⟨b, off, n0, n1, n2, A, m, c, rfl, hb, c0, c1, c2, c3, bounds_i64 w0, bounds_i64 w1, bounds_i64 w2⟩
end Go.Proofs.Ytkmjpphmciaklaa
