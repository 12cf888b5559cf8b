/- A slice of structs of three ints and a slice of bytes that came in, at one place. -/
import Derived.Test.YtkmjpphmciaklaaStructs
import Derived.Test.YtkmjpphmciaklaaBytes
import Derived.ChangeSlices
namespace Go.Proofs.Ytkmjpphmciaklaa
open Go.RowKit Go.ChangeShapes Go.WideShapes Go.Deep
set_option linter.unusedVariables false
set_option linter.unusedSimpArgs false

section
variable {H : Type} {enc : TypeId × Value → H} {P : Program} {w : World} {base : Nat} {spare : Nat → Bool} {held : Bool}
/-- Bytes that came in. -/
theorem bytes_in {t e : TypeId} {fuel : Nat} {v : Value} {x : DataW H × List MemPlace} (ht : P.underlying t = some (.slice e)) (he : P.underlying e = some (.int .u8)) (hc : P.cellsOf e = 1)
    (h : DataW.trod enc P w base spare held fuel t [v] = some x) : ∃ d : List Int, BytS (· < w.heap.size) w v d := by
  rcases open_ints ht he hc h with ⟨hcs, _⟩ | ⟨a, l, c, zs, hcs, _, hl, hm, hz, _, hcell, _⟩
  · simp at hcs
    subst hcs
    exact ⟨[], none, 0, rfl, fun hn => absurd rfl hn⟩
  · simp at hcs
    subst hcs
    have hlz : l ≤ zs.length := by rw [hz]; split <;> omega
    refine ⟨zs.take l, some a, c, by rw [List.length_take, Nat.min_eq_left hlz], fun hne => ?_⟩
    have hl0 : 0 < l := by
      rcases Nat.eq_zero_or_pos l with h0 | h0
      · subst h0; simp at hne
      · exact h0
    obtain ⟨ab, aoff, aspot⟩ := a
    have hc0 := hcell 0 (by omega)
    have hspot : aspot = none := by simpa [Addr.add] using World.cell?_spot hc0
    subst hspot
    have hbl : ab < w.heap.size := by
      have := World.block_lt_of_cell? w _ hc0
      rw [Go.WideShapes.add_plain] at this; exact this
    refine ⟨ab, aoff, rfl, hbl, hbl, fun j u hu => ?_⟩
    have hj : j < (zs.take l).length := (List.getElem?_eq_some_iff.1 hu).1
    rw [List.length_take] at hj
    have hcj := hcell j (by omega)
    rw [Go.WideShapes.add_plain] at hcj
    rw [hcj]
    rw [List.getElem?_take_of_lt (by omega)] at hu
    rw [List.getD_eq_getElem?_getD, hu]
    rfl
end

/-- A slice of structs of three ints and a slice of bytes. -/
def OpsB (w : World) (a : Option Addr) (len : Nat) : Prop :=
  ∀ i, i < len → ∃ b off k n t v d, a = some ⟨b, off, none⟩ ∧ b < w.heap.size ∧ w.cell? ⟨b, off + i * 4, none⟩ = some (.int .i64 k) ∧ w.cell? ⟨b, off + i * 4 + 1, none⟩ = some (.int .i64 n) ∧ w.cell? ⟨b, off + i * 4 + 2, none⟩ = some (.int .i64 t) ∧
    w.cell? ⟨b, off + i * 4 + 3, none⟩ = some v ∧ BytS (· < w.heap.size) w v d ∧ (-9223372036854775808 ≤ k ∧ k ≤ 9223372036854775807) ∧ (-9223372036854775808 ≤ n ∧ n ≤ 9223372036854775807) ∧ -9223372036854775808 ≤ t ∧ t ≤ 9223372036854775807

theorem opsB_of {H : Type} {enc : TypeId × Value → H} {P : Program} {w : World} {base : Nat} {spare : Nat → Bool} {held : Bool} {t e eb : TypeId} {f0 f1 f2 f3 : Field} {fuel : Nat} {a : Option Addr} {len cap : Nat} {x : DataW H × List MemPlace}
    (ht : P.underlying t = some (.slice e)) (he : P.underlying e = some (.struct #[f0, f1, f2, f3])) (hone : oneCellFields P #[f0, f1, f2, f3] = true) (hC : P.cellsOf e = 4)
    (h0 : P.underlying f0.type = some (.int .i64)) (h1 : P.underlying f1.type = some (.int .i64)) (h2 : P.underlying f2.type = some (.int .i64)) (h3 : P.underlying f3.type = some (.slice eb)) (h4 : P.underlying eb = some (.int .u8)) (h5 : P.cellsOf eb = 1)
    (h : DataW.trod enc P w base spare held fuel t [.slice a len cap] = some x) : OpsB w a len := by
  intro i hi
  obtain ⟨_, _, b, off, rfl, hb, n, hf⟩ := struct_at ht he hone hC (by simp) h i hi
  obtain ⟨v0, y0, c0, t0⟩ := hf 0 f0 rfl
  obtain ⟨v1, y1, c1, t1⟩ := hf 1 f1 rfl
  obtain ⟨v2, y2, c2, t2⟩ := hf 2 f2 rfl
  obtain ⟨v3, y3, c3, t3⟩ := hf 3 f3 rfl
  obtain ⟨n0, e0, _, w0⟩ := DataW.trod_int h0 t0
  obtain ⟨n1, e1, _, w1⟩ := DataW.trod_int h1 t1
  obtain ⟨n2, e2, _, w2⟩ := DataW.trod_int h2 t2
  simp at e0 e1 e2; subst e0 e1 e2
  obtain ⟨d, hd⟩ := bytes_in h3 h4 h5 t3
  exact ⟨b, off, n0, n1, n2, v3, d, rfl, hb, c0, c1, c2, c3, hd, bounds_i64 w0, bounds_i64 w1, bounds_i64 w2⟩
end Go.Proofs.Ytkmjpphmciaklaa
