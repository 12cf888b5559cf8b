/- A slice of integers that came in, at one place. -/
import Derived.Test.YtkmjpphmciaklaaHeap
import Derived.OpenShut
namespace Go.Proofs.Ytkmjpphmciaklaa
open Go.RowKit Go.ChangeShapes Go.WideShapes
theorem row_at {k : IntKind} {w : World} {a : Option Addr} {len cap : Nat} {zs : List Int}
    (h : (a = none ∧ len = 0 ∧ cap = 0 ∧ zs = []) ∨
      ∃ x, a = some x ∧ len ≤ cap ∧ cap ≤ maxLen ∧ zs.length = cap ∧ (∀ i, i < zs.length → w.cell? (x.add i) = some (.int k (zs.getD i 0))) ∧ ∀ n ∈ zs, (Lit.int k n).wf = true)
    (i : Nat) (hi : i < len) :
    ∃ b off, a = some ⟨b, off, none⟩ ∧ b < w.heap.size ∧ w.cell? ⟨b, off + i, none⟩ = some (.int k (zs.getD i 0)) ∧ (Lit.int k (zs.getD i 0)).wf = true := by
  rcases h with ⟨_, h, _⟩ | ⟨x, rfl, hl, hc, hz, hcell, hwf⟩
  · omega
  · obtain ⟨b, off, rfl, hc2⟩ := ints_at hcell (by omega)
    have hh := hc2 i (by omega)
    refine ⟨b, off, rfl, World.block_lt_of_cell? w _ hh, hh, hwf _ ?_⟩
    rw [List.getD_eq_getElem?_getD, List.getElem?_eq_getElem (by omega), Option.getD_some]
    exact List.getElem_mem _
end Go.Proofs.Ytkmjpphmciaklaa
