/- Slices of bytes: what they read as, and a copy of one by append to nil. -/
import Derived.Test.YtkmjpphmciaklaaHeap
import Derived.Maps.AppendAt
import Derived.Laws.AppendOwn
namespace Go.Proofs.Ytkmjpphmciaklaa
open Go.RowKit
set_option linter.unusedVariables false
set_option linter.unusedSimpArgs false

/-- A slice value that reads as these bytes: its cells lie in a block of bytes (type 5). -/
def Bytes (w : World) (v : Value) (d : List Int) : Prop :=
  ∃ A c, v = .slice A d.length c ∧ (d ≠ [] → ∃ g o, A = some ⟨g, o, none⟩ ∧ ∃ cs fz, w.heap[g]? = some (.cells cs 5 fz) ∧ ∀ j : Nat, ∀ u : Int, d[j]? = some u → cs[o + j]? = some (.int .u8 u))
/-- Block b is no block of bytes. -/
def NoB (w : World) (b : Nat) : Prop := ∀ cs fz, w.heap[b]? ≠ some (.cells cs 5 fz)
theorem At.noB {w : World} {b T : Nat} {cs : List Value} (h : At w b T cs) (hT : T ≠ 5) : NoB w b := by
  intro cs' fz he
  unfold At at h
  rw [h] at he
  simp at he
  exact hT he.2.1
theorem Bytes.chg {F : List Nat} {w w' : World} {v : Value} {d : List Int} (h : Bytes w v d) (c : Chg F w w') (hF : ∀ b ∈ F, NoB w b) : Bytes w' v d := by
  obtain ⟨A, n, rfl, hd⟩ := h
  refine ⟨A, n, rfl, fun hne => ?_⟩
  obtain ⟨g, o, rfl, cs, fz, hg, hc⟩ := hd hne
  exact ⟨g, o, rfl, cs, fz, by rw [c.block g (Array.getElem?_eq_some_iff.1 hg).1 (fun hm => hF g hm cs fz hg)]; exact hg, hc⟩
theorem Bytes.slice {w : World} {v : Value} {d : List Int} (h : Bytes w v d) : ∃ a n c, v = .slice a n c := by
  obtain ⟨A, n, rfl, _⟩ := h; exact ⟨_, _, _, rfl⟩
theorem Bytes.nil (w : World) : Bytes w (.slice none 0 0) [] := ⟨none, 0, rfl, fun h => absurd rfl h⟩
theorem Bytes.of_owns {w : World} {base : Nat} {v : Value} {d : List Int} {n : Nat} (h : w.ownsRow base 5 1 v n (d.map (.int .u8))) : Bytes w v d := by
  obtain ⟨hl, h⟩ := h
  simp at hl
  subst hl
  rcases h with ⟨rfl, h0⟩ | ⟨g, cap, cur, rfl, _, hg, _, _, _, ht⟩
  · exact ⟨none, 0, by rw [h0], fun hn => absurd (List.eq_nil_of_length_eq_zero h0) hn⟩
  · refine ⟨_, _, rfl, fun _ => ⟨g, 0, rfl, cur, (0, 0), hg, fun j u hu => ?_⟩⟩
    have h1 : (d.map (Value.int .u8))[j]? = some (.int .u8 u) := by rw [List.getElem?_map, hu]; rfl
    have hj : j < d.length := (List.getElem?_eq_some_iff.1 hu).1
    rw [← ht, List.getElem?_take_of_lt (by omega)] at h1
    simpa using h1
theorem grown_none {w w' : World} (h : w.grownBy w' none) : Chg [] w w' :=
  ⟨h.os, h.tape, h.output, h.size, fun k hk _ => h.block k hk (by simp)⟩

/-- A slice value that reads as these bytes; its cells lie in a block of which S holds. -/
def BytS (S : Nat → Prop) (w : World) (v : Value) (d : List Int) : Prop :=
  ∃ A c, v = .slice A d.length c ∧ (d ≠ [] → ∃ g o, A = some ⟨g, o, none⟩ ∧ S g ∧ g < w.heap.size ∧ ∀ j : Nat, ∀ u : Int, d[j]? = some u → w.cell? ⟨g, o + j, none⟩ = some (.int .u8 u))
theorem BytS.mono {S S' : Nat → Prop} {w : World} {v : Value} {d : List Int} (h : BytS S w v d) (hS : ∀ g, g < w.heap.size → S g → S' g) : BytS S' w v d := by
  obtain ⟨A, c, rfl, hd⟩ := h
  refine ⟨A, c, rfl, fun hne => ?_⟩
  obtain ⟨g, o, rfl, hs, hg, hc⟩ := hd hne
  exact ⟨g, o, rfl, hS g hg hs, hg, hc⟩
theorem BytS.chg {S : Nat → Prop} {F : List Nat} {w w' : World} {v : Value} {d : List Int} (h : BytS S w v d) (c : Chg F w w') (hF : ∀ g, g < w.heap.size → S g → g ∉ F) : BytS S w' v d := by
  obtain ⟨A, n, rfl, hd⟩ := h
  refine ⟨A, n, rfl, fun hne => ?_⟩
  obtain ⟨g, o, rfl, hs, hg, hc⟩ := hd hne
  exact ⟨g, o, rfl, hs, Nat.lt_of_lt_of_le hg c.size, fun j u hu => (c.cell (p := ⟨g, o + j, none⟩) hg (hF g hg hs)).trans (hc j u hu)⟩
theorem BytS.slice {S : Nat → Prop} {w : World} {v : Value} {d : List Int} (h : BytS S w v d) : ∃ a n c, v = .slice a n c := by
  obtain ⟨A, n, rfl, _⟩ := h; exact ⟨_, _, _, rfl⟩
theorem BytS.slice' {S : Nat → Prop} {w : World} {v : Value} {d : List Int} (h : BytS S w v d) : ∃ a c, v = .slice a d.length c := by
  obtain ⟨A, n, rfl, _⟩ := h; exact ⟨_, _, rfl⟩
theorem Bytes.wide {w : World} {v : Value} {d : List Int} (h : Bytes w v d) : BytS (fun g => ∃ cs fz, w.heap[g]? = some (.cells cs 5 fz)) w v d := by
  obtain ⟨A, n, rfl, hd⟩ := h
  refine ⟨A, n, rfl, fun hne => ?_⟩
  obtain ⟨g, o, rfl, cs, fz, hg, hc⟩ := hd hne
  exact ⟨g, o, rfl, ⟨cs, fz, hg⟩, (Array.getElem?_eq_some_iff.1 hg).1, fun j u hu => by simp [World.cell?, hg, hc j u hu]⟩
theorem Bytes.off {w : World} {v : Value} {d : List Int} {F : List Nat} (h : Bytes w v d) (hF : ∀ b ∈ F, NoB w b) : BytS (fun g => g ∉ F) w v d :=
  h.wide.mono fun g _ ⟨cs, fz, hg⟩ hm => hF g hm cs fz hg
theorem BytS.at {S : Nat → Prop} {w : World} {a : Option Addr} {n c : Nat} {d : List Int} (h : BytS S w (.slice a n c) d) : n = d.length ∧ ∀ k (hk : k < d.length), ∃ g o, a = some ⟨g, o, none⟩ ∧ g < w.heap.size ∧ w.cell? ⟨g, o + k, none⟩ = some (.int .u8 (d[k]'hk)) := by
  obtain ⟨A, c', he, hd⟩ := h
  simp only [Value.slice.injEq] at he
  obtain ⟨rfl, rfl, rfl⟩ := he
  refine ⟨rfl, fun k hk => ?_⟩
  obtain ⟨g, o, rfl, _, hg, hc⟩ := hd (by intro e; rw [e] at hk; simp at hk)
  exact ⟨g, o, rfl, hg, hc k _ (List.getElem?_eq_getElem hk)⟩

theorem bytes_copy {P : Program} {t ty : TypeId} {i : TypeInfo} (ht : P.underlying t = some (.slice 5)) (hi : P.info? 5 = some i) (hz : i.zero = some (.int .u8 0)) (hs : i.size = 1) (hb : i.bytes = 1) {S : Nat → Prop}
    {w : World} {v : Value} {d : List Int} (h : BytS S w v d) (hl : d.length ≤ 1000000) :
    ∃ v' w', (Builtin.append_ #[t, t] ty #[.slice none 0 0, v]).run P w = .ok v' w' ∧ Bytes w' v' d ∧ Chg [] w w' := by
  obtain ⟨A, c, rfl, hd⟩ := h
  by_cases hne : d = []
  · subst hne
    refine ⟨.slice none 0 0, w, ?_, Bytes.nil _, Chg.refl _ _⟩
    cases A with
    | none => simp [Builtin.append_, run_underlying ht, sizeOf, typeInfo, hi, Builtin.lenOf, Builtin.firstCells]
    | some a => simp [Builtin.append_, run_underlying ht, sizeOf, typeInfo, hi, Builtin.lenOf, Builtin.firstCells, hs, loadCells, loadCellsFrom]
  · obtain ⟨g, o, rfl, _, hg, hc⟩ := hd hne
    obtain ⟨v', w', h1, h2, h3, _, _⟩ := run_append_own_at (P := P) w w.heap.size t ty 5 i (.int .u8 0) 1 1 ht hi hz hs hb rfl (by omega) (.slice none 0 0) 0 [] ⟨rfl, .inl ⟨rfl, rfl⟩⟩ ⟨g, o, none⟩ d.length c (d.map (.int .u8)) (by simp)
      (fun j u hu => by
        rw [List.getElem?_map] at hu
        cases hdj : d[j]? with
        | none => rw [hdj] at hu; cases hu
        | some x =>
          rw [hdj] at hu
          obtain rfl : Value.int .u8 x = u := by simpa using hu
          have hadd : Addr.add ⟨g, o, none⟩ j = ⟨g, o + j, none⟩ := by unfold Addr.add; split <;> simp_all
          rw [hadd]
          exact hc j x hdj)
      (by intro u hu; obtain ⟨x, _, rfl⟩ := List.mem_map.1 hu; rfl) (by unfold maxLen; omega) (by omega) (Nat.le_refl _)
    exact ⟨v', w', h1, Bytes.of_owns (by simpa using h2), grown_none h3⟩

/-- An append of one slice to another, its run being known. -/
theorem wp_append_eq {P : Program} {o : Oper} {a : Act} {w w' : World} {v u v' : Value} {K : Act → World → Prop} {Q : Exit → Act → World → Prop} (s x : Operand) (t : TypeId)
    (ho : o.op = .call { callee := .builtin .append, args := #[s, x], argTypes := #[t, t] }) (hs : a.eval s = v) (hx : a.eval x = u)
    (hrun : (Builtin.append_ #[t, t] o.type #[v, u]).run P w = .ok v' w') (h : K (a.put o.dst v') w') : o.wp P a w K Q := by
  unfold Oper.wp execOp
  simp only [ho, resolve, invoke, builtin, Sem.run_bind, Sem.run_pure, Result.andThen_ok, List.map_toArray, List.map_cons, List.map_nil, hs, hx, hrun]
  exact h
end Go.Proofs.Ytkmjpphmciaklaa
