/- Order: what it makes is an order in which nothing waits for more than 7. -/
import Derived.Test.YtkmjpphmciaklaaAllLaw
import Derived.Test.YtkmjpphmciaklaaRecv7
import Derived.Laws.OwnMore
namespace Go.Proofs.Ytkmjpphmciaklaa
open Go.RowKit
set_option linter.unusedVariables false
set_option linter.unusedSimpArgs false
attribute [local go_sem ↓] Go.wp_at_zero Go.wp_at_succ

theorem wpList_append_eq {P : Program} {ops : Array Oper} {rest : List Oper} {o : Oper} {a : Act} {w w' : World} {v u v' : Value} {Q : Exit → Act → World → Prop} (hgd : o.guard = none) (s x : Operand) (t : TypeId)
    (ho : o.op = .call { callee := .builtin .append, args := #[s, x], argTypes := #[t, t] }) (hs : a.eval s = v) (hx : a.eval x = u)
    (hrun : (Builtin.append_ #[t, t] o.type #[v, u]).run P w = .ok v' w') (h : wpList P ops Q rest (a.put o.dst v') w') : wpList P ops Q (o :: rest) a w :=
  wpList_plain hgd fun _ hK => wp_append_eq s x t ho hs hx hrun (hK _ _ h)

/-- A row of ints of the call's own. -/
def Ints (w : World) (base : Nat) (v : Value) (xs : List Nat) : Prop := w.ownsRow base 3 1 v xs.length (xs.map (fun n : Nat => Value.int .i64 (n : Int)))
theorem Ints.nil (w : World) (base : Nat) : Ints w base (.slice none 0 0) [] := ⟨rfl, .inl ⟨rfl, rfl⟩⟩
theorem Ints.kept {w w' : World} {base : Nat} {v : Value} {xs : List Nat} {row : Option Nat} (h : Ints w base v xs) (hg : w.grownBy w' row) (hne : v.ownBlock = none ∨ v.ownBlock ≠ row) : Ints w' base v xs :=
  World.ownsRow.kept h hg hne
theorem Ints.chg {F : List Nat} {w w' : World} {base : Nat} {v : Value} {xs : List Nat} (h : Ints w base v xs) (c : Chg F w w') (hF : ∀ x ∈ F, x < base) : Ints w' base v xs := ownsRow_chg h c hF
theorem Ints.form {w : World} {base : Nat} {v : Value} {xs : List Nat} (h : Ints w base v xs) (hx : xs ≠ []) :
    ∃ g cap, v = .slice (some ⟨g, 0, none⟩) xs.length cap ∧ base ≤ g ∧ g < w.heap.size ∧ xs.length ≤ cap ∧ cap ≤ maxLen ∧ ∀ k (hk : k < xs.length), w.cell? ⟨g, k, none⟩ = some (.int .i64 ((xs[k]'hk : Nat) : Int)) := by
  obtain ⟨h1, h2⟩ := h
  rcases h2 with ⟨_, h0⟩ | ⟨g, cap, cur, rfl, hg, hb, hn, hc, hs, ht⟩
  · exact absurd (List.eq_nil_of_length_eq_zero h0) hx
  · refine ⟨g, cap, rfl, hg, (Array.getElem?_eq_some_iff.1 hb).1, hn, hc, fun k hk => ?_⟩
    have e : (xs.map (fun n : Nat => Value.int .i64 (n : Int)))[k]? = some (.int .i64 ((xs[k]'hk : Nat) : Int)) := by rw [List.getElem?_map, List.getElem?_eq_getElem hk]; rfl
    rw [← ht, List.getElem?_take_of_lt (by omega)] at e
    simpa [World.cell?, hb] using e
theorem Try.info3 : (Try.prog.info? 3).map (fun i => (i.zero, i.size, i.bytes)) = some (some (.int .i64 0), 1, 8) := by kernel_rfl
/-- Ints that lie somewhere are put behind a row. -/
theorem ints_app {w : World} {base : Nat} {v : Value} {xs : List Nat} (h : Ints w base v xs) (hbase : base ≤ w.heap.size) {g o m c : Nat} {news : List Nat} (hm : news.length = m)
    (hc : ∀ k (hk : k < news.length), w.cell? ⟨g, o + k, none⟩ = some (.int .i64 ((news[k]'hk : Nat) : Int))) (hl : xs.length + m ≤ 1000000) :
    ∃ v' w', (Builtin.append_ #[23, 23] 23 #[v, .slice (some ⟨g, o, none⟩) m c]).run Try.prog w = .ok v' w' ∧ Ints w' base v' (xs ++ news) ∧ w.grownBy w' v.ownBlock ∧ (v'.ownBlock = v.ownBlock ∨ v'.ownBlock = some w.heap.size) := by
  obtain ⟨i, hi, hz0, hz1, hz2⟩ := info_parts Try.info3
  obtain ⟨v', w', h1, h2, h3, _, h5⟩ := run_append_own_at (P := Try.prog) w base 23 23 3 i (.int .i64 0) 1 8 Try.underlying23 hi hz0 hz1 hz2 rfl (by omega) v xs.length _ h ⟨g, o, none⟩ m c (news.map (fun n : Nat => Value.int .i64 (n : Int))) (by simp [hm])
    (fun j u hu => by
      rw [List.getElem?_map] at hu
      cases hj : news[j]? with
      | none => rw [hj] at hu; cases hu
      | some x =>
        rw [hj] at hu
        obtain rfl : Value.int .i64 (x : Int) = u := by simpa using hu
        obtain ⟨hjl, hje⟩ := List.getElem?_eq_some_iff.1 hj
        have hadd : Addr.add ⟨g, o, none⟩ j = ⟨g, o + j, none⟩ := by unfold Addr.add; split <;> simp_all
        rw [hadd, hc j hjl, hje])
    (by intro u hu; obtain ⟨x, _, rfl⟩ := List.mem_map.1 hu; rfl) (by unfold maxLen; omega) (by omega) hbase
  refine ⟨v', w', h1, ?_, h3, h5⟩
  unfold Ints
  rw [List.length_append, List.map_append, hm]
  exact h2

/-- The turns: a row that came in. -/
def Turns (w : World) (a : Option Addr) (len : Nat) : Prop := ∀ i, i < len → ∃ b off n, a = some ⟨b, off, none⟩ ∧ b < w.heap.size ∧ w.cell? ⟨b, off + i, none⟩ = some (.int .i64 n)

def OrderPost (many : Nat) (w : World) (e : Ending) (w' : World) : Prop := ∃ v out, e = .returned v ∧ Ints w' w.heap.size v out ∧ Good 0 (List.range many) out ∧ Chg [] w w'

theorem erase_at : ∀ {l : List Nat} {k : Nat} (hn : l.Nodup) (hk : k < l.length), l.eraseIdx k = l.erase (l[k]'hk)
  | x :: l, 0, _, _ => by simp
  | x :: l, k + 1, hn, hk => by
    have hn' := List.nodup_cons.1 hn
    have hk' : k < l.length := by simpa using hk
    have hne : x ≠ l[k]'hk' := fun e => hn'.1 (by rw [e]; exact List.getElem_mem hk')
    have ih := erase_at hn'.2 hk'
    simp only [List.eraseIdx_cons_succ, List.getElem_cons_succ]
    rw [List.erase_cons_tail (by simpa using hne), ih]
/-- The choice: which of those that are left. -/
theorem Good.turn {i many k : Nat} {left out : List Nat} (hk : k < left.length) (hs : left.Pairwise (· < ·)) (hw : ∀ j ∈ left, i ≤ j + 7) (hz : left[0]'(by omega) + 7 ≤ i → k = 0)
    (hg : ∀ rest, Good i left rest → Good 0 (List.range many) (out ++ rest)) :
    (left.eraseIdx k).Pairwise (· < ·) ∧ (∀ j ∈ left.eraseIdx k, i + 1 ≤ j + 7) ∧ ∀ rest, Good (i + 1) (left.eraseIdx k) rest → Good 0 (List.range many) ((out ++ [left[k]]) ++ rest) := by
  have hnd : left.Nodup := hs.imp (fun h => by omega)
  have he : left.eraseIdx k = left.erase left[k] := erase_at hnd hk
  have h0 : ∀ j (hj : j < left.length), left[0]'(by omega) ≤ left[j] := fun j hj => by
    rcases Nat.eq_zero_or_pos j with rfl | hp
    · exact Nat.le_refl _
    · exact Nat.le_of_lt (List.pairwise_iff_getElem.1 hs 0 j (by omega) hj hp)
  refine ⟨hs.sublist (List.eraseIdx_sublist _ _), fun j hj => ?_, fun rest hr => ?_⟩
  · rw [he, hnd.mem_erase_iff] at hj
    obtain ⟨hne, hj⟩ := hj
    obtain ⟨q, hq, rfl⟩ := List.mem_iff_getElem.1 hj
    have h1 := hw _ hj
    have h2 := h0 q hq
    rcases Nat.eq_zero_or_pos k with hk0 | hk0
    · subst hk0
      have hq0 : 0 < q := by
        rcases Nat.eq_zero_or_pos q with e | e
        · subst e; exact absurd rfl hne
        · exact e
      have := List.pairwise_iff_getElem.1 hs 0 q (by omega) hq hq0
      have h3 := hw _ (List.getElem_mem (show 0 < left.length by omega))
      omega
    · have : ¬ left[0]'(by omega) + 7 ≤ i := fun h => by have := hz h; omega
      omega
  · rw [List.append_assoc]
    exact hg _ (Good.cons (List.getElem_mem hk) hw (by rw [← he]; exact hr))
end Go.Proofs.Ytkmjpphmciaklaa
