/- What is handed on rises: the plain law. -/
import Derived.Test.YtkmjpphmciaklaaJ16
namespace Go.Proofs.Ytkmjpphmciaklaa
set_option linter.unusedVariables false
set_option linter.unusedSimpArgs false

theorem put_since {α : Type} {r : Rcv α} {now seq : Int} {d : α} (h0 : 0 ≤ r.since) (h1 : r.since ≤ now) : 0 ≤ (r.put now seq d).1.since ∧ (r.put now seq d).1.since ≤ now := by
  unfold Rcv.put
  split
  · exact ⟨h0, h1⟩
  · split
    · exact ⟨by show 0 ≤ now; omega, Int.le_refl _⟩
    · split
      · show 0 ≤ (if r.l.isEmpty then now else r.since) ∧ (if r.l.isEmpty then now else r.since) ≤ now
        split
        · exact ⟨by omega, Int.le_refl _⟩
        · exact ⟨h0, h1⟩
      · exact ⟨by show 0 ≤ now; omega, Int.le_refl _⟩
theorem tick_since {α : Type} {r : Rcv α} {now : Int} (h0 : 0 ≤ r.since) (h1 : r.since ≤ now) : 0 ≤ (r.tick now).1.since ∧ (r.tick now).1.since ≤ now := by
  unfold Rcv.tick
  split
  · exact ⟨h0, h1⟩
  · exact ⟨by show 0 ≤ now; omega, Int.le_refl _⟩

/-- A receiver whose next number is the nb-th; what waits came, and lies from there on. -/
structure RisesInv (first : Int) (D : Nat → List Int) (came : Nat → Prop) (hi nb : Nat) (a : Rcv (List Int)) : Prop where
  le : nb ≤ hi
  nx : a.nx = numK first nb
  ky : ∀ p ∈ a.l, ∃ j, nb ≤ j ∧ j < hi ∧ came j ∧ p = (numK first j, D j)
  knd : (a.l.map (·.1)).Nodup

section
variable {first : Int} {D : Nat → List Int} {came : Nat → Prop} {hi nb : Nat} {a : Rcv (List Int)}
theorem RisesInv.run (h : RisesInv first D came hi nb a) (hhi : hi ≤ 1000000) {lo : Nat} (hlo : nb ≤ lo) (hlh : lo ≤ hi) (hge : ∀ p ∈ a.l, ∃ j, lo ≤ j ∧ j < hi ∧ came j ∧ p = (numK first j, D j)) (now : Int) :
    ∃ m, lo + m ≤ hi ∧ (a.run (numK first lo) now).2 = (List.range' lo m).map (fun j => (numK first j, D j)) ∧ (∀ j, lo ≤ j → j < lo + m → came j) ∧ RisesInv first D came hi (lo + m) (a.run (numK first lo) now).1 := by
  obtain ⟨m, i1, i2, i3, i4, i5, i6, i7, i8, i9⟩ := run_spec (first := first) (D := D) hi hhi a.l.length lo a.l (Nat.le_refl _) hlh h.knd (fun p hp => by
    obtain ⟨j, a1, a2, a3, e⟩ := hge p hp
    exact ⟨j, a1, a2, e⟩)
  refine ⟨m, i1, i2, fun j b1 b2 => ?_, ⟨i1, i3, fun p hp => ?_, i8⟩⟩
  · obtain ⟨j', a1, a2, a3, e⟩ := hge _ (i7 j b1 b2)
    simp only [Prod.mk.injEq] at e
    have := numK_inj (by omega) (by omega) e.1
    subst this
    exact a3
  · obtain ⟨hp', j, b1, b2, e⟩ := i4 p hp
    obtain ⟨j', a1, a2, a3, e'⟩ := hge p hp'
    rw [e] at e'
    simp only [Prod.mk.injEq] at e'
    have := numK_inj (by omega) (by omega) e'.1
    subst this
    exact ⟨j, by omega, b2, a3, e⟩
theorem RisesInv.least (h : RisesInv first D came hi nb a) (hhi : hi ≤ 1000000) (hne : a.l ≠ []) :
    ∃ lo, nb ≤ lo ∧ lo ≤ hi ∧ leastK a.nx a.l = numK first lo ∧ ∀ p ∈ a.l, ∃ j, lo ≤ j ∧ j < hi ∧ came j ∧ p = (numK first j, D j) := by
  obtain ⟨⟨q, hq, e1⟩, e2⟩ := leastK_spec a.nx a.l hne
  obtain ⟨j, a1, a2, a3, rfl⟩ := h.ky q hq
  refine ⟨j, a1, by omega, e1, fun p hp => ?_⟩
  obtain ⟨j', b1, b2, b3, rfl⟩ := h.ky p hp
  have := e2 _ hp
  rw [e1, h.nx] at this
  unfold off numK at this
  simp only at this
  exact ⟨j', by omega, b2, b3, rfl⟩
theorem RisesInv.tick (h : RisesInv first D came hi nb a) (hhi : hi ≤ 1000000) (now : Int) :
    ∃ lo m, nb ≤ lo ∧ lo + m ≤ hi ∧ (a.tick now).2 = (List.range' lo m).map (fun j => (numK first j, D j)) ∧ (∀ j, lo ≤ j → j < lo + m → came j) ∧ RisesInv first D came hi (lo + m) (a.tick now).1 := by
  unfold Rcv.tick
  split
  · exact ⟨nb, 0, Nat.le_refl _, h.le, rfl, fun j _ _ => by omega, h⟩
  · rename_i hc
    have hne : a.l ≠ [] := by intro e; rw [e] at hc; simp at hc
    obtain ⟨lo, b1, b2, b3, b4⟩ := h.least hhi hne
    rw [b3]
    obtain ⟨m, c1, c2, c3, c4⟩ := h.run hhi b1 b2 b4 now
    exact ⟨lo, m, b1, c1, c2, c3, c4⟩
theorem RisesInv.put (h : RisesInv first D came hi nb a) (hhi : hi ≤ 1000000) (now : Int) {n : Nat} (hn : n < hi) (hc : came n) :
    ∃ lo m, nb ≤ lo ∧ lo + m ≤ hi ∧ (a.put now (numK first n) (D n)).2 = (List.range' lo m).map (fun j => (numK first j, D j)) ∧ (∀ j, lo ≤ j → j < lo + m → came j) ∧ RisesInv first D came hi (lo + m) (a.put now (numK first n) (D n)).1 := by
  have hle := h.le
  unfold Rcv.put
  split
  · exact ⟨nb, 0, Nat.le_refl _, h.le, rfl, fun j _ _ => by omega, ⟨h.le, h.nx, h.ky, h.knd⟩⟩
  · rename_i hd
    have hd' : a.dup (numK first n) = false := by simpa using hd
    have hlk : lk a.l (numK first n) = none := by
      cases hl : lk a.l (numK first n) with
      | none => rfl
      | some x => simp [Rcv.dup, hl] at hd'
    have hnb : nb ≤ n := by
      rcases Nat.lt_or_ge n nb with hlt | hge
      · have h1 : (numK first n != a.nx && !lessB a.nx (numK first n)) = false := by simpa [Rcv.dup, hlk] using hd'
        rw [h.nx] at h1
        have hne : numK first n ≠ numK first nb := fun e => by have := numK_inj (by omega) (by omega) e; omega
        have h2 : lessB (numK first nb) (numK first n) = true := by simpa [hne] using h1
        unfold lessB at h2
        simp only [Bool.and_eq_true, decide_eq_true_eq] at h2
        have h3 := h2.2
        unfold numK at h3
        omega
      · exact hge
    have hm : RisesInv first D came hi nb (a.more now (numK first n) (D n)) := by
      refine ⟨h.le, h.nx, fun p hp => ?_, ?_⟩
      · rcases List.mem_append.1 hp with hp | hp
        · exact h.ky p hp
        · simp only [List.mem_singleton] at hp
          exact ⟨n, hnb, hn, hc, hp⟩
      · simp only [Rcv.more, List.map_append, List.map_cons, List.map_nil]
        rw [List.nodup_append]
        refine ⟨h.knd, by simp, fun x hx y hy => ?_⟩
        simp at hy
        subst hy
        obtain ⟨p, hp, rfl⟩ := List.mem_map.1 hx
        exact lk_none hlk p hp
    split
    · obtain ⟨m, c1, c2, c3, c4⟩ := hm.run hhi (Nat.le_refl _) h.le hm.ky now
      rw [h.nx]
      exact ⟨nb, m, Nat.le_refl _, c1, c2, c3, c4⟩
    · split
      · exact ⟨nb, 0, Nat.le_refl _, h.le, rfl, fun j _ _ => by omega, hm⟩
      · obtain ⟨lo, b1, b2, b3, b4⟩ := hm.least hhi (by simp [Rcv.more])
        have b3' : leastK a.nx (a.more now (numK first n) (D n)).l = numK first lo := b3
        rw [b3']
        obtain ⟨m, c1, c2, c3, c4⟩ := hm.run hhi b1 b2 b4 now
        exact ⟨lo, m, b1, c1, c2, c3, c4⟩
end
end Go.Proofs.Ytkmjpphmciaklaa
