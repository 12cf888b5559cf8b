/- Nothing is lost that comes once: the plain law. -/
import Derived.Test.YtkmjpphmciaklaaRecv6
namespace Go.Proofs.Ytkmjpphmciaklaa
set_option linter.unusedVariables false
set_option linter.unusedSimpArgs false

/-- An order of what is left, from the i-th place on: nothing waits for more than 7. -/
inductive Good : Nat → List Nat → List Nat → Prop
  | nil (i : Nat) : Good i [] []
  | cons {i n : Nat} {left out : List Nat} : n ∈ left → (∀ j ∈ left, i ≤ j + 7) → Good (i + 1) (left.erase n) out → Good i left (n :: out)

def numK (first : Int) (j : Nat) : Int := (first + j) % 4294967296
theorem numK_inj {first : Int} {i j : Nat} (hi : i ≤ 1000000) (hj : j ≤ 1000000) (h : numK first i = numK first j) : i = j := by unfold numK at h; omega

section
variable {first : Int} {D : Nat → List Int}

/-- What a run hands on: one number behind the other, till one is not there. -/
theorem run_spec (hi : Nat) (hhi : hi ≤ 1000000) : ∀ (f lo : Nat) (l : List (Int × List Int)), l.length ≤ f → lo ≤ hi → (l.map (·.1)).Nodup → (∀ p ∈ l, ∃ j, lo ≤ j ∧ j < hi ∧ p = (numK first j, D j)) →
    ∃ m, lo + m ≤ hi ∧ (runF f (numK first lo) l).1 = (List.range' lo m).map (fun j => (numK first j, D j)) ∧ (runF f (numK first lo) l).2.1 = numK first (lo + m) ∧
      (∀ p ∈ (runF f (numK first lo) l).2.2, p ∈ l ∧ ∃ j, lo + m < j ∧ j < hi ∧ p = (numK first j, D j)) ∧
      (∀ j, lo + m ≤ j → j < hi → (numK first j, D j) ∈ l → (numK first j, D j) ∈ (runF f (numK first lo) l).2.2) ∧
      (numK first (lo + m), D (lo + m)) ∉ l ∧ (∀ j, lo ≤ j → j < lo + m → (numK first j, D j) ∈ l) ∧ ((runF f (numK first lo) l).2.2.map (·.1)).Nodup ∧
      (runF f (numK first lo) l).2.2.length + m = l.length
  | 0, lo, l, hl, hlo, hn, hk => by
    have : l = [] := List.eq_nil_of_length_eq_zero (by omega)
    subst this
    exact ⟨0, hlo, rfl, rfl, by simp [runF], by simp, by simp, by omega, by simp [runF], rfl⟩
  | f + 1, lo, l, hl, hlo, hn, hk => by
    cases hlk : lk l (numK first lo) with
    | none =>
      rw [runF_none hlk]
      have hnot := lk_none hlk
      refine ⟨0, hlo, rfl, rfl, fun p hp => ?_, fun j _ _ h => h, fun h => hnot _ h rfl, by omega, hn, rfl⟩
      obtain ⟨j, h1, h2, rfl⟩ := hk p hp
      refine ⟨hp, j, ?_, h2, rfl⟩
      rcases Nat.lt_or_ge lo j with h | h
      · exact h
      · have : j = lo := by omega
        subst this
        exact absurd rfl (hnot _ hp)
    | some v =>
      have hm := lk_some hlk
      obtain ⟨j, h1, h2, he⟩ := hk _ hm
      simp only [Prod.mk.injEq] at he
      have hj : lo = j := numK_inj (by omega) (by omega) he.1
      subst hj
      obtain rfl := he.2
      rw [runF_some hlk]
      have hstep : (numK first lo + 1) % 4294967296 = numK first (lo + 1) := by unfold numK; omega
      rw [hstep]
      have hfl : (l.filter (fun p => p.1 != numK first lo)).length + 1 = l.length := by
        have key : ∀ {l : List (Int × List Int)}, (l.map (·.1)).Nodup → (numK first lo, D lo) ∈ l → (l.filter (fun p => p.1 != numK first lo)).length + 1 = l.length := by
          intro l
          induction l with
          | nil => intro _ h; cases h
          | cons x l ih =>
            intro hn hm
            have hn' := List.nodup_cons.1 hn
            by_cases hx : x.1 = numK first lo
            · have : l.filter (fun p => p.1 != numK first lo) = l := by
                rw [List.filter_eq_self]
                intro y hy
                have : y.1 ≠ numK first lo := fun e => hn'.1 (List.mem_map.2 ⟨y, hy, e.trans hx.symm⟩)
                simpa using this
              simp [hx, this]
            · rcases List.mem_cons.1 hm with rfl | hm
              · exact absurd rfl hx
              · have := ih hn'.2 hm
                simp [hx, this]
        exact key hn hm
      obtain ⟨m, i1, i2, i3, i4, i5, i6, i7, i8, i9⟩ := run_spec hi hhi f (lo + 1) (l.filter (fun p => p.1 != numK first lo)) (by omega) (by omega)
        ((List.filter_sublist.map (f := fun p : Int × List Int => p.1)).nodup hn) (fun p hp => by
          rw [List.mem_filter] at hp
          obtain ⟨j, a1, a2, rfl⟩ := hk p hp.1
          refine ⟨j, ?_, a2, rfl⟩
          rcases Nat.lt_or_ge lo j with h | h
          · exact h
          · have : j = lo := by omega
            subst this
            simp at hp)
      have hin : ∀ j, lo < j → j < hi → ((numK first j, D j) ∈ l ↔ (numK first j, D j) ∈ l.filter (fun p => p.1 != numK first lo)) := fun j hj hj2 => by
        rw [List.mem_filter]
        refine ⟨fun h => ⟨h, ?_⟩, fun h => h.1⟩
        have : numK first j ≠ numK first lo := fun e => by have := numK_inj (by omega) (by omega) e; omega
        simpa using this
      have e : lo + 1 + m = lo + (m + 1) := by omega
      rw [e] at i1 i3 i4 i5 i6 i7
      refine ⟨m + 1, i1, ?_, i3, fun p hp => ?_, fun j a b h => i5 j a b ((hin j (by omega) b).1 h), fun h => ?_, fun j a b => ?_, i8, by show (runF _ _ _).2.2.length + (m + 1) = _; omega⟩
      · rw [i2]; rfl
      · obtain ⟨a, b⟩ := i4 p hp
        exact ⟨(List.mem_filter.1 a).1, b⟩
      · obtain ⟨j, a1, a2, a3⟩ := hk _ h
        simp only [Prod.mk.injEq] at a3
        have := numK_inj (by omega) (by omega) a3.1
        exact i6 ((hin _ (by omega) (by omega)).1 h)
      · rcases Nat.lt_or_ge lo j with h | h
        · exact (hin j h (by omega)).2 (i7 j (by omega) b)
        · have : j = lo := by omega
          subst this
          exact hm

/-- What holds when i of them have been put. -/
structure AllInv (first : Int) (D : Nat → List Int) (many i : Nat) (left : List Nat) (next : Nat) (a : Rcv (List Int)) : Prop where
  nd : left.Nodup
  lt : ∀ j ∈ left, next ≤ j ∧ j < many
  le : next ≤ many
  inn : next < many → next ∈ left
  nx : a.nx = numK first next
  ky : ∀ p ∈ a.l, ∃ j, next < j ∧ j < many ∧ j ∉ left ∧ p = (numK first j, D j)
  all : ∀ j, next ≤ j → j < many → j ∉ left → (numK first j, D j) ∈ a.l
  knd : (a.l.map (·.1)).Nodup
  len : a.l.length + next = i
  tw : a.twice = 0
  since : a.since = 0

theorem AllInv.start {many : Nat} (hm : many ≤ 1000) : AllInv first D many 0 (List.range many) 0 ⟨numK first 0, [], 0, 0⟩ :=
  ⟨List.nodup_range, fun j hj => ⟨by omega, by simpa using hj⟩, by omega, fun h => by simpa using h, rfl, by simp, fun j _ h1 h2 => absurd (by simpa using h1) h2, by simp, rfl, rfl, rfl⟩

theorem AllInv.step {many i n next : Nat} {left : List Nat} {a : Rcv (List Int)} (h : AllInv first D many i left next a) (hmany : many ≤ 1000) (hn : n ∈ left) (hw : ∀ j ∈ left, i ≤ j + 7) :
    ∃ m, (a.put 0 (numK first n) (D n)).2 = (List.range' next m).map (fun j => (numK first j, D j)) ∧ AllInv first D many (i + 1) (left.erase n) (next + m) (a.put 0 (numK first n) (D n)).1 := by
  obtain ⟨h1, h2⟩ := h.lt n hn
  have hnk : ∀ p ∈ a.l, p.1 ≠ numK first n := fun p hp e => by
    obtain ⟨j, a1, a2, a3, rfl⟩ := h.ky p hp
    have := numK_inj (by omega) (by omega) e
    subst this
    exact a3 hn
  have hlk : lk a.l (numK first n) = none := by
    cases hl : lk a.l (numK first n) with
    | none => rfl
    | some v => exact absurd rfl (hnk _ (lk_some hl))
  have hdup : a.dup (numK first n) = false := by
    unfold Rcv.dup
    rw [hlk, h.nx]
    by_cases e : numK first n = numK first next
    · simp [e]
    · have : lessB (numK first next) (numK first n) = true := by
        unfold lessB
        have e' : ¬ numK first next = numK first n := fun x => e x.symm
        simp only [bne_iff_ne, ne_eq, e', not_false_eq_true, Bool.and_eq_true, decide_eq_true_eq, true_and]
        unfold numK
        omega
      simp [this]
  have hne : left ≠ [] := fun e => by rw [e] at hn; cases hn
  have hmem : ∀ j, j ∈ left.erase n ↔ j ≠ n ∧ j ∈ left := fun j => h.nd.mem_erase_iff
  have hmore : ((a.more 0 (numK first n) (D n)).l.map (·.1)).Nodup := by
    simp only [Rcv.more, List.map_append, List.map_cons, List.map_nil]
    rw [List.nodup_append]
    refine ⟨h.knd, by simp, fun x hx y hy => ?_⟩
    simp at hy
    subst hy
    obtain ⟨p, hp, rfl⟩ := List.mem_map.1 hx
    exact hnk p hp
  have hsince : (a.more 0 (numK first n) (D n)).since = 0 := by
    show (if a.l.isEmpty then (0 : Int) else a.since) = 0
    rw [h.since]; split <;> rfl
  unfold Rcv.put
  rw [hdup, if_neg (by simp)]
  by_cases en : n = next
  · rw [if_pos (by rw [h.nx, en])]
    subst en
    obtain ⟨m, i1, i2, i3, i4, i5, i6, i7, i8, i9⟩ := run_spec (first := first) (D := D) many (by omega) (a.more 0 (numK first n) (D n)).l.length n (a.more 0 (numK first n) (D n)).l (Nat.le_refl _) (by omega) hmore (fun p hp => by
      rcases List.mem_append.1 hp with hp | hp
      · obtain ⟨j, a1, a2, a3, rfl⟩ := h.ky p hp
        exact ⟨j, by omega, a2, rfl⟩
      · simp at hp
        exact ⟨n, by omega, h2, hp⟩)
    have hm0 : 0 < m := by
      rcases Nat.eq_zero_or_pos m with e | e
      · subst e
        exact absurd (List.mem_append_right _ (by simp)) i6
      · exact e
    have hgone : ∀ j, n ≤ j → j < n + m → j ∉ left.erase n := fun j b1 b2 hj => by
      rw [hmem] at hj
      rcases List.mem_append.1 (i7 j b1 b2) with hp | hp
      · obtain ⟨j', a1, a2, a3, e⟩ := h.ky _ hp
        simp only [Prod.mk.injEq] at e
        have := numK_inj (by omega) (by omega) e.1
        subst this
        exact a3 hj.2
      · simp only [List.mem_singleton, Prod.mk.injEq] at hp
        have := numK_inj (by omega) (by omega) hp.1
        exact hj.1 this
    have hrun : (a.more 0 (numK first n) (D n)).run a.nx 0 = (⟨numK first (n + m), (runF (a.more 0 (numK first n) (D n)).l.length (numK first n) (a.more 0 (numK first n) (D n)).l).2.2, 0, a.twice⟩, (List.range' n m).map (fun j => (numK first j, D j))) := by
      unfold Rcv.run
      rw [h.nx, i2, i3]
      rfl
    rw [hrun]
    have hto : ∀ j, n + m ≤ j → j < many → j ∉ left.erase n → (numK first j, D j) ∈ (a.more 0 (numK first n) (D n)).l := fun j b1 b2 b3 => by
      rw [hmem] at b3
      exact List.mem_append_left _ (h.all j (by omega) b2 (fun hh => b3 ⟨by omega, hh⟩))
    refine ⟨m, rfl, ⟨h.nd.erase n, fun j hj => ?_, i1, fun hlt => ?_, rfl, fun p hp => ?_, fun j b1 b2 b3 => i5 j b1 b2 (hto j b1 b2 b3), i8, ?_, h.tw, rfl⟩⟩
    · have hj' := (hmem j).1 hj
      have := h.lt j hj'.2
      refine ⟨?_, this.2⟩
      rcases Nat.lt_or_ge j (n + m) with hh | hh
      · exact absurd hj (hgone j this.1 hh)
      · exact hh
    · by_cases hh : n + m ∈ left.erase n
      · exact hh
      · exact absurd (hto (n + m) (by omega) hlt hh) i6
    · obtain ⟨b1, j, b2, b3, rfl⟩ := i4 p hp
      refine ⟨j, b2, b3, ?_, rfl⟩
      intro hj
      rw [hmem] at hj
      rcases List.mem_append.1 b1 with hp' | hp'
      · obtain ⟨j', a1, a2, a3, e⟩ := h.ky _ hp'
        simp only [Prod.mk.injEq] at e
        have := numK_inj (by omega) (by omega) e.1
        subst this
        exact a3 hj.2
      · simp only [List.mem_singleton, Prod.mk.injEq] at hp'
        have := numK_inj (by omega) (by omega) hp'.1
        exact hj.1 this
    · show (runF _ _ _).2.2.length + (n + m) = i + 1
      have e1 := Rcv.more_len a 0 (numK first n) (D n)
      have e2 := h.len
      omega
  · rw [if_neg (by rw [h.nx]; intro e; exact en (numK_inj (by omega) (by omega) e))]
    have hnl : next ∈ left := h.inn (by omega)
    have hlen : a.l.length < 8 := by have := hw next hnl; have := h.len; omega
    rw [if_pos hlen]
    refine ⟨0, rfl, ⟨h.nd.erase n, fun j hj => h.lt j ((hmem j).1 hj).2, h.le, fun hlt => (hmem next).2 ⟨fun e => en e.symm, h.inn hlt⟩, h.nx, fun p hp => ?_, fun j b1 b2 b3 => ?_, hmore, ?_, h.tw, hsince⟩⟩
    · rcases List.mem_append.1 hp with hp | hp
      · obtain ⟨j, a1, a2, a3, e⟩ := h.ky p hp
        exact ⟨j, a1, a2, fun hj => a3 ((hmem j).1 hj).2, e⟩
      · simp only [List.mem_singleton] at hp
        exact ⟨n, by show next + 0 < n; omega, h2, fun hj => ((hmem n).1 hj).1 rfl, hp⟩
    · by_cases e : j = n
      · subst e; exact List.mem_append_right _ (by simp)
      · exact List.mem_append_left _ (h.all j b1 b2 (fun hj => b3 ((hmem j).2 ⟨e, hj⟩)))
    · show (a.more 0 (numK first n) (D n)).l.length + (next + 0) = i + 1
      rw [Rcv.more_len]
      have := h.len
      omega
theorem AllInv.done {many i next : Nat} {a : Rcv (List Int)} (h : AllInv first D many i [] next a) : next = many := by
  rcases Nat.lt_or_ge next many with h1 | h1
  · cases h.inn h1
  · have := h.le; omega
end
end Go.Proofs.Ytkmjpphmciaklaa
