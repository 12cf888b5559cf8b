/- Nothing is lost that comes once: the plain law. SendOnce: what holds behind each call. -/
import Derived.Test.YtkmjpphmciaklaaJ7
import Derived.Test.YtkmjpphmciaklaaJ15
namespace Go.Proofs.Ytkmjpphmciaklaa
set_option linter.unusedVariables false
set_option linter.unusedSimpArgs false

/-- An order of what is left, from the i-th place on: nothing waits for more than 7. -/
inductive Good : Nat → List Nat → List Nat → Prop
  | nil (i : Nat) : Good i [] []
  | cons {i n : Nat} {left out : List Nat} : n ∈ left → (∀ j ∈ left, i ≤ j + 7) → Good (i + 1) (left.erase n) out → Good i left (n :: out)

def numK (first : Int) (j : Nat) : Int := (first + j) % 4294967296
theorem numK_inj {first : Int} {i j : Nat} (hi : i ≤ 1000000) (hj : j ≤ 1000000) (h : numK first i = numK first j) : i = j := by unfold numK at h; omega

section
variable {first : Int} {D : Nat → List Int}

/-- What a run hands on: one number behind the other, till one is not there. -/
theorem run_spec (hi : Nat) (hhi : hi ≤ 1000000) : ∀ (f lo : Nat) (l : List (Int × List Int)), l.length ≤ f → lo ≤ hi → (l.map (·.1)).Nodup → (∀ p ∈ l, ∃ j, lo ≤ j ∧ j < hi ∧ p = (numK first j, D j)) →
    ∃ m, lo + m ≤ hi ∧ (runF f (numK first lo) l).1 = (List.range' lo m).map (fun j => (numK first j, D j)) ∧ (runF f (numK first lo) l).2.1 = numK first (lo + m) ∧
      (∀ p ∈ (runF f (numK first lo) l).2.2, p ∈ l ∧ ∃ j, lo + m < j ∧ j < hi ∧ p = (numK first j, D j)) ∧
      (∀ j, lo + m ≤ j → j < hi → (numK first j, D j) ∈ l → (numK first j, D j) ∈ (runF f (numK first lo) l).2.2) ∧
      (numK first (lo + m), D (lo + m)) ∉ l ∧ (∀ j, lo ≤ j → j < lo + m → (numK first j, D j) ∈ l) ∧ ((runF f (numK first lo) l).2.2.map (·.1)).Nodup ∧
      (runF f (numK first lo) l).2.2.length + m = l.length
  | 0, lo, l, hl, hlo, hn, hk => by
    have : l = [] := List.eq_nil_of_length_eq_zero (by omega)
    subst this
    exact ⟨0, hlo, rfl, rfl, by simp [runF], by simp, by simp, by omega, by simp [runF], rfl⟩
  | f + 1, lo, l, hl, hlo, hn, hk => by
    cases hlk : lk l (numK first lo) with
    | none =>
      rw [runF_none hlk]
      have hnot := lk_none hlk
      refine ⟨0, hlo, rfl, rfl, fun p hp => ?_, fun j _ _ h => h, fun h => hnot _ h rfl, by omega, hn, rfl⟩
      obtain ⟨j, h1, h2, rfl⟩ := hk p hp
      refine ⟨hp, j, ?_, h2, rfl⟩
      rcases Nat.lt_or_ge lo j with h | h
      · exact h
      · have : j = lo := by omega
        subst this
        exact absurd rfl (hnot _ hp)
    | some v =>
      have hm := lk_some hlk
      obtain ⟨j, h1, h2, he⟩ := hk _ hm
      simp only [Prod.mk.injEq] at he
      have hj : lo = j := numK_inj (by omega) (by omega) he.1
      subst hj
      obtain rfl := he.2
      rw [runF_some hlk]
      have hstep : (numK first lo + 1) % 4294967296 = numK first (lo + 1) := by unfold numK; omega
      rw [hstep]
      have hfl : (l.filter (fun p => p.1 != numK first lo)).length + 1 = l.length := by
        have key : ∀ {l : List (Int × List Int)}, (l.map (·.1)).Nodup → (numK first lo, D lo) ∈ l → (l.filter (fun p => p.1 != numK first lo)).length + 1 = l.length := by
          intro l
          induction l with
          | nil => intro _ h; cases h
          | cons x l ih =>
            intro hn hm
            have hn' := List.nodup_cons.1 hn
            by_cases hx : x.1 = numK first lo
            · have : l.filter (fun p => p.1 != numK first lo) = l := by
                rw [List.filter_eq_self]
                intro y hy
                have : y.1 ≠ numK first lo := fun e => hn'.1 (List.mem_map.2 ⟨y, hy, e.trans hx.symm⟩)
                simpa using this
              simp [hx, this]
            · rcases List.mem_cons.1 hm with rfl | hm
              · exact absurd rfl hx
              · have := ih hn'.2 hm
                simp [hx, this]
        exact key hn hm
      obtain ⟨m, i1, i2, i3, i4, i5, i6, i7, i8, i9⟩ := run_spec hi hhi f (lo + 1) (l.filter (fun p => p.1 != numK first lo)) (by omega) (by omega)
        ((List.filter_sublist.map (f := fun p : Int × List Int => p.1)).nodup hn) (fun p hp => by
          rw [List.mem_filter] at hp
          obtain ⟨j, a1, a2, rfl⟩ := hk p hp.1
          refine ⟨j, ?_, a2, rfl⟩
          rcases Nat.lt_or_ge lo j with h | h
          · exact h
          · have : j = lo := by omega
            subst this
            simp at hp)
      have hin : ∀ j, lo < j → j < hi → ((numK first j, D j) ∈ l ↔ (numK first j, D j) ∈ l.filter (fun p => p.1 != numK first lo)) := fun j hj hj2 => by
        rw [List.mem_filter]
        refine ⟨fun h => ⟨h, ?_⟩, fun h => h.1⟩
        have : numK first j ≠ numK first lo := fun e => by have := numK_inj (by omega) (by omega) e; omega
        simpa using this
      have e : lo + 1 + m = lo + (m + 1) := by omega
      rw [e] at i1 i3 i4 i5 i6 i7
      refine ⟨m + 1, i1, ?_, i3, fun p hp => ?_, fun j a b h => i5 j a b ((hin j (by omega) b).1 h), fun h => ?_, fun j a b => ?_, i8, by show (runF _ _ _).2.2.length + (m + 1) = _; omega⟩
      · rw [i2]; rfl
      · obtain ⟨a, b⟩ := i4 p hp
        exact ⟨(List.mem_filter.1 a).1, b⟩
      · obtain ⟨j, a1, a2, a3⟩ := hk _ h
        simp only [Prod.mk.injEq] at a3
        have := numK_inj (by omega) (by omega) a3.1
        exact i6 ((hin _ (by omega) (by omega)).1 h)
      · rcases Nat.lt_or_ge lo j with h | h
        · exact (hin j h (by omega)).2 (i7 j (by omega) b)
        · have : j = lo := by omega
          subst this
          exact hm

/-- What holds when i of them have been put. -/
structure AllInv (first : Int) (D : Nat → List Int) (many i : Nat) (left : List Nat) (next : Nat) (a : Rcv (List Int)) : Prop where
  nd : left.Nodup
  lt : ∀ j ∈ left, next ≤ j ∧ j < many
  le : next ≤ many
  inn : next < many → next ∈ left
  nx : a.nx = numK first next
  ky : ∀ p ∈ a.l, ∃ j, next < j ∧ j < many ∧ j ∉ left ∧ p = (numK first j, D j)
  all : ∀ j, next ≤ j → j < many → j ∉ left → (numK first j, D j) ∈ a.l
  knd : (a.l.map (·.1)).Nodup
  len : a.l.length + next = i
  tw : a.twice = 0
  since : a.since = 0

theorem AllInv.start {many : Nat} (hm : many ≤ 1000) : AllInv first D many 0 (List.range many) 0 ⟨numK first 0, [], 0, 0⟩ :=
  ⟨List.nodup_range, fun j hj => ⟨by omega, by simpa using hj⟩, by omega, fun h => by simpa using h, rfl, by simp, fun j _ h1 h2 => absurd (by simpa using h1) h2, by simp, rfl, rfl, rfl⟩

theorem AllInv.step {many i n next : Nat} {left : List Nat} {a : Rcv (List Int)} (h : AllInv first D many i left next a) (hmany : many ≤ 1000) (hn : n ∈ left) (hw : ∀ j ∈ left, i ≤ j + 7) :
    ∃ m, (a.put 0 (numK first n) (D n)).2 = (List.range' next m).map (fun j => (numK first j, D j)) ∧ AllInv first D many (i + 1) (left.erase n) (next + m) (a.put 0 (numK first n) (D n)).1 := by
  obtain ⟨h1, h2⟩ := h.lt n hn
  have hnk : ∀ p ∈ a.l, p.1 ≠ numK first n := fun p hp e => by
    obtain ⟨j, a1, a2, a3, rfl⟩ := h.ky p hp
    have := numK_inj (by omega) (by omega) e
    subst this
    exact a3 hn
  have hlk : lk a.l (numK first n) = none := by
    cases hl : lk a.l (numK first n) with
    | none => rfl
    | some v => exact absurd rfl (hnk _ (lk_some hl))
  have hdup : a.dup (numK first n) = false := by
    unfold Rcv.dup
    rw [hlk, h.nx]
    by_cases e : numK first n = numK first next
    · simp [e]
    · have : lessB (numK first next) (numK first n) = true := by
        unfold lessB
        have e' : ¬ numK first next = numK first n := fun x => e x.symm
        simp only [bne_iff_ne, ne_eq, e', not_false_eq_true, Bool.and_eq_true, decide_eq_true_eq, true_and]
        unfold numK
        omega
      simp [this]
  have hne : left ≠ [] := fun e => by rw [e] at hn; cases hn
  have hmem : ∀ j, j ∈ left.erase n ↔ j ≠ n ∧ j ∈ left := fun j => h.nd.mem_erase_iff
  have hmore : ((a.more 0 (numK first n) (D n)).l.map (·.1)).Nodup := by
    simp only [Rcv.more, List.map_append, List.map_cons, List.map_nil]
    rw [List.nodup_append]
    refine ⟨h.knd, by simp, fun x hx y hy => ?_⟩
    simp at hy
    subst hy
    obtain ⟨p, hp, rfl⟩ := List.mem_map.1 hx
    exact hnk p hp
  have hsince : (a.more 0 (numK first n) (D n)).since = 0 := by
    show (if a.l.isEmpty then (0 : Int) else a.since) = 0
    rw [h.since]; split <;> rfl
  unfold Rcv.put
  rw [hdup, if_neg (by simp)]
  by_cases en : n = next
  · rw [if_pos (by rw [h.nx, en])]
    subst en
    obtain ⟨m, i1, i2, i3, i4, i5, i6, i7, i8, i9⟩ := run_spec (first := first) (D := D) many (by omega) (a.more 0 (numK first n) (D n)).l.length n (a.more 0 (numK first n) (D n)).l (Nat.le_refl _) (by omega) hmore (fun p hp => by
      rcases List.mem_append.1 hp with hp | hp
      · obtain ⟨j, a1, a2, a3, rfl⟩ := h.ky p hp
        exact ⟨j, by omega, a2, rfl⟩
      · simp at hp
        exact ⟨n, by omega, h2, hp⟩)
    have hm0 : 0 < m := by
      rcases Nat.eq_zero_or_pos m with e | e
      · subst e
        exact absurd (List.mem_append_right _ (by simp)) i6
      · exact e
    have hgone : ∀ j, n ≤ j → j < n + m → j ∉ left.erase n := fun j b1 b2 hj => by
      rw [hmem] at hj
      rcases List.mem_append.1 (i7 j b1 b2) with hp | hp
      · obtain ⟨j', a1, a2, a3, e⟩ := h.ky _ hp
        simp only [Prod.mk.injEq] at e
        have := numK_inj (by omega) (by omega) e.1
        subst this
        exact a3 hj.2
      · simp only [List.mem_singleton, Prod.mk.injEq] at hp
        have := numK_inj (by omega) (by omega) hp.1
        exact hj.1 this
    have hrun : (a.more 0 (numK first n) (D n)).run a.nx 0 = (⟨numK first (n + m), (runF (a.more 0 (numK first n) (D n)).l.length (numK first n) (a.more 0 (numK first n) (D n)).l).2.2, 0, a.twice⟩, (List.range' n m).map (fun j => (numK first j, D j))) := by
      unfold Rcv.run
      rw [h.nx, i2, i3]
      rfl
    rw [hrun]
    have hto : ∀ j, n + m ≤ j → j < many → j ∉ left.erase n → (numK first j, D j) ∈ (a.more 0 (numK first n) (D n)).l := fun j b1 b2 b3 => by
      rw [hmem] at b3
      exact List.mem_append_left _ (h.all j (by omega) b2 (fun hh => b3 ⟨by omega, hh⟩))
    refine ⟨m, rfl, ⟨h.nd.erase n, fun j hj => ?_, i1, fun hlt => ?_, rfl, fun p hp => ?_, fun j b1 b2 b3 => i5 j b1 b2 (hto j b1 b2 b3), i8, ?_, h.tw, rfl⟩⟩
    · have hj' := (hmem j).1 hj
      have := h.lt j hj'.2
      refine ⟨?_, this.2⟩
      rcases Nat.lt_or_ge j (n + m) with hh | hh
      · exact absurd hj (hgone j this.1 hh)
      · exact hh
    · by_cases hh : n + m ∈ left.erase n
      · exact hh
      · exact absurd (hto (n + m) (by omega) hlt hh) i6
    · obtain ⟨b1, j, b2, b3, rfl⟩ := i4 p hp
      refine ⟨j, b2, b3, ?_, rfl⟩
      intro hj
      rw [hmem] at hj
      rcases List.mem_append.1 b1 with hp' | hp'
      · obtain ⟨j', a1, a2, a3, e⟩ := h.ky _ hp'
        simp only [Prod.mk.injEq] at e
        have := numK_inj (by omega) (by omega) e.1
        subst this
        exact a3 hj.2
      · simp only [List.mem_singleton, Prod.mk.injEq] at hp'
        have := numK_inj (by omega) (by omega) hp'.1
        exact hj.1 this
    · show (runF _ _ _).2.2.length + (n + m) = i + 1
      have e1 := Rcv.more_len a 0 (numK first n) (D n)
      have e2 := h.len
      omega
  · rw [if_neg (by rw [h.nx]; intro e; exact en (numK_inj (by omega) (by omega) e))]
    have hnl : next ∈ left := h.inn (by omega)
    have hlen : a.l.length < 8 := by have := hw next hnl; have := h.len; omega
    rw [if_pos hlen]
    refine ⟨0, rfl, ⟨h.nd.erase n, fun j hj => h.lt j ((hmem j).1 hj).2, h.le, fun hlt => (hmem next).2 ⟨fun e => en e.symm, h.inn hlt⟩, h.nx, fun p hp => ?_, fun j b1 b2 b3 => ?_, hmore, ?_, h.tw, hsince⟩⟩
    · rcases List.mem_append.1 hp with hp | hp
      · obtain ⟨j, a1, a2, a3, e⟩ := h.ky p hp
        exact ⟨j, a1, a2, fun hj => a3 ((hmem j).1 hj).2, e⟩
      · simp only [List.mem_singleton] at hp
        exact ⟨n, by show next + 0 < n; omega, h2, fun hj => ((hmem n).1 hj).1 rfl, hp⟩
    · by_cases e : j = n
      · subst e; exact List.mem_append_right _ (by simp)
      · exact List.mem_append_left _ (h.all j b1 b2 (fun hj => b3 ((hmem j).2 ⟨e, hj⟩)))
    · show (a.more 0 (numK first n) (D n)).l.length + (next + 0) = i + 1
      rw [Rcv.more_len]
      have := h.len
      omega
theorem AllInv.done {many i next : Nat} {a : Rcv (List Int)} (h : AllInv first D many i [] next a) : next = many := by
  rcases Nat.lt_or_ge next many with h1 | h1
  · cases h.inn h1
  · have := h.le; omega
end
end Go.Proofs.Ytkmjpphmciaklaa
namespace Go.Proofs.Ytkmjpphmciaklaa
open Go.RowKit
set_option linter.unusedVariables false
set_option linter.unusedSimpArgs false

theorem Try.info29 : (Try.prog.info? 29).map (fun i => (i.zero, i.size, i.bytes)) = some (some (.slice none 0 0), 1, 24) := by kernel_rfl
theorem elem29 : Elem Try.prog 63 29 1 24 (.slice none 0 0) := ⟨Try.underlying63, Try.info29, rfl, by decide, by decide⟩
/-- A row of slices of the call's own. -/
def RowS (R : Value → List Int → Prop) (w : World) (B : Nat) (v : Value) (P : List (List Int)) : Prop := ∃ l : List Value, Own 29 1 w B v (l.map (fun u => [u])) ∧ RelV R l P
theorem RowS.nil (R : Value → List Int → Prop) (w : World) (B : Nat) : RowS R w B (.slice none 0 0) [] := ⟨[], Own.nil _ _ _ _, trivial⟩
theorem RowS.slice {R : Value → List Int → Prop} {w : World} {B : Nat} {v : Value} {P : List (List Int)} (h : RowS R w B v P) : ∃ a c, v = .slice a P.length c := by
  obtain ⟨l, h1, h2⟩ := h
  obtain ⟨a, c, rfl⟩ := h1.slice
  exact ⟨a, c, by rw [List.length_map, h2.len]⟩
theorem RowS.lt {R : Value → List Int → Prop} {w : World} {B : Nat} {v : Value} {P : List (List Int)} (h : RowS R w B v P) : ∀ b, v.ownBlock = some b → B ≤ b ∧ b < w.heap.size := by
  obtain ⟨l, h1, _⟩ := h
  exact h1.lt
theorem RowS.isT {R : Value → List Int → Prop} {w : World} {B : Nat} {v : Value} {P : List (List Int)} (h : RowS R w B v P) {b : Nat} (hb : v.ownBlock = some b) : IsT w b 29 := by
  obtain ⟨l, h1, _⟩ := h
  exact h1.isT hb
theorem RowS.chg {R R' : Value → List Int → Prop} {F : List Nat} {w w' : World} {B : Nat} {v : Value} {P : List (List Int)} (h : RowS R w B v P) (c : Chg F w w') (hF : ∀ b ∈ F, v.ownBlock ≠ some b) (hR : ∀ u d, R u d → R' u d) : RowS R' w' B v P := by
  obtain ⟨l, h1, h2⟩ := h
  exact ⟨l, h1.chg c hF, h2.mono hR⟩
theorem RelV.at {α β : Type} {R : α → β → Prop} : ∀ {l : List α} {m : List β}, RelV R l m → ∀ {k : Nat} {y : β}, m[k]? = some y → ∃ x, l[k]? = some x ∧ R x y
  | [], [], _, k, y, h => by simp at h
  | a :: l, b :: m, hr, 0, y, h => ⟨a, rfl, by simp at h; subst h; exact hr.1⟩
  | a :: l, b :: m, hr, k + 1, y, h => by simpa using RelV.at hr.2 (by simpa using h)
  | [], _ :: _, hr, _, _, _ => hr.elim
  | _ :: _, [], hr, _, _, _ => hr.elim
theorem RowS.cell {R : Value → List Int → Prop} {w : World} {B : Nat} {v : Value} {P : List (List Int)} (h : RowS R w B v P) {a : Option Addr} {n c : Nat} (hv : v = .slice a n c) {k : Nat} {d : List Int} (hk : P[k]? = some d) :
    ∃ g u, a = some ⟨g, 0, none⟩ ∧ g < w.heap.size ∧ w.cell? ⟨g, k, none⟩ = some u ∧ R u d := by
  obtain ⟨l, h1, h2⟩ := h
  obtain ⟨u, hu, hR⟩ := h2.at hk
  obtain ⟨g, cap, he, _, hg, _, _, hq⟩ := h1.form (by
    intro e
    have h0 : (l.map (fun u => [u])).length = 0 := by rw [e]; rfl
    have := (List.getElem?_eq_some_iff.1 hu).1
    rw [List.length_map] at h0
    omega)
  rw [hv] at he
  simp only [Value.slice.injEq] at he
  exact ⟨g, u, he.1, hg, by have := hq k 0 [u] u (by simp [hu]) rfl; simpa using this, hR⟩
/-- One more behind a row. -/
theorem rowS_push {R R' : Value → List Int → Prop} {w : World} {B : Nat} {v : Value} {P : List (List Int)} (h : RowS R w B v P) (hB : B ≤ w.heap.size) {a : Option Addr} {n c : Nat} {d : List Int} (hl : P.length ≤ 100000)
    (hR : ∀ w' u e, Chg v.ownBlock.toList w w' → R u e → R' u e) (hd : ∀ w', Chg v.ownBlock.toList w w' → R' (.slice a n c) d) :
    ∃ v' w', (Builtin.append_ #[63, 63] 63 #[v, .slice (some ⟨w.heap.size, 0, none⟩) 1 1]).run Try.prog (w.alloc (.cells #[.slice a n c] 29)) = .ok v' w' ∧ RowS R' w' B v' (P ++ [d]) ∧ Chg v.ownBlock.toList w w' ∧ ∀ b, v'.ownBlock = some b → v.ownBlock = some b ∨ w.heap.size ≤ b := by
  obtain ⟨l, h1, h2⟩ := h
  obtain ⟨v', w', r1, r2, r3, r4⟩ := own_push elem29 63 h1 hB (x := [.slice a n c]) (c := 1) rfl (by intro u hu; simp at hu; subst hu; rfl) (by rw [List.length_map, h2.len]; omega)
  refine ⟨v', w', r1, ⟨l ++ [.slice a n c], by simpa using r2, (h2.mono (fun u e he => hR w' u e r3 he)).snoc (hd w' r3)⟩, r3, r4⟩

/-- What Pump sends: the first ones of those that wait, with numbers one behind the other. -/
theorem pumpF_spec {α : Type} (s now : Int) : ∀ (l : List α) (nx : Int) (air : List (Int × Int)), 0 ≤ nx → nx < 4294967296 → (air.length : Int) ≤ s → l.length ≤ 1000000 →
    ∃ m, m ≤ l.length ∧ (pumpF s now nx air l).1.length = m ∧ (∀ j x, j < m → l[j]? = some x → (pumpF s now nx air l).1[j]? = some (numK nx j, x)) ∧ (pumpF s now nx air l).2.1 = numK nx m ∧ (pumpF s now nx air l).2.2.2 = l.drop m ∧ ((pumpF s now nx air l).2.2.1.length : Int) ≤ s
  | [], nx, air, h0, h1, ha, _ => ⟨0, Nat.le_refl _, rfl, fun j x hj => by omega, by show nx = _; unfold numK; omega, rfl, ha⟩
  | v :: l, nx, air, h0, h1, ha, hl => by
    by_cases h : (air.length : Int) < s
    · rw [pumpF_go h]
      simp at hl
      obtain ⟨m, i1, i2, i3, i4, i5, i6⟩ := pumpF_spec s now l ((nx + 1) % 4294967296) (air ++ [(nx, now)]) (by omega) (by omega) (by simp; omega) (by omega)
      refine ⟨m + 1, by simp; omega, by simp [i2], fun j x hj hx => ?_, ?_, by simp [i5], i6⟩
      · cases j with
        | zero =>
          simp at hx
          subst hx
          have e : numK nx 0 = nx := by unfold numK; omega
          simp [e]
        | succ j =>
          have := i3 j x (by omega) (by simpa using hx)
          have e : numK ((nx + 1) % 4294967296) j = numK nx (j + 1) := by unfold numK; push_cast; omega
          rw [e] at this
          simpa using this
      · show (pumpF s now ((nx + 1) % 4294967296) (air ++ [(nx, now)]) l).2.1 = _
        rw [i4]
        unfold numK
        push_cast
        omega
    · rw [pumpF_full h]
      exact ⟨0, by omega, rfl, fun j x hj => by omega, by show nx = _; unfold numK; omega, rfl, ha⟩

/-- Behind k calls: P was pushed, n of them are sent. -/
structure OnceSt (first : Int) (p pr g : Nat) (k : Nat) (now : Int) (P : List (List Int)) (n : Nat) (v6 v7 : Value) (a : Snd (List Int)) (w wr : World) : Prop where
  ok : a.Ok
  nown : n ≤ P.length
  wait : P.drop n = a.wait
  nx : a.nx = numK first n
  airs : (a.air.length : Int) ≤ a.s
  lost : a.lost ≤ 16 * k
  now0 : -10 * (k : Int) ≤ now
  now1 : now ≤ 100 * k
  plen : P.length ≤ k
  data : ∀ d ∈ P, d.length ≤ 100
  row6 : RowS (BytS (· < w.heap.size) wr) wr w.heap.size v6 P
  row7 : RowS (Bytes wr) wr w.heap.size v7 (P.take n)
  sep : ∀ b, v6.ownBlock = some b → v7.ownBlock ≠ some b
  sep6 : v6.ownBlock ≠ some g
  sep7 : v7.ownBlock ≠ some g
  snd : ∃ va fr, SndIs wr w.heap.size p pr g va fr a
  chg : Chg [] w wr

theorem OnceSt.keep {first : Int} {p pr g k n : Nat} {now : Int} {P : List (List Int)} {v6 v7 : Value} {a : Snd (List Int)} {w wr w' : World} (h : OnceSt first p pr g k now P n v6 v7 a w wr) (c : Chg [] wr w') : OnceSt first p pr g k now P n v6 v7 a w w' := by
  obtain ⟨va, fr, hS⟩ := h.snd
  exact ⟨h.ok, h.nown, h.wait, h.nx, h.airs, h.lost, h.now0, h.now1, h.plen, h.data, h.row6.chg c (by simp) (fun u d hb => hb.chg c (by simp)), h.row7.chg c (by simp) (fun u d hb => hb.chg c (by simp)), h.sep, h.sep6, h.sep7, ⟨va, fr, hS.keep c⟩, h.chg.trans c⟩
theorem wit_up {s a mo : Int} (h : Win s a mo) : ∀ n, s ≤ (wit mo n (s, a)).1
  | 0 => Int.le_refl _
  | n + 1 => by
    have ih := wit_up h n
    have hw := h.it n
    unfold Win at hw
    show s ≤ (wst mo (wit mo n (s, a))).1
    unfold wst
    split
    · show s ≤ min _ mo; omega
    · exact ih
theorem ack_airs {α : Type} {x : Snd α} (ok : x.Ok) (h : (x.air.length : Int) ≤ x.s) (now seq : Int) : ((x.ack now seq).1.air.length : Int) ≤ (x.ack now seq).1.s := by
  unfold Snd.ack
  split
  · exact h
  · have := wit_up ok.win (cutZ (ackN seq x.nx x.air : Nat) 0 16).toNat
    show ((x.air.drop _).length : Int) ≤ (wit _ _ _).1
    rw [List.length_drop]
    omega
theorem late_airs {α : Type} {x : Snd α} (ok : x.Ok) (h : (x.air.length : Int) ≤ x.s) (now : Int) : ((x.late now).1.air.length : Int) ≤ (x.late now).1.s := by
  have hw := ok.win
  unfold Win at hw
  unfold Snd.late
  split
  · exact h
  · split
    · exact h
    · show ((0 : Nat) : Int) ≤ (x.s + 1) / 2
      omega
theorem ack_same {α : Type} (x : Snd α) (now seq : Int) : (x.ack now seq).1.wait = x.wait ∧ (x.ack now seq).1.nx = x.nx ∧ (x.ack now seq).1.lost = x.lost := by
  unfold Snd.ack; split <;> exact ⟨rfl, rfl, rfl⟩
theorem late_same {α : Type} (x : Snd α) (now : Int) : (x.late now).1.wait = x.wait ∧ (x.late now).1.nx = x.nx := by
  unfold Snd.late
  split
  · exact ⟨rfl, rfl⟩
  · split <;> exact ⟨rfl, rfl⟩

/-- Behind an ack, or when all is given up: P, n and the rows stay. -/
theorem OnceSt.step {first : Int} {p pr g k n fr : Nat} {now now' : Int} {P : List (List Int)} {v6 v7 va va' : Value} {a a' : Snd (List Int)} {w wr w' : World} (h : OnceSt first p pr g k now P n v6 v7 a w wr) (hS : SndIs wr w.heap.size p pr g va fr a)
    (hS' : SndIs w' w.heap.size p pr g va' fr a') (c : Chg (sndF p pr g va) wr w')
    (rows : RowS (BytS (· < w.heap.size) w') w' w.heap.size v6 P ∧ RowS (Bytes w') w' w.heap.size v7 (P.take n) ∧ Chg [] w w')
    (ok : a'.Ok) (hw : a'.wait = a.wait) (hn : a'.nx = a.nx) (ha : (a'.air.length : Int) ≤ a'.s) (hl : a'.lost ≤ a.lost + 16) (h0 : now - 10 ≤ now') (h1 : now' ≤ now + 100) : OnceSt first p pr g (k + 1) now' P n v6 v7 a' w w' := by
  have h2 := h.lost
  have h3 := h.now0
  have h4 := h.now1
  have h5 := h.plen
  exact ⟨ok, h.nown, h.wait.trans hw.symm, hn.trans h.nx, ha, by push_cast; omega, by push_cast; omega, by push_cast; omega, by omega, h.data, rows.1, rows.2.1, h.sep, h.sep6, h.sep7, ⟨va', fr, hS'⟩, rows.2.2⟩
theorem OnceSt.below {first : Int} {p pr g k n : Nat} {now : Int} {P : List (List Int)} {v6 v7 : Value} {a : Snd (List Int)} {w0 w wr : World} (h : OnceSt first p pr g k now P n v6 v7 a w wr) (c : Chg [] w0 w) : Below w0.heap.size w0 wr := (c.trans h.chg).below (Nat.le_refl _) (by simp)
/-- The rows and the old world behind a call of the sender. -/
theorem OnceSt.rows {first : Int} {p pr g k n fr : Nat} {now : Int} {P : List (List Int)} {v6 v7 va : Value} {a : Snd (List Int)} {w wr w' : World} (h : OnceSt first p pr g k now P n v6 v7 a w wr) (hS : SndIs wr w.heap.size p pr g va fr a) (c : Chg (sndF p pr g va) wr w') :
    RowS (BytS (· < w.heap.size) w') w' w.heap.size v6 P ∧ RowS (Bytes w') w' w.heap.size v7 (P.take n) ∧ Chg [] w w' := by
  obtain ⟨l, hA, _⟩ := hS
  have key : ∀ (R : Value → List Int → Prop) (v : Value) (Q : List (List Int)), RowS R wr w.heap.size v Q → v.ownBlock ≠ some g → ∀ b ∈ sndF p pr g va, v.ownBlock ≠ some b := by
    intro R v Q hr hg b hb e
    have ht := hr.isT e
    simp only [sndF, List.mem_cons] at hb
    rcases hb with rfl | rfl | rfl | hb
    · exact ht.ne hA.str.isT (by decide) rfl
    · exact ht.ne hA.ring.isT.1 (by decide) rfl
    · exact hg e
    · exact ht.ne (hA.air.isT (by simpa using hb)) (by decide) rfl
  refine ⟨h.row6.chg c (key _ _ _ h.row6 h.sep6) fun u d hb => hb.chg c fun b _ hs hm => ?_, h.row7.chg c (key _ _ _ h.row7 h.sep7) fun u d hb => hb.chg c hA.noB, h.chg.trans' c fun b hb => Or.inr (hA.kind b hb).1⟩
  have := (hA.kind b hm).1
  omega

/-- What is pushed counts: it is put behind the row of what was pushed. -/
theorem OnceSt.pushed {first : Int} {p pr g k n fr : Nat} {now now' : Int} {P : List (List Int)} {v6 v7 va : Value} {a : Snd (List Int)} {w wr w2 : World} {A : Option Addr} {bc : Nat} {d : List Int} (h : OnceSt first p pr g k now P n v6 v7 a w wr) (hk : k ≤ 1000) (hS : SndIs wr w.heap.size p pr g va fr a)
    (hS2 : SndIs w2 w.heap.size p pr g va fr (a.push d)) (c : Chg (sndF p pr g va) wr w2) (hlt : a.wait.length < 16) (hd : BytS (· < w.heap.size) w (.slice A d.length bc) d) (hdl : d.length ≤ 100) (h0 : now - 10 ≤ now') (h1 : now' ≤ now + 100) :
    ∃ v' w', (Builtin.append_ #[63, 63] 63 #[v6, .slice (some ⟨w2.heap.size, 0, none⟩) 1 1]).run Try.prog (w2.alloc (.cells #[.slice A d.length bc] 29)) = .ok v' w' ∧ OnceSt first p pr g (k + 1) now' (P ++ [d]) n v' v7 (a.push d) w w' := by
  obtain ⟨r6, r7, hc2⟩ := h.rows hS c
  have hpl := h.plen
  have hl6 : ∀ b ∈ v6.ownBlock.toList, w.heap.size ≤ b := fun b hb => (r6.lt b (by simpa using hb)).1
  have hd2 : ∀ w', Chg v6.ownBlock.toList w2 w' → BytS (· < w.heap.size) w' (.slice A d.length bc) d := fun w' c' => (hd.chg hc2 (by simp)).chg c' (fun b _ hs hm => by have := hl6 b hm; omega)
  obtain ⟨v', w', r, r6', cc, hob⟩ := rowS_push (R' := BytS (· < w.heap.size) w2) r6 hc2.size (a := A) (n := d.length) (c := bc) (d := d) (by omega) (fun _ _ _ _ h => h) (fun _ _ => hd.chg hc2 (by simp))
  refine ⟨v', w', r, ?_⟩
  have h2 := h.lost
  have h3 := h.now0
  have h4 := h.now1
  obtain ⟨l2, hA2, hl2⟩ := hS2
  have hn6 : ∀ b ∈ v6.ownBlock.toList, b ∉ sndF p pr g va := by
    intro b hb hm
    have e : v6.ownBlock = some b := by simpa using hb
    have ht := r6.isT e
    simp only [sndF, List.mem_cons] at hm
    rcases hm with rfl | rfl | rfl | hm
    · exact ht.ne hA2.str.isT (by decide) rfl
    · exact ht.ne hA2.ring.isT.1 (by decide) rfl
    · exact h.sep6 e
    · exact ht.ne (hA2.air.isT (by simpa using hm)) (by decide) rfl
  have hnb : ∀ b ∈ v6.ownBlock.toList, NoB w2 b := fun b hb => (r6.isT (by simpa using hb)).noB (by decide)
  have hpush : (a.push d).wait = a.wait ++ [d] ∧ (a.push d).nx = a.nx ∧ (a.push d).air = a.air ∧ (a.push d).s = a.s ∧ (a.push d).lost = a.lost := by
    unfold Snd.push; rw [if_pos hlt]; exact ⟨rfl, rfl, rfl, rfl, rfl⟩
  have hdrop : (P ++ [d]).drop n = P.drop n ++ [d] := List.drop_append_of_le_length h.nown
  have htake : (P ++ [d]).take n = P.take n := List.take_append_of_le_length h.nown
  have hno := h.nown
  refine ⟨Snd.push_ok h.ok d, by simp; omega, by rw [hdrop, h.wait, hpush.1], hpush.2.1.trans h.nx, by rw [hpush.2.2.1, hpush.2.2.2.1]; exact h.airs, by rw [hpush.2.2.2.2]; push_cast; omega, by push_cast; omega, by push_cast; omega, by simp; omega, fun x hx => ?_, r6'.chg (Chg.refl [] w') (by simp) (fun u e hb => hb.chg cc (fun b _ hs hm => by have := hl6 b hm; omega)), ?_, fun b hb e => ?_, fun e => ?_, h.sep7, ⟨va, fr, l2, hA2.chg cc hn6, hl2.mono fun _ _ hb => hb.chg cc hnb⟩, hc2.trans' cc (fun b hb => Or.inr (hl6 b hb))⟩
  · rcases List.mem_append.1 hx with hx | hx
    · exact h.data x hx
    · simp at hx; subst hx; exact hdl
  · rw [htake]
    exact r7.chg cc (fun b hb e => h.sep b (by simpa using hb) e) (fun u e hb => hb.chg cc hnb)
  · rcases hob b hb with h' | h'
    · exact h.sep b h' e
    · have := (r7.lt b e).2; omega
  · rcases hob g e with h' | h'
    · exact h.sep6 h'
    · have := hA2.ring.lt.2; omega
end Go.Proofs.Ytkmjpphmciaklaa
