/- Rows of the call's own, of elements of any size: what append does to them; one element taken out of the midst. Contracts of catwalkref31 over this seat's translation: find, Less. -/
import Derived.Test.YtkmjpphmciaklaaJ1
import Derived.Maps.AppendAt
import Derived.Laws.AppendOwn
import Derived.Laws.OwnMore
import Derived.Test.YtkmjpphmciaklaaJ7
import Derived.LoopTactic
namespace Go.Proofs.Ytkmjpphmciaklaa
open Go.RowKit
set_option linter.unusedVariables false
set_option linter.unusedSimpArgs false

/-- What is asked of a slice type t and its element type E: sz cells, by_ bytes, zero z. -/
structure Elem (P : Program) (t E sz by_ : Nat) (z : Value) : Prop where
  ht : P.underlying t = some (.slice E)
  info : (P.info? E).map (fun i => (i.zero, i.size, i.bytes)) = some (some z, sz, by_)
  zs : z.cells.size = sz
  pos : 0 < sz
  small : by_ ≤ 100

/-- Elements of sz cells, each cell one. -/
def Flat (sz : Nat) (xs : List (List Value)) : Prop := ∀ x ∈ xs, x.length = sz ∧ ∀ u ∈ x, u.oneCell' = true
theorem Flat.app {sz : Nat} {xs ys : List (List Value)} (h : Flat sz xs) (k : Flat sz ys) : Flat sz (xs ++ ys) := fun x hx => by
  rcases List.mem_append.1 hx with hx | hx
  · exact h x hx
  · exact k x hx
theorem Flat.sub {sz : Nat} {xs ys : List (List Value)} (h : Flat sz xs) (k : ∀ x ∈ ys, x ∈ xs) : Flat sz ys := fun x hx => h x (k x hx)
theorem Flat.nil (sz : Nat) : Flat sz [] := fun x hx => by cases hx
theorem Flat.one {sz : Nat} {x : List Value} (h : x.length = sz) (h1 : ∀ u ∈ x, u.oneCell' = true) : Flat sz [x] := fun y hy => by
  simp at hy; subst hy; exact ⟨h, h1⟩
theorem Flat.len {sz : Nat} : ∀ {xs : List (List Value)}, Flat sz xs → xs.flatten.length = xs.length * sz
  | [], _ => by simp
  | x :: xs, h => by
    have h1 := Flat.len (h.sub (fun y hy => List.mem_cons_of_mem x hy))
    have h2 := (h x (by simp)).1
    simp only [List.flatten_cons, List.length_append, List.length_cons, h1, h2, Nat.succ_mul]
    omega
theorem Flat.at {sz : Nat} : ∀ {xs : List (List Value)}, Flat sz xs → ∀ {k j : Nat} {x : List Value} {u : Value}, xs[k]? = some x → x[j]? = some u → xs.flatten[k * sz + j]? = some u
  | [], _, k, j, x, u, h, _ => by simp at h
  | y :: xs, h, 0, j, x, u, hx, hu => by
    simp at hx; subst hx
    have hj : j < y.length := (List.getElem?_eq_some_iff.1 hu).1
    rw [List.flatten_cons, Nat.zero_mul, Nat.zero_add, List.getElem?_append_left hj]
    exact hu
  | y :: xs, h, k + 1, j, x, u, hx, hu => by
    have h2 := (h y (by simp)).1
    rw [List.flatten_cons, List.getElem?_append_right (by rw [h2, Nat.succ_mul]; omega)]
    have e : (k + 1) * sz + j - y.length = k * sz + j := by rw [h2, Nat.succ_mul]; omega
    rw [e]
    exact Flat.at (h.sub (fun z hz => List.mem_cons_of_mem y hz)) (by simpa using hx) hu
theorem Flat.drop {sz : Nat} : ∀ {xs : List (List Value)}, Flat sz xs → ∀ k, (xs.drop k).flatten = xs.flatten.drop (k * sz)
  | [], _, k => by simp
  | y :: xs, h, 0 => by simp
  | y :: xs, h, k + 1 => by
    have h2 := (h y (by simp)).1
    have ih := Flat.drop (h.sub (fun z hz => List.mem_cons_of_mem y hz)) k
    rw [List.drop_succ_cons, ih, List.flatten_cons]
    have e : (k + 1) * sz = y.length + k * sz := by rw [h2, Nat.succ_mul]; omega
    rw [e, ← List.drop_drop, List.drop_left]
theorem Flat.take {sz : Nat} : ∀ {xs : List (List Value)}, Flat sz xs → ∀ k, (xs.take k).flatten = xs.flatten.take (k * sz)
  | [], _, k => by simp
  | y :: xs, h, 0 => by simp
  | y :: xs, h, k + 1 => by
    have h2 := (h y (by simp)).1
    have ih := Flat.take (h.sub (fun z hz => List.mem_cons_of_mem y hz)) k
    rw [List.take_succ_cons, List.flatten_cons, ih, List.flatten_cons]
    have e : (k + 1) * sz = y.length + k * sz := by rw [h2, Nat.succ_mul]; omega
    rw [e, List.take_length_add_append]

/-- A row of the call's own: its elements, each as its cells. -/
def Own (E sz : Nat) (w : World) (base : Nat) (v : Value) (xs : List (List Value)) : Prop := Flat sz xs ∧ w.ownsRow base E sz v xs.length xs.flatten
section
variable {P : Program} {t E sz by_ : Nat} {z : Value} {w w' : World} {base : Nat} {v : Value} {xs : List (List Value)}
theorem Own.nil (E sz : Nat) (w : World) (base : Nat) : Own E sz w base (.slice none 0 0) [] := ⟨Flat.nil _, by simp, .inl ⟨rfl, rfl⟩⟩
theorem Own.mono {b' : Nat} (h : Own E sz w base v xs) (hb : b' ≤ base) : Own E sz w b' v xs := by
  obtain ⟨h0, h1, h2⟩ := h
  refine ⟨h0, h1, ?_⟩
  rcases h2 with h2 | ⟨g, cap, cur, hv, hg, r⟩
  · exact .inl h2
  · exact .inr ⟨g, cap, cur, hv, by omega, r⟩
/-- The base may be raised where the row's block lies above it. -/
theorem Own.up {b' : Nat} (h : Own E sz w base v xs) (hb : ∀ b, v.ownBlock = some b → b' ≤ b) : Own E sz w b' v xs := by
  obtain ⟨h0, h1, h2⟩ := h
  refine ⟨h0, h1, ?_⟩
  rcases h2 with h2 | ⟨g, cap, cur, hv, hg, r⟩
  · exact .inl h2
  · exact .inr ⟨g, cap, cur, hv, hb g (by rw [hv]; rfl), r⟩
theorem Own.lt (h : Own E sz w base v xs) : ∀ b, v.ownBlock = some b → base ≤ b ∧ b < w.heap.size := World.ownsRow.lt h.2
theorem Own.chg {F : List Nat} (h : Own E sz w base v xs) (c : Chg F w w') (hF : ∀ x ∈ F, v.ownBlock ≠ some x) : Own E sz w' base v xs := by
  obtain ⟨h0, h1, h2⟩ := h
  refine ⟨h0, h1, ?_⟩
  rcases h2 with h2 | ⟨g, cap, cur, hv, hg, hb, r⟩
  · exact .inl h2
  · refine .inr ⟨g, cap, cur, hv, hg, ?_, r⟩
    rw [c.block g (Array.getElem?_eq_some_iff.1 hb).1 (fun hm => hF g hm (by rw [hv]; rfl))]
    exact hb
theorem Own.keep (h : Own E sz w base v xs) (c : Chg [] w w') : Own E sz w' base v xs := h.chg c (fun x hx => by cases hx)
theorem Own.ne {b T : Nat} {cs : List Value} (h : Own E sz w base v xs) (hA : At w b T cs) (hT : T ≠ E) : v.ownBlock ≠ some b := by
  intro e
  rcases h.2.2 with ⟨hv, _⟩ | ⟨g, cap, cur, hv, hg, hb, r⟩
  · rw [hv] at e; cases e
  · rw [hv] at e
    simp [Value.ownBlock] at e
    subst e
    unfold At at hA
    rw [hA] at hb
    simp at hb
    exact hT hb.2
theorem Own.ne' {E' sz' base' : Nat} {v' : Value} {ys : List (List Value)} (h : Own E sz w base v xs) (k : Own E' sz' w base' v' ys) (hE : E ≠ E') : ∀ x ∈ v'.ownBlock.toList, v.ownBlock ≠ some x := by
  intro x hx e
  have hx' : v'.ownBlock = some x := by simpa using hx
  rcases h.2.2 with ⟨hv, _⟩ | ⟨g, cap, cur, hv, hg, hb, r⟩
  · rw [hv] at e; cases e
  · rcases k.2.2 with ⟨hv', _⟩ | ⟨g', cap', cur', hv', hg', hb', r'⟩
    · rw [hv'] at hx'; cases hx'
    · rw [hv] at e; rw [hv'] at hx'
      simp [Value.ownBlock] at e hx'
      subst e; subst hx'
      rw [hb] at hb'
      simp at hb'
      exact hE hb'.2
theorem Own.slice (h : Own E sz w base v xs) : ∃ a c, v = .slice a xs.length c := by
  rcases h.2.2 with ⟨rfl, h0⟩ | ⟨g, cap, cur, rfl, _⟩
  · exact ⟨_, _, by rw [h0]⟩
  · exact ⟨_, _, rfl⟩
theorem Own.form (h : Own E sz w base v xs) (hx : xs ≠ []) :
    ∃ g cap, v = .slice (some ⟨g, 0, none⟩) xs.length cap ∧ base ≤ g ∧ g < w.heap.size ∧ xs.length ≤ cap ∧ cap ≤ maxLen ∧ ∀ k j x u, xs[k]? = some x → x[j]? = some u → w.cell? ⟨g, k * sz + j, none⟩ = some u := by
  obtain ⟨h0, h1, h2⟩ := h
  rcases h2 with ⟨_, hz⟩ | ⟨g, cap, cur, rfl, hg, hb, hn, hc, hs, ht⟩
  · exact absurd (List.eq_nil_of_length_eq_zero hz) hx
  · refine ⟨g, cap, rfl, hg, (Array.getElem?_eq_some_iff.1 hb).1, hn, hc, fun k j x u hx hu => ?_⟩
    have e := h0.at hx hu
    rw [← ht] at e
    have hlt : k * sz + j < xs.length * sz := by
      rcases Nat.lt_or_ge (k * sz + j) (xs.length * sz) with h | h
      · exact h
      · rw [List.getElem?_take_eq_none h] at e; cases e
    rw [List.getElem?_take_of_lt hlt] at e
    simpa [World.cell?, hb] using e
theorem Own.cells (h : Own E sz w base v xs) {a : Option Addr} {n c : Nat} (hv : v = .slice a n c) (hp : 0 < xs.length) : ∃ g, a = some ⟨g, 0, none⟩ ∧ ∀ j u, xs.flatten[j]? = some u → w.cell? ⟨g, j, none⟩ = some u := by
  rcases h.2.2 with ⟨_, hz⟩ | ⟨g, cap, cur, hv', hg, hb, hn, hc, hs, ht⟩
  · omega
  · rw [hv] at hv'
    simp only [Value.slice.injEq] at hv'
    refine ⟨g, hv'.1, fun j u hu => ?_⟩
    have hj : j < xs.flatten.length := (List.getElem?_eq_some_iff.1 hu).1
    rw [h.2.1] at hj
    rw [← ht, List.getElem?_take_of_lt hj] at hu
    simpa [World.cell?, hb] using hu

theorem chg_grown {row : Option Nat} (h : w.grownBy w' row) : Chg row.toList w w' :=
  ⟨h.os, h.tape, h.output, h.size, fun k hk hn => h.block k hk (by rintro rfl; exact hn (by simp))⟩

/-- Append to nil, or to a row, of nothing out of nil: the guide's own (extra-words). -/
theorem run_app_nil (w : World) (base : Nat) (t ty e : TypeId) (i : TypeInfo) (size : Nat) (ht : P.underlying t = some (.slice e)) (hi : P.info? e = some i)
    (v : Value) (n : Nat) (xs : List Value) (hown : w.ownsRow base e size v n xs) (c : Nat) : (Builtin.append_ #[t, t] ty #[v, .slice none 0 c]).run P w = .ok v w := by
  rcases hown.2 with ⟨rfl, rfl⟩ | ⟨g, cap, cur, rfl, _, _, hnc, _⟩
  · simp [Builtin.append_, run_underlying ht, sizeOf, typeInfo, hi, Builtin.lenOf, Builtin.firstCells]
  · simp [Builtin.append_, run_underlying ht, sizeOf, typeInfo, hi, Builtin.lenOf, Builtin.firstCells, hnc, storeCells]

/-- Elements that lie somewhere are put behind a row. -/
theorem own_app (he : Elem P t E sz by_ z) (ty : TypeId) (h : Own E sz w base v xs) (hbase : base ≤ w.heap.size) {A : Option Addr} {m c : Nat} {news : List (List Value)} (hm : news.length = m) (h1 : Flat sz news)
    (hc : 0 < m → ∃ g o, A = some ⟨g, o, none⟩ ∧ ∀ j u, news.flatten[j]? = some u → w.cell? ⟨g, o + j, none⟩ = some u) (hl : xs.length + m ≤ 1000000) :
    ∃ v' w', (Builtin.append_ #[t, t] ty #[v, .slice A m c]).run P w = .ok v' w' ∧ Own E sz w' base v' (xs ++ news) ∧ Chg v.ownBlock.toList w w' ∧ ∀ b, v'.ownBlock = some b → v.ownBlock = some b ∨ w.heap.size ≤ b := by
  obtain ⟨i, hi, hz0, hz1, hz2⟩ := info_parts he.info
  by_cases hA : A = none
  · subst hA
    have hm0 : m = 0 := by
      rcases Nat.eq_zero_or_pos m with h0 | h0
      · exact h0
      · obtain ⟨g, o, e, _⟩ := hc h0; cases e
    have hn : news = [] := List.eq_nil_of_length_eq_zero (by omega)
    subst hm0; subst hn
    exact ⟨v, w, run_app_nil w base t ty E i sz he.ht hi v _ _ h.2 c, by simpa using h, Chg.refl _ _, fun b hb => .inl hb⟩
  · obtain ⟨a, rfl⟩ := Option.ne_none_iff_exists'.1 hA
    obtain ⟨v', w', r1, r2, r3, _, r5⟩ := run_append_own_at (P := P) w base t ty E i z sz by_ he.ht hi hz0 hz1 hz2 he.zs he.pos v xs.length _ h.2 a m c news.flatten (by rw [h1.len, hm])
      (fun j u hu => by
        have hj : j < news.flatten.length := (List.getElem?_eq_some_iff.1 hu).1
        rw [h1.len, hm] at hj
        have hp : 0 < m := by
          rcases Nat.eq_zero_or_pos m with h0 | h0
          · subst h0; simp at hj
          · exact h0
        obtain ⟨g, o, e, hcell⟩ := hc hp
        simp only [Option.some.injEq] at e
        subst e
        have hadd : Addr.add ⟨g, o, none⟩ j = ⟨g, o + j, none⟩ := by unfold Addr.add; split <;> simp_all
        rw [hadd]
        exact hcell j u hu)
      (fun u hu => by
        obtain ⟨x, hx, hux⟩ := List.mem_flatten.1 hu
        exact (h1 x hx).2 u hux)
      (by unfold maxLen; omega)
      (by
        have := he.small
        have h2 : (xs.length + m) * by_ ≤ 1000000 * 100 := Nat.mul_le_mul hl this
        omega) hbase
    refine ⟨v', w', r1, ⟨h.1.app h1, ?_⟩, chg_grown r3, fun b hb => ?_⟩
    · rw [List.length_append, List.flatten_append, hm]; exact r2
    · rcases r5 with e | e
      · exact .inl (by rw [← e]; exact hb)
      · rw [hb] at e
        simp only [Option.some.injEq] at e
        exact .inr (by omega)

/-- One element is put behind a row: it lies in a block of its own. -/
theorem own_push (he : Elem P t E sz by_ z) (ty : TypeId) (h : Own E sz w base v xs) (hbase : base ≤ w.heap.size) {x : List Value} {c : Nat} (hx : x.length = sz) (h1 : ∀ u ∈ x, u.oneCell' = true) (hl : xs.length + 1 ≤ 1000000) :
    ∃ v' w', (Builtin.append_ #[t, t] ty #[v, .slice (some ⟨w.heap.size, 0, none⟩) 1 c]).run P (w.alloc (.cells x.toArray E)) = .ok v' w' ∧ Own E sz w' base v' (xs ++ [x]) ∧ Chg v.ownBlock.toList w w' ∧ ∀ b, v'.ownBlock = some b → v.ownBlock = some b ∨ w.heap.size ≤ b := by
  have hc : Chg [] w (w.alloc (.cells x.toArray E)) := (Chg.refl _ _).alloc _
  obtain ⟨v', w', r1, r2, r3, r4⟩ := own_app he ty (h.keep hc) (Nat.le_trans hbase hc.size) (A := some ⟨w.heap.size, 0, none⟩) (m := 1) (c := c) (news := [x]) rfl (Flat.one hx h1) (fun _ => ⟨w.heap.size, 0, rfl, fun j u hu => by
    have hA := At.new w E x
    rw [Nat.zero_add, hA.cell]
    simpa using hu⟩) hl
  refine ⟨v', w', r1, r2, ?_, fun b hb => ?_⟩
  · exact (hc.mono (F' := v.ownBlock.toList) (fun x hx => by cases hx)).trans r3
  · rcases r4 b hb with e | e
    · exact .inl e
    · exact .inr (Nat.le_trans hc.size e)

/-- append(append([]T{}, l[:k]...), l[k+1:]...): a row of its own, without the element at k. -/
theorem own_del (he : Elem P t E sz by_ z) (ty : TypeId) {wa w0 : World} {e0 : Value} {g o2 k cap : Nat} (h : Own E sz wa base (.slice (some ⟨g, 0, none⟩) xs.length cap) xs) (hk : k < xs.length) (hl : xs.length ≤ 100000) (hcap : xs.length ≤ cap)
    (hw : Chg [] wa w0) (h0 : Own E sz w0 wa.heap.size e0 []) (ho : cap ≠ k + 1 → o2 = (k + 1) * sz) :
    ∃ v1 w1 v2 w2, (Builtin.append_ #[t, t] ty #[e0, .slice (some ⟨g, 0, none⟩) k cap]).run P w0 = .ok v1 w1 ∧ (Builtin.append_ #[t, t] ty #[v1, .slice (some ⟨g, o2, none⟩) (xs.length - (k + 1)) (cap - (k + 1))]).run P w1 = .ok v2 w2 ∧
      Own E sz w2 wa.heap.size v2 (xs.eraseIdx k) ∧ Chg [] wa w1 ∧ Chg [] wa w2 := by
  have hg : g < wa.heap.size := (h.lt g rfl).2
  have ha : Own E sz w0 base (.slice (some ⟨g, 0, none⟩) xs.length cap) xs := h.keep hw
  have hcells : ∀ {wx : World}, Own E sz wx base (.slice (some ⟨g, 0, none⟩) xs.length cap) xs → ∀ j u, xs.flatten[j]? = some u → wx.cell? ⟨g, j, none⟩ = some u := fun {wx} hx j u hu => by
    obtain ⟨g', e, hq⟩ := hx.cells rfl (by omega)
    simp only [Option.some.injEq, Addr.mk.injEq, and_true] at e
    rw [e]
    exact hq j u hu
  obtain ⟨v1, w1, r1, r2, r3, r4⟩ := own_app he ty h0 hw.size (A := some ⟨g, 0, none⟩) (m := k) (c := cap) (news := xs.take k) (by rw [List.length_take]; omega) (h.1.sub fun x hx => List.mem_of_mem_take hx)
    (fun _ => ⟨g, 0, rfl, fun j u hu => by
      rw [Nat.zero_add]
      rw [h.1.take] at hu
      refine hcells ha j u ?_
      rcases Nat.lt_or_ge j (k * sz) with hj | hj
      · rwa [List.getElem?_take_of_lt hj] at hu
      · rw [List.getElem?_take_eq_none hj] at hu; cases hu⟩) (by simp; omega)
  have hlow : ∀ x ∈ e0.ownBlock.toList, wa.heap.size ≤ x := fun x hx => (h0.lt x (by simpa using hx)).1
  have c1 : Chg [] wa w1 := hw.trans' r3 (fun x hx => Or.inr (hlow x hx))
  have hb : Own E sz w1 base (.slice (some ⟨g, 0, none⟩) xs.length cap) xs := h.keep c1
  have hlow1 : ∀ x ∈ v1.ownBlock.toList, wa.heap.size ≤ x := fun x hx => (r2.lt x (by simpa using hx)).1
  obtain ⟨v2, w2, s1, s2, s3, s4⟩ := own_app he ty r2 c1.size (A := some ⟨g, o2, none⟩) (m := xs.length - (k + 1)) (c := cap - (k + 1)) (news := xs.drop (k + 1)) (by rw [List.length_drop]) (h.1.sub fun x hx => List.mem_of_mem_drop hx)
    (fun hp => ⟨g, o2, rfl, fun j u hu => by
      rw [h.1.drop, List.getElem?_drop] at hu
      rw [ho (by omega)]
      exact hcells hb _ u hu⟩) (by simp; omega)
  refine ⟨v1, w1, v2, w2, r1, s1, ?_, c1, c1.trans' s3 (fun x hx => Or.inr (hlow1 x hx))⟩
  have e : xs.eraseIdx k = ([] ++ xs.take k) ++ xs.drop (k + 1) := by rw [List.nil_append, List.eraseIdx_eq_take_drop_succ]
  rw [e]
  exact s2
end
/-- An append of one slice to another, its run being known: in a drawn region, in a plain one. -/
theorem wp_app_eq {P : Program} {o : Oper} {a : Act} {w w' : World} {v u v' : Value} {K : Act → World → Prop} {Q : Exit → Act → World → Prop} (s x : Operand) (t : TypeId)
    (ho : o.op = .call { callee := .builtin .append, args := #[s, x], argTypes := #[t, t] }) (hs : a.eval s = v) (hx : a.eval x = u)
    (hrun : (Builtin.append_ #[t, t] o.type #[v, u]).run P w = .ok v' w') (h : K (a.put o.dst v') w') : o.wp P a w K Q := by
  unfold Oper.wp execOp
  simp only [ho, resolve, invoke, builtin, Sem.run_bind, Sem.run_pure, Result.andThen_ok, List.map_toArray, List.map_cons, List.map_nil, hs, hx, hrun]
  exact h
theorem wpList_app_eq {P : Program} {ops : Array Oper} {rest : List Oper} {o : Oper} {a : Act} {w w' : World} {v u v' : Value} {Q : Exit → Act → World → Prop} (hgd : o.guard = none) (s x : Operand) (t : TypeId)
    (ho : o.op = .call { callee := .builtin .append, args := #[s, x], argTypes := #[t, t] }) (hs : a.eval s = v) (hx : a.eval x = u)
    (hrun : (Builtin.append_ #[t, t] o.type #[v, u]).run P w = .ok v' w') (h : wpList P ops Q rest (a.put o.dst v') w') : wpList P ops Q (o :: rest) a w :=
  wpList_plain hgd fun _ hK => wp_app_eq s x t ho hs hx hrun (hK _ _ h)
end Go.Proofs.Ytkmjpphmciaklaa
namespace Go.Proofs.Ytkmjpphmciaklaa
open Go.RowKit
set_option linter.unusedVariables false
set_option linter.unusedSimpArgs false
attribute [local go_sem ↓] Go.wp_at_zero Go.wp_at_succ

/-- The place of a number. -/
def findN {α : Type} : List (Int × α) → Int → Option Nat
  | [], _ => none
  | p :: l, k => if p.1 = k then some 0 else (findN l k).map (· + 1)
def findI {α : Type} (l : List (Int × α)) (k : Int) : Int := match findN l k with
  | some i => (i : Int)
  | none => -1
theorem findN_at {α : Type} : ∀ {l : List (Int × α)} {k : Int} {i : Nat}, (∃ v, l[i]? = some (k, v)) → (∀ j v, j < i → l[j]? ≠ some (k, v)) → findN l k = some i
  | [], k, i, ⟨v, h⟩, _ => by simp at h
  | p :: l, k, 0, ⟨v, h⟩, _ => by simp at h; subst h; simp [findN]
  | p :: l, k, i + 1, ⟨v, h⟩, hn => by
    have h0 : p.1 ≠ k := fun e => hn 0 p.2 (by omega) (by subst e; rfl)
    have ih := findN_at (l := l) (k := k) (i := i) ⟨v, by simpa using h⟩ (fun j u hj => by have := hn (j + 1) u (by omega); simpa using this)
    simp [findN, h0, ih]
theorem findN_no {α : Type} : ∀ {l : List (Int × α)} {k : Int}, (∀ p ∈ l, p.1 ≠ k) → findN l k = none
  | [], _, _ => rfl
  | p :: l, k, h => by
    have ih := findN_no (l := l) (k := k) (fun q hq => h q (List.mem_cons_of_mem _ hq))
    simp [findN, h p (by simp), ih]
theorem find_cases {α : Type} : ∀ (l : List (Int × α)) (k : Int), (lk l k = none ∧ findN l k = none) ∨ ∃ (i : Nat) (v : α), l[i]? = some (k, v) ∧ lk l k = some v ∧ findN l k = some i
  | [], k => .inl ⟨rfl, rfl⟩
  | p :: l, k => by
    by_cases h : p.1 = k
    · exact .inr ⟨0, p.2, by subst h; rfl, by simp [lk, h], by simp [findN, h]⟩
    · rcases find_cases l k with ⟨h1, h2⟩ | ⟨i, v, h1, h2, h3⟩
      · exact .inl ⟨by simp only [lk] at h1 ⊢; rw [List.find?_cons_of_neg (by simpa using h)]; exact h1, by simp [findN, h, h2]⟩
      · exact .inr ⟨i + 1, v, by simpa using h1, by simp only [lk] at h2 ⊢; rw [List.find?_cons_of_neg (by simpa using h)]; exact h2, by simp [findN, h, h3]⟩

/-- Packets as rows of cells. -/
def pk (l : List (Int × Value)) : List (List Value) := l.map (fun q => [.int .u32 q.1, q.2])
theorem pk_len (l : List (Int × Value)) : (pk l).length = l.length := by simp [pk]
theorem pk_app (l m : List (Int × Value)) : pk (l ++ m) = pk l ++ pk m := by simp [pk]
theorem pk_at {l : List (Int × Value)} {k : Nat} {p : Int × Value} (h : l[k]? = some p) : (pk l)[k]? = some [.int .u32 p.1, p.2] := by simp [pk, h]
theorem elem31 : Elem Try.prog 27 31 2 32 (.agg #[.int .u32 0, .slice none 0 0]) := ⟨Try.underlying27, Try.info31, rfl, by decide, by decide⟩

/-- The reference's receiver. -/
def RefAt (w : World) (B q : Nat) (v : Value) (r : Rcv Value) : Prop :=
  At w q 55 [.int .u32 r.nx, v, .int .i64 r.since, .int .i64 r.twice] ∧ Own 31 2 w B v (pk r.l) ∧ (r.l.map (·.1)).Nodup ∧ Vals r.l
theorem RefAt.chg {F : List Nat} {w w' : World} {B q : Nat} {v : Value} {r : Rcv Value} (h : RefAt w B q v r) (c : Chg F w w') (hq : q ∉ F) (hv : ∀ x ∈ F, v.ownBlock ≠ some x) : RefAt w' B q v r := ⟨h.1.chg c hq, h.2.1.chg c hv, h.2.2⟩
theorem RefAt.cells {w : World} {B q : Nat} {v : Value} {r : Rcv Value} (h : RefAt w B q v r) :
    ∃ a c, v = .slice a r.l.length c ∧ r.l.length ≤ c ∧ ∀ k (hk : k < r.l.length), ∃ g, a = some ⟨g, 0, none⟩ ∧ B ≤ g ∧ g < w.heap.size ∧ w.cell? ⟨g, k * 2, none⟩ = some (.int .u32 (r.l[k]'hk).1) ∧ w.cell? ⟨g, k * 2 + 1, none⟩ = some (r.l[k]'hk).2 := by
  obtain ⟨_, hO, _⟩ := h
  by_cases hne : r.l = []
  · obtain ⟨a, c, rfl⟩ := hO.slice
    exact ⟨a, c, by rw [pk_len], by rw [hne]; simp, fun k hk => by rw [hne] at hk; simp at hk⟩
  · obtain ⟨g, cap, rfl, hg, hl, hc, hm, hcell⟩ := hO.form (by simpa [pk] using hne)
    rw [pk_len] at hc
    exact ⟨_, cap, by rw [pk_len], hc, fun k hk => ⟨g, rfl, hg, hl, hcell k 0 _ _ (pk_at (List.getElem?_eq_getElem hk)) rfl, hcell k 1 _ _ (pk_at (List.getElem?_eq_getElem hk)) rfl⟩⟩

set_option maxHeartbeats 1000000 in
theorem find_any (B q : Nat) (v : Value) (r : Rcv Value) (seq : Int) (w : World) (h : RefAt w B q v r) (hl : r.l.length ≤ 100000) :
    Calls Try.prog 55 #[.pointer (some ⟨q, 0, none⟩), .int .u32 seq] w fun e w' => e = .returned (.int .i64 (findI r.l seq)) ∧ w = w' := by
  obtain ⟨a, c, rfl, hc, hcell⟩ := h.cells
  obtain ⟨c0, c1, c2, c3, _⟩ := h.1.four
  have HC := Lib.hid hcell
  clear h hcell
  go_enter Try.func55, Try.ntmps55
  go_wp2_with fail
  go_loopg [5] r.l.length (fun g s5 wr => ∃ k : Nat, k ≤ r.l.length ∧ g = r.l.length - k ∧ s5 = .int .i64 k ∧ (∀ j v, j < k → r.l[j]? ≠ some (seq, v)) ∧ w = wr)
  case atStart => exact ⟨0, by omega, rfl, rfl, fun j v hj => by omega, rfl⟩
  case round =>
    obtain ⟨k, hk, rfl, rfl, hn, rfl⟩ := hrel
    have HN := Lib.hid hn
    clear hn
    by_cases hkl : k < r.l.length
    · obtain ⟨g, rfl, hg, hgl, e0, _⟩ := HC.out k hkl
      have hi0 : ((k : Nat) : Int) < (r.l.length : Nat) := by omega
      by_cases he : r.l[k].1 = seq
      · have hfin : findI r.l seq = k := by
          unfold findI
          rw [findN_at (i := k) ⟨r.l[k].2, by rw [List.getElem?_eq_getElem hkl, ← he]⟩ HN.out]
        have HF := Lib.hid hfin
        rw [he] at e0
        clear he hfin
        go_wp2_with fail
        go_ret
        exact ⟨by rw [HF.out]; rfl, rfl⟩
      · have HE := Lib.hid he
        obtain ⟨x, hx⟩ : ∃ x, x = r.l[k].1 := ⟨_, rfl⟩
        rw [← hx] at e0 he
        have HX := Lib.hid hx
        clear hx
        go_wp2_with fail
        go_roundg (r.l.length - (k + 1))
        case measure => omega
        case rel =>
          refine ⟨k + 1, by omega, rfl, rfl, fun j v hj => ?_, rfl⟩
          by_cases e : j = k
          · subst e
            rw [List.getElem?_eq_getElem hkl]
            intro h
            simp only [Option.some.injEq] at h
            exact HE.out (by rw [h])
          · exact HN.out j v (by omega)
    · obtain rfl : k = r.l.length := by omega
      have hfin : findI r.l seq = -1 := by
        unfold findI
        rw [findN_no (fun p hp e => by
          obtain ⟨j, hj⟩ := List.mem_iff_getElem?.1 hp
          have hjl := (List.getElem?_eq_some_iff.1 hj).1
          exact HN.out j p.2 hjl (by rw [hj, ← e]))]
      have HF := Lib.hid hfin
      clear hfin
      go_wp2_with fail
      go_ret
      exact ⟨by rw [HF.out]; rfl, rfl⟩

set_option maxHeartbeats 400000 in
theorem steps_any (a b : Int) (w : World) (ha : 0 ≤ a) (ha' : a < 4294967296) (hb : 0 ≤ b) (hb' : b < 4294967296) :
    Calls Try.prog 89 #[.int .u32 a, .int .u32 b] w fun e w' => e = .returned (.int .i64 ((b - a) % 4294967296)) ∧ w = w' := by
  by_cases h : b - a < 0
  · have e : (b - a) % 4294967296 = b - a + 4294967296 := by omega
    rw [e]
    clear e
    go_enter Try.func89, Try.ntmps89
    go_wp2
    go_ret
    exact ⟨rfl, rfl⟩
  · have e : (b - a) % 4294967296 = b - a := by omega
    rw [e]
    clear e
    go_enter Try.func89, Try.ntmps89
    go_wp2
    go_ret
    exact ⟨rfl, rfl⟩
set_option maxHeartbeats 400000 in
theorem less02_any (a b : Int) (w : World) (ha : 0 ≤ a) (ha' : a < 4294967296) (hb : 0 ≤ b) (hb' : b < 4294967296) :
    Calls Try.prog 56 #[.int .u32 a, .int .u32 b] w fun e w' => e = .returned (.bool (lessB a b)) ∧ w = w' := by
  have CT := Lib.hid (steps_any a b w ha ha' hb hb')
  have hl : lessB a b = (decide (0 < (b - a) % 4294967296) && decide ((b - a) % 4294967296 < 2147483648)) := by
    unfold lessB
    rw [Bool.eq_iff_iff]; simp; omega
  rw [hl]
  clear hl
  obtain ⟨d, hd⟩ : ∃ d, d = (b - a) % 4294967296 := ⟨_, rfl⟩
  rw [← hd]
  have hd0 : 0 ≤ d := by omega
  have hd1 : d < 4294967296 := by omega
  have CT : Hid (Calls Try.prog 89 #[.int .u32 a, .int .u32 b] w fun e w' => e = .returned (.int .i64 d) ∧ w = w') := by rw [hd]; exact CT
  clear hd
  by_cases h0 : 0 < d
  · go_enter Try.func56, Try.ntmps56
    go_wp2_with fail
    refine CT.out.mono ?_; rintro e' w' ⟨rfl, rfl⟩
    go_wp2_with fail
    go_ret
    exact ⟨by simp [h0], rfl⟩
  · go_enter Try.func56, Try.ntmps56
    go_wp2_with fail
    refine CT.out.mono ?_; rintro e' w' ⟨rfl, rfl⟩
    go_wp2_with fail
    go_ret
    exact ⟨by simp; omega, rfl⟩
end Go.Proofs.Ytkmjpphmciaklaa
