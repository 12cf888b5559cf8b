/- A map keyed by uint32 as a list of pairs: what each operation of the model does to it. -/
import Derived.Test.YtkmjpphmciaklaaHeap
import Derived.MapKept
import Derived.Laws.IdiomRangeMap
namespace Go.Proofs.Ytkmjpphmciaklaa
open Go.MapKept
set_option linter.unusedVariables false
set_option linter.unusedSimpArgs false

/-- Block m is a map that holds just these pairs, in this order; no key twice. -/
def MapIs (w : World) (m : Nat) (l : List (Int × Value)) : Prop :=
  ∃ es clock, w.heap[m]? = some (.map es clock) ∧ es.toList.map (fun e => (e.key, e.val)) = l.map (fun p => (Value.int .u32 p.1, p.2)) ∧ Stamped es clock

theorem MapIs.nodup {w : World} {m : Nat} {l : List (Int × Value)} (h : MapIs w m l) : (l.map (·.1)).Nodup := by
  obtain ⟨es, clock, _, he, _, _, hk⟩ := h
  have e1 : es.toList.map (·.key) = l.map (fun p => Value.int .u32 p.1) := by
    have := congrArg (List.map Prod.fst) he
    simpa [List.map_map, Function.comp_def] using this
  rw [e1] at hk
  have : (l.map (·.1)).map (fun n => Value.int .u32 n) = l.map (fun p => Value.int .u32 p.1) := by simp [List.map_map, Function.comp_def]
  rw [← this] at hk
  exact hk.of_map _ (fun a b h e => h (by rw [e]))
theorem MapIs.lt {w : World} {m : Nat} {l : List (Int × Value)} (h : MapIs w m l) : m < w.heap.size := by
  obtain ⟨es, clock, hb, _⟩ := h
  exact (Array.getElem?_eq_some_iff.1 hb).1
theorem MapIs.chg {F : List Nat} {w w' : World} {m : Nat} {l : List (Int × Value)} (h : MapIs w m l) (c : Chg F w w') (hn : m ∉ F) : MapIs w' m l := by
  have hl := h.lt
  obtain ⟨es, clock, hb, r⟩ := h
  exact ⟨es, clock, by rw [c.block m hl hn]; exact hb, r⟩
theorem MapIs.drew {w : World} {m : Nat} {l : List (Int × Value)} (h : MapIs w m l) : MapIs w.drew m l := h
theorem MapIs.made (w : World) : MapIs (w.alloc (.map #[] 0)) w.heap.size [] :=
  ⟨#[], 0, (MapKept.heap_alloc w _).1, rfl, stamped_empty 0⟩

theorem entries_keys {es : Array MapEntry} {l : List (Int × Value)} (he : es.toList.map (fun e => (e.key, e.val)) = l.map (fun p => (Value.int .u32 p.1, p.2))) : ∀ x ∈ es.toList, IsKey (.int .u32) x.key := by
  intro x hx
  have h1 : (x.key, x.val) ∈ l.map (fun p => (Value.int .u32 p.1, p.2)) := by rw [← he]; exact List.mem_map.2 ⟨x, hx, rfl⟩
  obtain ⟨p, _, hp⟩ := List.mem_map.1 h1
  simp only [Prod.mk.injEq] at hp
  rw [← hp.1]; rfl

theorem map_erase {α β : Type} (f : α → β) : ∀ (l : List α) (j : Nat), (l.eraseIdx j).map f = (l.map f).eraseIdx j
  | [], _ => by simp
  | x :: l, 0 => by simp
  | x :: l, j + 1 => by simp [map_erase f l j]

theorem erase_key : ∀ {l : List (Int × Value)} {j : Nat} {k : Int} {v : Value}, (l.map (·.1)).Nodup → l[j]? = some (k, v) → l.eraseIdx j = l.filter (fun p => p.1 != k)
  | p :: l, 0, k, v, hn, h => by
    simp at h
    subst h
    have hn' : k ∉ l.map (·.1) := (List.nodup_cons.1 hn).1
    have : l.filter (fun p => p.1 != k) = l := by
      rw [List.filter_eq_self]
      intro x hx
      have : x.1 ≠ k := fun e => hn' (by rw [← e]; exact List.mem_map.2 ⟨x, hx, rfl⟩)
      simpa using this
    simp [this]
  | p :: l, j + 1, k, v, hn, h => by
    have h' : l[j]? = some (k, v) := by simpa using h
    have hn' := List.nodup_cons.1 hn
    have hpk : p.1 ≠ k := fun e => hn'.1 (List.mem_map.2 ⟨(k, v), List.mem_of_getElem? h', e.symm⟩)
    have ih := erase_key hn'.2 h'
    simp [hpk, ih]

section
variable {P : Program} {w : World} {T kt et m : Nat} {l : List (Int × Value)} {k : Int}

/-- What finding a key comes to. -/
theorem find_u32 {es : Array MapEntry} (he : es.toList.map (fun e => (e.key, e.val)) = l.map (fun p => (Value.int .u32 p.1, p.2))) (k : Int) :
    (Instr.findNow (.int .u32) (.int .u32 k) es.toList 0 = some none ∧ ∀ p ∈ l, p.1 ≠ k) ∨
    ∃ (j : Nat) (v : Value), Instr.findNow (.int .u32) (.int .u32 k) es.toList 0 = some (some (j, v)) ∧ l[j]? = some (k, v) := by
  rcases findNow_spec (d := .int .u32) (k := .int .u32 k) rfl es.toList 0 (entries_keys he) with ⟨h1, h2⟩ | ⟨j, e, h1, h2, h3⟩
  · refine .inl ⟨h1, fun p hp hpk => ?_⟩
    have h4 : (Value.int .u32 p.1, p.2) ∈ es.toList.map (fun e => (e.key, e.val)) := by rw [he]; exact List.mem_map.2 ⟨p, hp, rfl⟩
    obtain ⟨x, hx, hxe⟩ := List.mem_map.1 h4
    simp only [Prod.mk.injEq] at hxe
    exact h2 x hx (by rw [hxe.1, hpk])
  · refine .inr ⟨j, e.val, by simpa using h1, ?_⟩
    have h4 : (es.toList.map (fun e => (e.key, e.val)))[j]? = some (e.key, e.val) := by rw [List.getElem?_map, h2]; rfl
    rw [he, List.getElem?_map] at h4
    cases hl : l[j]? with
    | none => rw [hl] at h4; cases h4
    | some p =>
      rw [hl, h3] at h4
      simp only [Option.map_some, Option.some.injEq, Prod.mk.injEq, Value.int.injEq, true_and] at h4
      obtain ⟨p1, p2⟩ := p
      simp only at h4
      rw [h4.1, h4.2]

theorem look_none (ht : P.underlying T = some (.map kt et)) (hk : P.underlying kt = some (.int .u32)) {z : Value} (hz : (zeroValue et).run P w = .ok z w) (h : MapIs w m l) (hn : ∀ p ∈ l, p.1 ≠ k) :
    (Instr.lookup T (.map (some m)) (.int .u32 k) true).run P w = .ok (.tuple #[z, .bool false]) w := by
  obtain ⟨es, clock, hb, he, _⟩ := h
  rcases find_u32 he k with ⟨h1, _⟩ | ⟨j, v, _, h2⟩
  · simp only [Instr.lookup, Sem.run_bind, run_underlying ht, Result.andThen, MapKept.run_getObj_map hb, Sem.run_pure, run_checkKey (e := es.isEmpty) (n := 9999) hk (show IsKey (.int .u32) (.int .u32 k) from rfl),
      run_findKey hk h1, hz, if_true]
  · exact absurd rfl (hn _ (List.mem_of_getElem? h2))

theorem look_some (ht : P.underlying T = some (.map kt et)) (hk : P.underlying kt = some (.int .u32)) (h : MapIs w m l) {v : Value} (hm : (k, v) ∈ l) :
    (Instr.lookup T (.map (some m)) (.int .u32 k) true).run P w = .ok (.tuple #[v, .bool true]) w := by
  have hnd := h.nodup
  obtain ⟨es, clock, hb, he, _⟩ := h
  rcases find_u32 he k with ⟨_, h2⟩ | ⟨j, v', h1, h2⟩
  · exact absurd rfl (h2 _ hm)
  · have hvv : v' = v := by
      obtain ⟨i, hi⟩ := List.mem_iff_getElem?.1 hm
      have e1 : (l.map (·.1))[i]? = some k := by rw [List.getElem?_map, hi]; rfl
      have e2 : (l.map (·.1))[j]? = some k := by rw [List.getElem?_map, h2]; rfl
      have hij : i = j := by
        have l1 := (List.getElem?_eq_some_iff.1 e1).1
        exact (List.getElem?_inj l1 hnd).1 (e1.trans e2.symm)
      subst hij
      rw [hi] at h2
      simpa using h2.symm
    subst hvv
    simp only [Instr.lookup, Sem.run_bind, run_underlying ht, Result.andThen, MapKept.run_getObj_map hb, Sem.run_pure, run_checkKey (e := es.isEmpty) (n := 9999) hk (show IsKey (.int .u32) (.int .u32 k) from rfl),
      run_findKey hk h1, if_true]

theorem len_map (ht : P.underlying T = some (.map kt et)) (ty : TypeId) (h : MapIs w m l) : (Builtin.len_ #[T] ty #[.map (some m)]).run P w = .ok (.int .i64 l.length) w := by
  obtain ⟨es, clock, hb, he, _⟩ := h
  have hsz : es.size = l.length := by
    have := congrArg List.length he
    simpa using this
  rw [← hsz]
  simp [Builtin.len_, run_underlying ht, MapKept.run_getObj_map hb, goInt]

theorem chg_setObj (w : World) (m : Nat) (o : Obj) : Chg [m] w { w with heap := w.heap.setIfInBounds m o } :=
  ⟨rfl, rfl, rfl, by simp, fun k hk hn => by simp at hn ⊢; rw [Array.getElem?_setIfInBounds_ne (Ne.symm hn)]⟩

/-- A new key is stored. -/
theorem store_new (ht : P.underlying T = some (.map kt et)) (hk : P.underlying kt = some (.int .u32)) (h : MapIs w m l) (hn : ∀ p ∈ l, p.1 ≠ k) (v : Value) :
    ∃ w', (Instr.mapUpdate T (.map (some m)) (.int .u32 k) v).run P w = .ok () w' ∧ MapIs w' m (l ++ [(k, v)]) ∧ Chg [m] w w' := by
  have hlt := h.lt
  have hnd := h.nodup
  obtain ⟨es, clock, hb, he, hs⟩ := h
  rcases find_u32 he k with ⟨h1, _⟩ | ⟨j, v', _, h2⟩
  · refine ⟨_, ?_, ⟨es.push { key := .int .u32 k, val := v, born := clock }, clock + 1, (MapKept.heap_set hb).1, ?_, ?_⟩, chg_setObj w m _⟩
    · simp only [Instr.mapUpdate, Sem.run_bind, run_underlying ht, Result.andThen, MapKept.run_getObj_map hb, run_checkKey (e := false) (n := 9999) hk (show IsKey (.int .u32) (.int .u32 k) from rfl),
        run_findKey hk h1]
      exact run_setObj_map _ hb
    · simp [he]
    · obtain ⟨s1, s2, s3⟩ := hs
      refine ⟨?_, ?_, ?_⟩
      · intro x hx
        simp at hx
        rcases hx with hx | rfl
        · have := s1 x (by simpa using hx); omega
        · simp
      · simp only [Array.toList_push, List.map_append, List.map_cons, List.map_nil]
        rw [List.nodup_append]
        refine ⟨s2, by simp, ?_⟩
        intro a ha b hb' heq
        simp at hb'
        obtain ⟨x, hx, hxe⟩ := List.mem_map.1 ha
        have := s1 x hx
        omega
      · simp only [Array.toList_push, List.map_append, List.map_cons, List.map_nil]
        rw [List.nodup_append]
        refine ⟨s3, by simp, ?_⟩
        intro a ha b hb' heq
        simp at hb'
        obtain ⟨x, hx, hxe⟩ := List.mem_map.1 ha
        have h4 : (x.key, x.val) ∈ l.map (fun p => (Value.int .u32 p.1, p.2)) := by rw [← he]; exact List.mem_map.2 ⟨x, hx, rfl⟩
        obtain ⟨p, hp, hpe⟩ := List.mem_map.1 h4
        simp only [Prod.mk.injEq] at hpe
        apply hn p hp
        have : Value.int .u32 p.1 = Value.int .u32 k := by rw [hpe.1, hxe, heq, hb']
        simpa using this
  · exact absurd rfl (hn _ (List.mem_of_getElem? h2))

/-- A key that is there is struck. -/
theorem drop_there (ht : P.underlying T = some (.map kt et)) (hk : P.underlying kt = some (.int .u32)) (ty : TypeId) (h : MapIs w m l) {v : Value} (hm : (k, v) ∈ l) :
    ∃ w', (Builtin.delete_ #[T, kt] ty #[.map (some m), .int .u32 k]).run P w = .ok (.tuple #[]) w' ∧ MapIs w' m (l.filter (fun p => p.1 != k)) ∧ Chg [m] w w' := by
  have hnd := h.nodup
  obtain ⟨es, clock, hb, he, hs⟩ := h
  rcases find_u32 he k with ⟨_, h2⟩ | ⟨j, v', h1, h2⟩
  · exact absurd rfl (h2 _ hm)
  · refine ⟨_, ?_, ⟨es.eraseIdxIfInBounds j, clock, (MapKept.heap_set hb).1, ?_, stamped_erase hs j⟩, chg_setObj w m _⟩
    · simp only [Builtin.delete_, Sem.run_bind, run_underlying ht, Result.andThen, MapKept.run_getObj_map hb, run_checkKey (e := es.isEmpty) (n := 9999) hk (show IsKey (.int .u32) (.int .u32 k) from rfl),
        run_findKey hk h1, run_setObj_map _ hb, Sem.run_pure, List.getElem?_toArray, List.getElem?_cons_zero, List.getElem?_cons_succ]
    · have hjl : j < l.length := (List.getElem?_eq_some_iff.1 h2).1
      have hje : j < es.size := by
        have := congrArg List.length he
        simp at this
        omega
      have e1 : (es.eraseIdxIfInBounds j).toList = es.toList.eraseIdx j := by
        unfold Array.eraseIdxIfInBounds
        rw [dif_pos hje]
        simp
      rw [e1, map_erase, he, ← map_erase, erase_key hnd h2]

/-! ### Going through a map that the loop does not write -/

/-- Block r is an iterator over the map at m; these pairs have not come yet. -/
def IterIs (w : World) (m r : Nat) (l left : List (Int × Value)) : Prop :=
  m ≠ r ∧ ∃ es clock seen c0, w.heap[m]? = some (.map es clock) ∧ es.toList.map (fun e => (e.key, e.val)) = l.map (fun p => (Value.int .u32 p.1, p.2)) ∧ Stamped es clock ∧
    w.heap[r]? = some (.mapIter (some m) clock seen c0) ∧ clock ≤ c0 ∧ (leftOf es seen).toList.map (fun e => (e.key, e.val)) = left.map (fun p => (Value.int .u32 p.1, p.2))
end
end Go.Proofs.Ytkmjpphmciaklaa
