/- A map keyed by uint32 as a list of pairs: what each operation of the model does to it. Contracts of catwalk/recv over this seat's translation, the first half: serial.Less, least, Next, Early, Twice, New. -/
import Derived.Test.YtkmjpphmciaklaaJ1
import Derived.MapKept
import Derived.Laws.IdiomRangeMap
import Derived.Test.YtkmjpphmciaklaaRows
import Derived.Maps.RangeRun
import Derived.Deep.LoopGhost
namespace Go.Proofs.Ytkmjpphmciaklaa
open Go.MapKept
set_option linter.unusedVariables false
set_option linter.unusedSimpArgs false

/-- Block m is a map that holds just these pairs, in this order; no key twice. -/
def MapIs (w : World) (m : Nat) (l : List (Int × Value)) : Prop :=
  ∃ es clock, w.heap[m]? = some (.map es clock) ∧ es.toList.map (fun e => (e.key, e.val)) = l.map (fun p => (Value.int .u32 p.1, p.2)) ∧ Stamped es clock

theorem MapIs.nodup {w : World} {m : Nat} {l : List (Int × Value)} (h : MapIs w m l) : (l.map (·.1)).Nodup := by
  obtain ⟨es, clock, _, he, _, _, hk⟩ := h
  have e1 : es.toList.map (·.key) = l.map (fun p => Value.int .u32 p.1) := by
    have := congrArg (List.map Prod.fst) he
    simpa [List.map_map, Function.comp_def] using this
  rw [e1] at hk
  have : (l.map (·.1)).map (fun n => Value.int .u32 n) = l.map (fun p => Value.int .u32 p.1) := by simp [List.map_map, Function.comp_def]
  rw [← this] at hk
  exact hk.of_map _ (fun a b h e => h (by rw [e]))
theorem MapIs.lt {w : World} {m : Nat} {l : List (Int × Value)} (h : MapIs w m l) : m < w.heap.size := by
  obtain ⟨es, clock, hb, _⟩ := h
  exact (Array.getElem?_eq_some_iff.1 hb).1
theorem MapIs.chg {F : List Nat} {w w' : World} {m : Nat} {l : List (Int × Value)} (h : MapIs w m l) (c : Chg F w w') (hn : m ∉ F) : MapIs w' m l := by
  have hl := h.lt
  obtain ⟨es, clock, hb, r⟩ := h
  exact ⟨es, clock, by rw [c.block m hl hn]; exact hb, r⟩
theorem MapIs.drew {w : World} {m : Nat} {l : List (Int × Value)} (h : MapIs w m l) : MapIs w.drew m l := h
theorem MapIs.made (w : World) : MapIs (w.alloc (.map #[] 0)) w.heap.size [] :=
  ⟨#[], 0, (MapKept.heap_alloc w _).1, rfl, stamped_empty 0⟩

theorem entries_keys {es : Array MapEntry} {l : List (Int × Value)} (he : es.toList.map (fun e => (e.key, e.val)) = l.map (fun p => (Value.int .u32 p.1, p.2))) : ∀ x ∈ es.toList, IsKey (.int .u32) x.key := by
  intro x hx
  have h1 : (x.key, x.val) ∈ l.map (fun p => (Value.int .u32 p.1, p.2)) := by rw [← he]; exact List.mem_map.2 ⟨x, hx, rfl⟩
  obtain ⟨p, _, hp⟩ := List.mem_map.1 h1
  simp only [Prod.mk.injEq] at hp
  rw [← hp.1]; rfl

theorem map_erase {α β : Type} (f : α → β) : ∀ (l : List α) (j : Nat), (l.eraseIdx j).map f = (l.map f).eraseIdx j
  | [], _ => by simp
  | x :: l, 0 => by simp
  | x :: l, j + 1 => by simp [map_erase f l j]

theorem erase_key : ∀ {l : List (Int × Value)} {j : Nat} {k : Int} {v : Value}, (l.map (·.1)).Nodup → l[j]? = some (k, v) → l.eraseIdx j = l.filter (fun p => p.1 != k)
  | p :: l, 0, k, v, hn, h => by
    simp at h
    subst h
    have hn' : k ∉ l.map (·.1) := (List.nodup_cons.1 hn).1
    have : l.filter (fun p => p.1 != k) = l := by
      rw [List.filter_eq_self]
      intro x hx
      have : x.1 ≠ k := fun e => hn' (by rw [← e]; exact List.mem_map.2 ⟨x, hx, rfl⟩)
      simpa using this
    simp [this]
  | p :: l, j + 1, k, v, hn, h => by
    have h' : l[j]? = some (k, v) := by simpa using h
    have hn' := List.nodup_cons.1 hn
    have hpk : p.1 ≠ k := fun e => hn'.1 (List.mem_map.2 ⟨(k, v), List.mem_of_getElem? h', e.symm⟩)
    have ih := erase_key hn'.2 h'
    simp [hpk, ih]

section
variable {P : Program} {w : World} {T kt et m : Nat} {l : List (Int × Value)} {k : Int}

/-- What finding a key comes to. -/
theorem find_u32 {es : Array MapEntry} (he : es.toList.map (fun e => (e.key, e.val)) = l.map (fun p => (Value.int .u32 p.1, p.2))) (k : Int) :
    (Instr.findNow (.int .u32) (.int .u32 k) es.toList 0 = some none ∧ ∀ p ∈ l, p.1 ≠ k) ∨
    ∃ (j : Nat) (v : Value), Instr.findNow (.int .u32) (.int .u32 k) es.toList 0 = some (some (j, v)) ∧ l[j]? = some (k, v) := by
  rcases findNow_spec (d := .int .u32) (k := .int .u32 k) rfl es.toList 0 (entries_keys he) with ⟨h1, h2⟩ | ⟨j, e, h1, h2, h3⟩
  · refine .inl ⟨h1, fun p hp hpk => ?_⟩
    have h4 : (Value.int .u32 p.1, p.2) ∈ es.toList.map (fun e => (e.key, e.val)) := by rw [he]; exact List.mem_map.2 ⟨p, hp, rfl⟩
    obtain ⟨x, hx, hxe⟩ := List.mem_map.1 h4
    simp only [Prod.mk.injEq] at hxe
    exact h2 x hx (by rw [hxe.1, hpk])
  · refine .inr ⟨j, e.val, by simpa using h1, ?_⟩
    have h4 : (es.toList.map (fun e => (e.key, e.val)))[j]? = some (e.key, e.val) := by rw [List.getElem?_map, h2]; rfl
    rw [he, List.getElem?_map] at h4
    cases hl : l[j]? with
    | none => rw [hl] at h4; cases h4
    | some p =>
      rw [hl, h3] at h4
      simp only [Option.map_some, Option.some.injEq, Prod.mk.injEq, Value.int.injEq, true_and] at h4
      obtain ⟨p1, p2⟩ := p
      simp only at h4
      rw [h4.1, h4.2]

theorem look_none (ht : P.underlying T = some (.map kt et)) (hk : P.underlying kt = some (.int .u32)) {z : Value} (hz : (zeroValue et).run P w = .ok z w) (h : MapIs w m l) (hn : ∀ p ∈ l, p.1 ≠ k) :
    (Instr.lookup T (.map (some m)) (.int .u32 k) true).run P w = .ok (.tuple #[z, .bool false]) w := by
  obtain ⟨es, clock, hb, he, _⟩ := h
  rcases find_u32 he k with ⟨h1, _⟩ | ⟨j, v, _, h2⟩
  · simp only [Instr.lookup, Sem.run_bind, run_underlying ht, Result.andThen, MapKept.run_getObj_map hb, Sem.run_pure, run_checkKey (e := es.isEmpty) (n := 9999) hk (show IsKey (.int .u32) (.int .u32 k) from rfl),
      run_findKey hk h1, hz, if_true]
  · exact absurd rfl (hn _ (List.mem_of_getElem? h2))

theorem look_some (ht : P.underlying T = some (.map kt et)) (hk : P.underlying kt = some (.int .u32)) (h : MapIs w m l) {v : Value} (hm : (k, v) ∈ l) :
    (Instr.lookup T (.map (some m)) (.int .u32 k) true).run P w = .ok (.tuple #[v, .bool true]) w := by
  have hnd := h.nodup
  obtain ⟨es, clock, hb, he, _⟩ := h
  rcases find_u32 he k with ⟨_, h2⟩ | ⟨j, v', h1, h2⟩
  · exact absurd rfl (h2 _ hm)
  · have hvv : v' = v := by
      obtain ⟨i, hi⟩ := List.mem_iff_getElem?.1 hm
      have e1 : (l.map (·.1))[i]? = some k := by rw [List.getElem?_map, hi]; rfl
      have e2 : (l.map (·.1))[j]? = some k := by rw [List.getElem?_map, h2]; rfl
      have hij : i = j := by
        have l1 := (List.getElem?_eq_some_iff.1 e1).1
        exact (List.getElem?_inj l1 hnd).1 (e1.trans e2.symm)
      subst hij
      rw [hi] at h2
      simpa using h2.symm
    subst hvv
    simp only [Instr.lookup, Sem.run_bind, run_underlying ht, Result.andThen, MapKept.run_getObj_map hb, Sem.run_pure, run_checkKey (e := es.isEmpty) (n := 9999) hk (show IsKey (.int .u32) (.int .u32 k) from rfl),
      run_findKey hk h1, if_true]

theorem len_map (ht : P.underlying T = some (.map kt et)) (ty : TypeId) (h : MapIs w m l) : (Builtin.len_ #[T] ty #[.map (some m)]).run P w = .ok (.int .i64 l.length) w := by
  obtain ⟨es, clock, hb, he, _⟩ := h
  have hsz : es.size = l.length := by
    have := congrArg List.length he
    simpa using this
  rw [← hsz]
  simp [Builtin.len_, run_underlying ht, MapKept.run_getObj_map hb, goInt]

theorem chg_setObj (w : World) (m : Nat) (o : Obj) : Chg [m] w { w with heap := w.heap.setIfInBounds m o } :=
  ⟨rfl, rfl, rfl, by simp, fun k hk hn => by simp at hn ⊢; rw [Array.getElem?_setIfInBounds_ne (Ne.symm hn)]⟩

/-- A new key is stored. -/
theorem store_new (ht : P.underlying T = some (.map kt et)) (hk : P.underlying kt = some (.int .u32)) (h : MapIs w m l) (hn : ∀ p ∈ l, p.1 ≠ k) (v : Value) :
    ∃ w', (Instr.mapUpdate T (.map (some m)) (.int .u32 k) v).run P w = .ok () w' ∧ MapIs w' m (l ++ [(k, v)]) ∧ Chg [m] w w' := by
  have hlt := h.lt
  have hnd := h.nodup
  obtain ⟨es, clock, hb, he, hs⟩ := h
  rcases find_u32 he k with ⟨h1, _⟩ | ⟨j, v', _, h2⟩
  · refine ⟨_, ?_, ⟨es.push { key := .int .u32 k, val := v, born := clock }, clock + 1, (MapKept.heap_set hb).1, ?_, ?_⟩, chg_setObj w m _⟩
    · simp only [Instr.mapUpdate, Sem.run_bind, run_underlying ht, Result.andThen, MapKept.run_getObj_map hb, run_checkKey (e := false) (n := 9999) hk (show IsKey (.int .u32) (.int .u32 k) from rfl),
        run_findKey hk h1]
      exact run_setObj_map _ hb
    · simp [he]
    · obtain ⟨s1, s2, s3⟩ := hs
      refine ⟨?_, ?_, ?_⟩
      · intro x hx
        simp at hx
        rcases hx with hx | rfl
        · have := s1 x (by simpa using hx); omega
        · simp
      · simp only [Array.toList_push, List.map_append, List.map_cons, List.map_nil]
        rw [List.nodup_append]
        refine ⟨s2, by simp, ?_⟩
        intro a ha b hb' heq
        simp at hb'
        obtain ⟨x, hx, hxe⟩ := List.mem_map.1 ha
        have := s1 x hx
        omega
      · simp only [Array.toList_push, List.map_append, List.map_cons, List.map_nil]
        rw [List.nodup_append]
        refine ⟨s3, by simp, ?_⟩
        intro a ha b hb' heq
        simp at hb'
        obtain ⟨x, hx, hxe⟩ := List.mem_map.1 ha
        have h4 : (x.key, x.val) ∈ l.map (fun p => (Value.int .u32 p.1, p.2)) := by rw [← he]; exact List.mem_map.2 ⟨x, hx, rfl⟩
        obtain ⟨p, hp, hpe⟩ := List.mem_map.1 h4
        simp only [Prod.mk.injEq] at hpe
        apply hn p hp
        have : Value.int .u32 p.1 = Value.int .u32 k := by rw [hpe.1, hxe, heq, hb']
        simpa using this
  · exact absurd rfl (hn _ (List.mem_of_getElem? h2))

/-- A key that is there is struck. -/
theorem drop_there (ht : P.underlying T = some (.map kt et)) (hk : P.underlying kt = some (.int .u32)) (ty : TypeId) (h : MapIs w m l) {v : Value} (hm : (k, v) ∈ l) :
    ∃ w', (Builtin.delete_ #[T, kt] ty #[.map (some m), .int .u32 k]).run P w = .ok (.tuple #[]) w' ∧ MapIs w' m (l.filter (fun p => p.1 != k)) ∧ Chg [m] w w' := by
  have hnd := h.nodup
  obtain ⟨es, clock, hb, he, hs⟩ := h
  rcases find_u32 he k with ⟨_, h2⟩ | ⟨j, v', h1, h2⟩
  · exact absurd rfl (h2 _ hm)
  · refine ⟨_, ?_, ⟨es.eraseIdxIfInBounds j, clock, (MapKept.heap_set hb).1, ?_, stamped_erase hs j⟩, chg_setObj w m _⟩
    · simp only [Builtin.delete_, Sem.run_bind, run_underlying ht, Result.andThen, MapKept.run_getObj_map hb, run_checkKey (e := es.isEmpty) (n := 9999) hk (show IsKey (.int .u32) (.int .u32 k) from rfl),
        run_findKey hk h1, run_setObj_map _ hb, Sem.run_pure, List.getElem?_toArray, List.getElem?_cons_zero, List.getElem?_cons_succ]
    · have hjl : j < l.length := (List.getElem?_eq_some_iff.1 h2).1
      have hje : j < es.size := by
        have := congrArg List.length he
        simp at this
        omega
      have e1 : (es.eraseIdxIfInBounds j).toList = es.toList.eraseIdx j := by
        unfold Array.eraseIdxIfInBounds
        rw [dif_pos hje]
        simp
      rw [e1, map_erase, he, ← map_erase, erase_key hnd h2]

/-! ### Going through a map that the loop does not write -/

/-- Block r is an iterator over the map at m; these pairs have not come yet. -/
def IterIs (w : World) (m r : Nat) (l left : List (Int × Value)) : Prop :=
  m ≠ r ∧ ∃ es clock seen c0, w.heap[m]? = some (.map es clock) ∧ es.toList.map (fun e => (e.key, e.val)) = l.map (fun p => (Value.int .u32 p.1, p.2)) ∧ Stamped es clock ∧
    w.heap[r]? = some (.mapIter (some m) clock seen c0) ∧ clock ≤ c0 ∧ (leftOf es seen).toList.map (fun e => (e.key, e.val)) = left.map (fun p => (Value.int .u32 p.1, p.2))
end
end Go.Proofs.Ytkmjpphmciaklaa
namespace Go.Proofs.Ytkmjpphmciaklaa
open Go.RowKit
set_option linter.unusedVariables false
set_option linter.unusedSimpArgs false

def lessB (a b : Int) : Bool := a != b && decide ((b - a) % 4294967296 < 2147483648)
/-- How many steps on from a number. -/
def off (nx k : Int) : Int := (k - nx) % 4294967296
theorem off_bd (nx k : Int) : 0 ≤ off nx k ∧ off nx k < 4294967296 := by unfold off; omega
theorem less_off (nx a b : Int) (ha : 0 ≤ a) (ha' : a < 4294967296) (hb : 0 ≤ b) (hb' : b < 4294967296) (h1 : off nx a < 2147483648) (h2 : off nx b < 2147483648) : lessB a b = decide (off nx a < off nx b) := by
  unfold lessB off at *
  rw [Bool.eq_iff_iff]; simp; omega
theorem off_inj (nx a b : Int) (ha : 0 ≤ a) (ha' : a < 4294967296) (hb : 0 ≤ b) (hb' : b < 4294967296) (h : off nx a = off nx b) : a = b := by unfold off at h; omega

set_option maxHeartbeats 400000 in
theorem less_any (a b : Int) (w : World) :
    Calls Try.prog 46 #[.int .u32 a, .int .u32 b] w fun e w' => e = .returned (.bool (lessB a b)) ∧ w = w' := by
  go_enter Try.func46, Try.ntmps46
  go_wp2
  · have h' : a = b := by assumption
    have h : lessB a b = false := by simp [lessB, h']
    go_ret
    exact ⟨by rw [h]; rfl, rfl⟩
  · go_ret
    exact ⟨rfl, rfl⟩

/-- What a receiver keeps: the next number, those that wait (number, data), since when, how many counted for nothing. -/
structure Rcv (α : Type) where
  nx : Int
  l : List (Int × α)
  since : Int
  twice : Int

/-- All that waits lies less than half of all numbers on; numbers are numbers. -/
structure Rcv.Ok {α : Type} (r : Rcv α) : Prop where
  nx0 : 0 ≤ r.nx
  nx1 : r.nx < 4294967296
  keys : ∀ p ∈ r.l, 0 ≤ p.1 ∧ p.1 < 4294967296 ∧ off r.nx p.1 < 2147483648

def RcvAt (w : World) (p m : Nat) (r : Rcv Value) : Prop :=
  At w p 99 [.int .u32 r.nx, .map (some m), .int .i64 r.since, .int .i64 r.twice] ∧ MapIs w m r.l

theorem underlyingMap : Try.prog.underlying 97 = some (.map 22 29) := Try.underlying97

/-- While a map is gone through: the least so far. -/
def LeastInv (es : List MapEntry) (nx : Int) (seen : Array Nat) (best : Int) (some : Bool) : Prop :=
  (some = true → ∃ e ∈ es, e.key = .int .u32 best) ∧ ∀ e ∈ es, seen.contains e.born = true → some = true ∧ ∀ k, e.key = .int .u32 k → off nx best ≤ off nx k

theorem born_inj {es : List MapEntry} (hn : (es.map (·.born)).Nodup) {a b : MapEntry} (ha : a ∈ es) (hb : b ∈ es) (h : a.born = b.born) : a = b := by
  have h1 := find_born a es hn ha
  have h2 := find_born b es hn hb
  rw [h, h2] at h1
  exact (Option.some.inj h1).symm

theorem least_first {es : List MapEntry} {nx : Int} {seen : Array Nat} {best : Int} {e : MapEntry} {k : Int} (hn : (es.map (·.born)).Nodup) (h : LeastInv es nx seen best false) (he : e ∈ es) (hk : e.key = .int .u32 k) :
    LeastInv es nx (seen.push e.born) k true := by
  refine ⟨fun _ => ⟨e, he, hk⟩, fun x hx hs => ⟨rfl, fun k' hk' => ?_⟩⟩
  rw [contains_push] at hs
  rcases Bool.or_eq_true_iff.1 hs with hs | hs
  · exact absurd (h.2 x hx hs).1 (by decide)
  · have := born_inj hn hx he (by simpa using hs)
    subst this
    rw [hk] at hk'
    obtain rfl : k = k' := by simpa using hk'
    omega
theorem least_less {es : List MapEntry} {nx : Int} {seen : Array Nat} {best : Int} {e : MapEntry} {k : Int} (hn : (es.map (·.born)).Nodup) (h : LeastInv es nx seen best true) (he : e ∈ es) (hk : e.key = .int .u32 k) (hl : off nx k < off nx best) :
    LeastInv es nx (seen.push e.born) k true := by
  refine ⟨fun _ => ⟨e, he, hk⟩, fun x hx hs => ⟨rfl, fun k' hk' => ?_⟩⟩
  rw [contains_push] at hs
  rcases Bool.or_eq_true_iff.1 hs with hs | hs
  · have := (h.2 x hx hs).2 k' hk'; omega
  · have := born_inj hn hx he (by simpa using hs)
    subst this
    rw [hk] at hk'
    obtain rfl : k = k' := by simpa using hk'
    omega
theorem least_keep {es : List MapEntry} {nx : Int} {seen : Array Nat} {best : Int} {e : MapEntry} {k : Int} (hn : (es.map (·.born)).Nodup) (h : LeastInv es nx seen best true) (he : e ∈ es) (hk : e.key = .int .u32 k) (hl : ¬ off nx k < off nx best) :
    LeastInv es nx (seen.push e.born) best true := by
  refine ⟨fun _ => h.1 rfl, fun x hx hs => ⟨rfl, fun k' hk' => ?_⟩⟩
  rw [contains_push] at hs
  rcases Bool.or_eq_true_iff.1 hs with hs | hs
  · exact (h.2 x hx hs).2 k' hk'
  · have := born_inj hn hx he (by simpa using hs)
    subst this
    rw [hk] at hk'
    obtain rfl : k = k' := by simpa using hk'
    omega

theorem entry_of {es : List MapEntry} {l : List (Int × Value)} (he : es.map (fun e => (e.key, e.val)) = l.map (fun p => (Value.int .u32 p.1, p.2))) {e : MapEntry} (hm : e ∈ es) : ∃ k, e.key = .int .u32 k ∧ (k, e.val) ∈ l := by
  have h1 : (e.key, e.val) ∈ l.map (fun p => (Value.int .u32 p.1, p.2)) := by rw [← he]; exact List.mem_map.2 ⟨e, hm, rfl⟩
  obtain ⟨p, hp, hpe⟩ := List.mem_map.1 h1
  simp only [Prod.mk.injEq] at hpe
  exact ⟨p.1, hpe.1.symm, by rw [← hpe.2]; exact hp⟩
theorem entry_at {es : List MapEntry} {l : List (Int × Value)} (he : es.map (fun e => (e.key, e.val)) = l.map (fun p => (Value.int .u32 p.1, p.2))) {p : Int × Value} (hm : p ∈ l) : ∃ e ∈ es, e.key = .int .u32 p.1 := by
  have h1 : (Value.int .u32 p.1, p.2) ∈ es.map (fun e => (e.key, e.val)) := by rw [he]; exact List.mem_map.2 ⟨p, hm, rfl⟩
  obtain ⟨e, hm', hpe⟩ := List.mem_map.1 h1
  simp only [Prod.mk.injEq] at hpe
  exact ⟨e, hm', hpe.1⟩

def LeastPost (r : Rcv Value) (w : World) (e : Ending) (w' : World) : Prop := ∃ k v, (k, v) ∈ r.l ∧ (∀ q ∈ r.l, off r.nx k ≤ off r.nx q.1) ∧ e = .returned (.int .u32 k) ∧ Chg [] w w'

/-- Block r iterates over the map at m. -/
def IterW (m r : Nat) (es : Array MapEntry) (clock : Nat) (seen : Array Nat) (w wr : World) : Prop :=
  wr.heap[r]? = some (.mapIter (some m) clock seen clock) ∧ wr.heap[m]? = some (.map es clock) ∧ Chg [] w wr

theorem iter_start {w : World} {m : Nat} {es : Array MapEntry} {clock : Nat} (hb : w.heap[m]? = some (.map es clock)) : IterW m w.heap.size es clock #[] w (w.alloc (.mapIter (some m) clock #[] clock)) := by
  have hl : m < w.heap.size := (Array.getElem?_eq_some_iff.1 hb).1
  exact ⟨(MapKept.heap_alloc w _).1, by rw [(MapKept.heap_alloc w _).2 m hl]; exact hb, (Chg.refl _ _).alloc _⟩

theorem iter_step {w wr w1 : World} {m r : Nat} {es : Array MapEntry} {clock : Nat} {seen seen' : Array Nat} (h : IterW m r es clock seen w wr) (hr : w.heap.size ≤ r) (hm : m < w.heap.size) (h1 : w1 = wr ∨ w1 = wr.drew) :
    IterW m r es clock seen' w (Go.ChangeMaps.setBlock w1 r (.mapIter (some m) clock seen' clock)) := by
  obtain ⟨a, b, c⟩ := h
  have hh : w1.heap = wr.heap := by rcases h1 with rfl | rfl <;> rfl
  have hc : Chg [] w w1 := by rcases h1 with rfl | rfl; exact c; exact c.drew
  have ha : w1.heap[r]? = some (.mapIter (some m) clock seen clock) := by rw [hh]; exact a
  have hb : w1.heap[m]? = some (.map es clock) := by rw [hh]; exact b
  refine ⟨(MapKept.heap_set ha).1, by show (w1.heap.setIfInBounds r _)[m]? = _; rw [(MapKept.heap_set ha).2 m (by omega)]; exact hb, ?_⟩
  exact hc.trans' (F' := [r]) (chg_setObj w1 r _) (fun x hx => by simp at hx; subst hx; exact Or.inr hr)

theorem left_zero {es : Array MapEntry} {seen : Array Nat} (h : (leftOf es seen).size = 0) : ∀ e ∈ es.toList, seen.contains e.born = true := by
  intro e he
  have h1 : leftOf es seen = #[] := Array.eq_empty_of_size_eq_zero h
  unfold leftOf at h1
  rw [Array.filter_eq_empty_iff] at h1
  have := h1 e (by simpa using he)
  simpa using this

set_option maxRecDepth 100000 in
set_option maxHeartbeats 1000000 in
/-- The least of those that wait. -/
theorem least_any (p m : Nat) (r : Rcv Value) (w : World) (hr : RcvAt w p m r) (ok : r.Ok) (hne : r.l ≠ []) :
    Calls Try.prog 48 #[.pointer (some ⟨p, 0, none⟩)] w (LeastPost r w) := by
  obtain ⟨hA, hM⟩ := hr
  obtain ⟨es, clock, hb, he, hst⟩ := hM
  obtain ⟨c0, c1, c2, c3, _⟩ := hA.four
  have hrg := run_range_map (P := Try.prog) w 97 22 29 m es clock Try.underlying97 hb
  have OK := Lib.hid ok
  have HE := Lib.hid he
  have HST := Lib.hid hst
  have HB := Lib.hid hb
  have HNE := Lib.hid hne
  clear ok he hst hb hne
  go_enter Try.func48, Try.ntmps48
  go_wp2
  go_loopg [3, 4, 5] es.size (fun g s3 s4 s5 wr => ∃ (seen : Array Nat) (best : Int) (some : Bool), g = (leftOf es seen).size ∧ 0 ≤ best ∧ best < 4294967296 ∧ s3 = .int .u32 best ∧ s4 = .bool some ∧ LeastInv es.toList r.nx seen best some ∧ IterW m w.heap.size es clock seen w wr)
  case atStart =>
    refine ⟨#[], 0, false, ?_, by omega, by omega, rfl, rfl, ⟨fun h => (by cases h), fun e _ h => (by simp at h)⟩, iter_start HB.out⟩
    unfold leftOf
    rw [Array.filter_eq_self.2 (fun x _ => by simp)]
  case round =>
    obtain ⟨seen, best, some, rfl, hb0, hb1, rfl, rfl, hinv, hit⟩ := hrel
    have hml : m < w.heap.size := (Array.getElem?_eq_some_iff.1 HB.out).1
    have law := run_next_at (P := Try.prog) wr 0 w.heap.size m clock clock seen es clock hit.1 hit.2.1 HST.out.1 (Nat.le_refl _)
    have HI := Lib.hid hinv
    have HIT := Lib.hid hit
    clear hinv hit hrg c0 c1 c2 c3 hA
    rcases law with ⟨h0, hrun⟩ | ⟨e, hel, w2, hw2, hrun⟩
    · have hnx : ∀ ty, (Instr.next (.pointer (Option.some ⟨w.heap.size, 0, none⟩)) false ty).run Try.prog wr = _ := fun _ => hrun
      have H0 := Lib.hid h0
      clear h0 hrun
      go_wp2
      go_ret
      have hall := left_zero H0.out
      obtain ⟨q, hq⟩ := List.exists_mem_of_ne_nil _ HNE.out
      obtain ⟨e0, he0, hk0⟩ := entry_at HE.out hq
      have hs := (HI.out.2 e0 he0 (hall e0 he0)).1
      obtain ⟨e1, he1, hk1⟩ := HI.out.1 hs
      obtain ⟨k, hk, hkl⟩ := entry_of HE.out he1
      rw [hk1] at hk
      obtain rfl : best = k := by simpa using hk
      refine ⟨best, e1.val, hkl, fun q hq => ?_, rfl, HIT.out.2.2⟩
      obtain ⟨e2, he2, hk2⟩ := entry_at HE.out hq
      exact (HI.out.2 e2 he2 (hall e2 he2)).2 _ hk2
    · obtain ⟨k, hk, hkl⟩ := entry_of HE.out (mem_left hel).1
      have hkb := OK.out.keys _ hkl
      have hst2 := iter_step (seen' := seen.push e.born) HIT.out (Nat.le_refl _) hml hw2
      have hsh := left_shrinks es seen e hel
      have hmem := (mem_left hel).1
      have hbest : some = true → off r.nx best < 2147483648 := fun hs => by
        obtain ⟨e1, he1, hk1⟩ := HI.out.1 hs
        obtain ⟨k1, hk1', hkl1⟩ := entry_of HE.out he1
        rw [hk1] at hk1'
        obtain rfl : best = k1 := by simpa using hk1'
        exact (OK.out.keys _ hkl1).2.2
      have hen := run_entry_at (P := Try.prog) _ w.heap.size m clock seen es clock e hst2.1 hst2.2.1 hmem HST.out.2.1
      obtain ⟨wn, hwn⟩ : ∃ wn, wn = Go.ChangeMaps.setBlock w2 w.heap.size (.mapIter (Option.some m) clock (seen.push e.born) clock) := ⟨_, rfl⟩
      rw [← hwn] at hst2 hen hrun
      rw [hk] at hen hrun
      have hnx : ∀ ty, (Instr.next (.pointer (Option.some ⟨w.heap.size, 0, none⟩)) false ty).run Try.prog wr = _ := fun _ => hrun
      have HS2 := Lib.hid hst2
      have HSH := Lib.hid hsh
      have HK := Lib.hid hk
      have HM := Lib.hid hmem
      have HBE := Lib.hid hbest
      have HKB := Lib.hid hkb
      clear hst2 hsh hrun hk hkl hel hmem hbest hkb hwn hw2
      cases some
      · go_wp2_with fail
        go_roundg (leftOf es (seen.push e.born)).size
        case measure => exact HSH.out
        case rel => exact ⟨seen.push e.born, k, true, rfl, HKB.out.1, HKB.out.2.1, rfl, rfl, least_first HST.out.2.1 HI.out HM.out HK.out, HS2.out⟩
      · have HL := Lib.hid (less_off r.nx k best HKB.out.1 HKB.out.2.1 hb0 hb1 HKB.out.2.2 (HBE.out rfl))
        go_wp2_with fail
        refine (less_any _ _ _).mono ?_; rintro e' w' ⟨rfl, rfl⟩
        rw [HL.out]
        by_cases hlt : off r.nx k < off r.nx best
        · rw [decide_eq_true hlt]
          have HLT := Lib.hid hlt; clear hlt
          go_wp2_with fail
          go_roundg (leftOf es (seen.push e.born)).size
          case measure => exact HSH.out
          case rel => exact ⟨seen.push e.born, k, true, rfl, HKB.out.1, HKB.out.2.1, rfl, rfl, least_less HST.out.2.1 HI.out HM.out HK.out HLT.out, HS2.out⟩
        · rw [decide_eq_false hlt]
          have HLT := Lib.hid hlt; clear hlt
          go_wp2_with fail
          go_roundg (leftOf es (seen.push e.born)).size
          case measure => exact HSH.out
          case rel => exact ⟨seen.push e.born, best, true, rfl, hb0, hb1, rfl, rfl, least_keep HST.out.2.1 HI.out HM.out HK.out (by have := HLT.out; omega), HS2.out⟩

set_option maxHeartbeats 400000 in
theorem next_any (p m : Nat) (r : Rcv Value) (w : World) (hr : RcvAt w p m r) :
    Calls Try.prog 27 #[.pointer (some ⟨p, 0, none⟩)] w fun e w' => e = .returned (.int .u32 r.nx) ∧ w = w' := by
  obtain ⟨c0, c1, c2, c3, _⟩ := hr.1.four
  clear hr
  go_enter Try.func27, Try.ntmps27
  go_wp2
  go_ret
  exact ⟨rfl, rfl⟩

set_option maxHeartbeats 400000 in
theorem early_any (p m : Nat) (r : Rcv Value) (w : World) (hr : RcvAt w p m r) :
    Calls Try.prog 28 #[.pointer (some ⟨p, 0, none⟩)] w fun e w' => e = .returned (.int .i64 r.l.length) ∧ w = w' := by
  obtain ⟨c0, c1, c2, c3, _⟩ := hr.1.four
  have hl := len_map (P := Try.prog) Try.underlying97 3 hr.2
  clear hr
  go_enter Try.func28, Try.ntmps28
  go_wp2
  go_ret
  exact ⟨rfl, rfl⟩

set_option maxHeartbeats 400000 in
theorem twice_any (p m : Nat) (r : Rcv Value) (w : World) (hr : RcvAt w p m r) :
    Calls Try.prog 29 #[.pointer (some ⟨p, 0, none⟩)] w fun e w' => e = .returned (.int .i64 r.twice) ∧ w = w' := by
  obtain ⟨c0, c1, c2, c3, _⟩ := hr.1.four
  clear hr
  go_enter Try.func29, Try.ntmps29
  go_wp2
  go_ret
  exact ⟨rfl, rfl⟩

def RcvNew (first : Int) (w : World) (e : Ending) (w' : World) : Prop :=
  ∃ p m, e = .returned (.pointer (some ⟨p, 0, none⟩)) ∧ w.heap.size ≤ p ∧ w.heap.size ≤ m ∧ RcvAt w' p m ⟨first, [], 0, 0⟩ ∧ Chg [] w w'
set_option maxHeartbeats 400000 in
theorem recv_new (first : Int) (w : World) : Calls Try.prog 11 #[.int .u32 first] w (RcvNew first w) := by
  have hmm := @run_makeMap Try.prog
  go_enter Try.func11, Try.ntmps11
  go_wp2
  go_ret
  refine ⟨w.heap.size + 1, w.heap.size, rfl, by omega, by omega, ⟨?_, ?_⟩, ((Chg.refl _ _).alloc _).alloc _⟩
  · have h := At.new (w.alloc (.map #[] 0)) 99 [.int .u32 first, .map (some w.heap.size), .int .i64 0, .int .i64 0]
    simpa using h
  · have h := MapIs.made w
    exact h.chg ((Chg.refl [] _).alloc _) (by simp)
end Go.Proofs.Ytkmjpphmciaklaa
