/- Contracts of catwalkref31 over this seat's translation: find, Less. -/
import Derived.Test.YtkmjpphmciaklaaRecv8
import Derived.Test.YtkmjpphmciaklaaOwn
import Derived.LoopTactic
namespace Go.Proofs.Ytkmjpphmciaklaa
open Go.RowKit
set_option linter.unusedVariables false
set_option linter.unusedSimpArgs false
attribute [local go_sem ↓] Go.wp_at_zero Go.wp_at_succ

/-- The place of a number. -/
def findN {α : Type} : List (Int × α) → Int → Option Nat
  | [], _ => none
  | p :: l, k => if p.1 = k then some 0 else (findN l k).map (· + 1)
def findI {α : Type} (l : List (Int × α)) (k : Int) : Int := match findN l k with
  | some i => (i : Int)
  | none => -1
theorem findN_at {α : Type} : ∀ {l : List (Int × α)} {k : Int} {i : Nat}, (∃ v, l[i]? = some (k, v)) → (∀ j v, j < i → l[j]? ≠ some (k, v)) → findN l k = some i
  | [], k, i, ⟨v, h⟩, _ => by simp at h
  | p :: l, k, 0, ⟨v, h⟩, _ => by simp at h; subst h; simp [findN]
  | p :: l, k, i + 1, ⟨v, h⟩, hn => by
    have h0 : p.1 ≠ k := fun e => hn 0 p.2 (by omega) (by subst e; rfl)
    have ih := findN_at (l := l) (k := k) (i := i) ⟨v, by simpa using h⟩ (fun j u hj => by have := hn (j + 1) u (by omega); simpa using this)
    simp [findN, h0, ih]
theorem findN_no {α : Type} : ∀ {l : List (Int × α)} {k : Int}, (∀ p ∈ l, p.1 ≠ k) → findN l k = none
  | [], _, _ => rfl
  | p :: l, k, h => by
    have ih := findN_no (l := l) (k := k) (fun q hq => h q (List.mem_cons_of_mem _ hq))
    simp [findN, h p (by simp), ih]
theorem find_cases {α : Type} : ∀ (l : List (Int × α)) (k : Int), (lk l k = none ∧ findN l k = none) ∨ ∃ (i : Nat) (v : α), l[i]? = some (k, v) ∧ lk l k = some v ∧ findN l k = some i
  | [], k => .inl ⟨rfl, rfl⟩
  | p :: l, k => by
    by_cases h : p.1 = k
    · exact .inr ⟨0, p.2, by subst h; rfl, by simp [lk, h], by simp [findN, h]⟩
    · rcases find_cases l k with ⟨h1, h2⟩ | ⟨i, v, h1, h2, h3⟩
      · exact .inl ⟨by simp only [lk] at h1 ⊢; rw [List.find?_cons_of_neg (by simpa using h)]; exact h1, by simp [findN, h, h2]⟩
      · exact .inr ⟨i + 1, v, by simpa using h1, by simp only [lk] at h2 ⊢; rw [List.find?_cons_of_neg (by simpa using h)]; exact h2, by simp [findN, h, h3]⟩

/-- Packets as rows of cells. -/
def pk (l : List (Int × Value)) : List (List Value) := l.map (fun q => [.int .u32 q.1, q.2])
theorem pk_len (l : List (Int × Value)) : (pk l).length = l.length := by simp [pk]
theorem pk_app (l m : List (Int × Value)) : pk (l ++ m) = pk l ++ pk m := by simp [pk]
theorem pk_at {l : List (Int × Value)} {k : Nat} {p : Int × Value} (h : l[k]? = some p) : (pk l)[k]? = some [.int .u32 p.1, p.2] := by simp [pk, h]
theorem elem31 : Elem Try.prog 27 31 2 32 (.agg #[.int .u32 0, .slice none 0 0]) := ⟨Try.underlying27, Try.info31, rfl, by decide, by decide⟩

/-- The reference's receiver. -/
def RefAt (w : World) (B q : Nat) (v : Value) (r : Rcv Value) : Prop :=
  At w q 55 [.int .u32 r.nx, v, .int .i64 r.since, .int .i64 r.twice] ∧ Own 31 2 w B v (pk r.l) ∧ (r.l.map (·.1)).Nodup ∧ Vals r.l
theorem RefAt.chg {F : List Nat} {w w' : World} {B q : Nat} {v : Value} {r : Rcv Value} (h : RefAt w B q v r) (c : Chg F w w') (hq : q ∉ F) (hv : ∀ x ∈ F, v.ownBlock ≠ some x) : RefAt w' B q v r := ⟨h.1.chg c hq, h.2.1.chg c hv, h.2.2⟩
theorem RefAt.cells {w : World} {B q : Nat} {v : Value} {r : Rcv Value} (h : RefAt w B q v r) :
    ∃ a c, v = .slice a r.l.length c ∧ r.l.length ≤ c ∧ ∀ k (hk : k < r.l.length), ∃ g, a = some ⟨g, 0, none⟩ ∧ B ≤ g ∧ g < w.heap.size ∧ w.cell? ⟨g, k * 2, none⟩ = some (.int .u32 (r.l[k]'hk).1) ∧ w.cell? ⟨g, k * 2 + 1, none⟩ = some (r.l[k]'hk).2 := by
  obtain ⟨_, hO, _⟩ := h
  by_cases hne : r.l = []
  · obtain ⟨a, c, rfl⟩ := hO.slice
    exact ⟨a, c, by rw [pk_len], by rw [hne]; simp, fun k hk => by rw [hne] at hk; simp at hk⟩
  · obtain ⟨g, cap, rfl, hg, hl, hc, hm, hcell⟩ := hO.form (by simpa [pk] using hne)
    rw [pk_len] at hc
    exact ⟨_, cap, by rw [pk_len], hc, fun k hk => ⟨g, rfl, hg, hl, hcell k 0 _ _ (pk_at (List.getElem?_eq_getElem hk)) rfl, hcell k 1 _ _ (pk_at (List.getElem?_eq_getElem hk)) rfl⟩⟩

set_option maxHeartbeats 1000000 in
theorem find_any (B q : Nat) (v : Value) (r : Rcv Value) (seq : Int) (w : World) (h : RefAt w B q v r) (hl : r.l.length ≤ 100000) :
    Calls Try.prog 55 #[.pointer (some ⟨q, 0, none⟩), .int .u32 seq] w fun e w' => e = .returned (.int .i64 (findI r.l seq)) ∧ w = w' := by
  obtain ⟨a, c, rfl, hc, hcell⟩ := h.cells
  obtain ⟨c0, c1, c2, c3, _⟩ := h.1.four
  have HC := Lib.hid hcell
  clear h hcell
  go_enter Try.func55, Try.ntmps55
  go_wp2_with fail
  go_loopg [5] r.l.length (fun g s5 wr => ∃ k : Nat, k ≤ r.l.length ∧ g = r.l.length - k ∧ s5 = .int .i64 k ∧ (∀ j v, j < k → r.l[j]? ≠ some (seq, v)) ∧ w = wr)
  case atStart => exact ⟨0, by omega, rfl, rfl, fun j v hj => by omega, rfl⟩
  case round =>
    obtain ⟨k, hk, rfl, rfl, hn, rfl⟩ := hrel
    have HN := Lib.hid hn
    clear hn
    by_cases hkl : k < r.l.length
    · obtain ⟨g, rfl, hg, hgl, e0, _⟩ := HC.out k hkl
      have hi0 : ((k : Nat) : Int) < (r.l.length : Nat) := by omega
      by_cases he : r.l[k].1 = seq
      · have hfin : findI r.l seq = k := by
          unfold findI
          rw [findN_at (i := k) ⟨r.l[k].2, by rw [List.getElem?_eq_getElem hkl, ← he]⟩ HN.out]
        have HF := Lib.hid hfin
        rw [he] at e0
        clear he hfin
        go_wp2_with fail
        go_ret
        exact ⟨by rw [HF.out]; rfl, rfl⟩
      · have HE := Lib.hid he
        obtain ⟨x, hx⟩ : ∃ x, x = r.l[k].1 := ⟨_, rfl⟩
        rw [← hx] at e0 he
        have HX := Lib.hid hx
        clear hx
        go_wp2_with fail
        go_roundg (r.l.length - (k + 1))
        case measure => omega
        case rel =>
          refine ⟨k + 1, by omega, rfl, rfl, fun j v hj => ?_, rfl⟩
          by_cases e : j = k
          · subst e
            rw [List.getElem?_eq_getElem hkl]
            intro h
            simp only [Option.some.injEq] at h
            exact HE.out (by rw [h])
          · exact HN.out j v (by omega)
    · obtain rfl : k = r.l.length := by omega
      have hfin : findI r.l seq = -1 := by
        unfold findI
        rw [findN_no (fun p hp e => by
          obtain ⟨j, hj⟩ := List.mem_iff_getElem?.1 hp
          have hjl := (List.getElem?_eq_some_iff.1 hj).1
          exact HN.out j p.2 hjl (by rw [hj, ← e]))]
      have HF := Lib.hid hfin
      clear hfin
      go_wp2_with fail
      go_ret
      exact ⟨by rw [HF.out]; rfl, rfl⟩

set_option maxHeartbeats 400000 in
theorem steps_any (a b : Int) (w : World) (ha : 0 ≤ a) (ha' : a < 4294967296) (hb : 0 ≤ b) (hb' : b < 4294967296) :
    Calls Try.prog 89 #[.int .u32 a, .int .u32 b] w fun e w' => e = .returned (.int .i64 ((b - a) % 4294967296)) ∧ w = w' := by
  by_cases h : b - a < 0
  · have e : (b - a) % 4294967296 = b - a + 4294967296 := by omega
    rw [e]
    clear e
    go_enter Try.func89, Try.ntmps89
    go_wp2
    go_ret
    exact ⟨rfl, rfl⟩
  · have e : (b - a) % 4294967296 = b - a := by omega
    rw [e]
    clear e
    go_enter Try.func89, Try.ntmps89
    go_wp2
    go_ret
    exact ⟨rfl, rfl⟩
set_option maxHeartbeats 400000 in
theorem less02_any (a b : Int) (w : World) (ha : 0 ≤ a) (ha' : a < 4294967296) (hb : 0 ≤ b) (hb' : b < 4294967296) :
    Calls Try.prog 56 #[.int .u32 a, .int .u32 b] w fun e w' => e = .returned (.bool (lessB a b)) ∧ w = w' := by
  have CT := Lib.hid (steps_any a b w ha ha' hb hb')
  have hl : lessB a b = (decide (0 < (b - a) % 4294967296) && decide ((b - a) % 4294967296 < 2147483648)) := by
    unfold lessB
    rw [Bool.eq_iff_iff]; simp; omega
  rw [hl]
  clear hl
  obtain ⟨d, hd⟩ : ∃ d, d = (b - a) % 4294967296 := ⟨_, rfl⟩
  rw [← hd]
  have hd0 : 0 ≤ d := by omega
  have hd1 : d < 4294967296 := by omega
  have CT : Hid (Calls Try.prog 89 #[.int .u32 a, .int .u32 b] w fun e w' => e = .returned (.int .i64 d) ∧ w = w') := by rw [hd]; exact CT
  clear hd
  by_cases h0 : 0 < d
  · go_enter Try.func56, Try.ntmps56
    go_wp2_with fail
    refine CT.out.mono ?_; rintro e' w' ⟨rfl, rfl⟩
    go_wp2_with fail
    go_ret
    exact ⟨by simp [h0], rfl⟩
  · go_enter Try.func56, Try.ntmps56
    go_wp2_with fail
    refine CT.out.mono ?_; rintro e' w' ⟨rfl, rfl⟩
    go_wp2_with fail
    go_ret
    exact ⟨by simp; omega, rfl⟩
end Go.Proofs.Ytkmjpphmciaklaa
