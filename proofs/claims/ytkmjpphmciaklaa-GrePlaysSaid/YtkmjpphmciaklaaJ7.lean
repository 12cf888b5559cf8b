/- The receiver said of lists of bytes: two receivers that hold the like answer the like; what stays true of one. slices.Equal of bytes; reading a slice of packets; the chapter's example. The chapter's example of layer 31. -/
import Derived.Test.YtkmjpphmciaklaaJ6
namespace Go.Proofs.Ytkmjpphmciaklaa
open Go.RowKit
set_option linter.unusedVariables false
set_option linter.unusedSimpArgs false

/-- The same numbers, and the like behind each. -/
def RelL {α β : Type} (R : α → β → Prop) : List (Int × α) → List (Int × β) → Prop
  | [], [] => True
  | p :: l, q :: a => p.1 = q.1 ∧ R p.2 q.2 ∧ RelL R l a
  | _, _ => False
section
variable {α β : Type} {R : α → β → Prop}
theorem RelL.mono {R' : α → β → Prop} (h : ∀ x y, R x y → R' x y) : ∀ {l : List (Int × α)} {a : List (Int × β)}, RelL R l a → RelL R' l a
  | [], [], _ => trivial
  | p :: l, q :: a, hr => ⟨hr.1, h _ _ hr.2.1, RelL.mono h hr.2.2⟩
  | [], _ :: _, hr => hr.elim
  | _ :: _, [], hr => hr.elim
theorem RelL.len : ∀ {l : List (Int × α)} {a : List (Int × β)}, RelL R l a → l.length = a.length
  | [], [], _ => rfl
  | p :: l, q :: a, hr => by simp [RelL.len hr.2.2]
  | [], _ :: _, hr => hr.elim
  | _ :: _, [], hr => hr.elim
theorem RelL.app : ∀ {l : List (Int × α)} {a : List (Int × β)} {x : List (Int × α)} {y : List (Int × β)}, RelL R l a → RelL R x y → RelL R (l ++ x) (a ++ y)
  | [], [], _, _, _, h2 => h2
  | p :: l, q :: a, _, _, hr, h2 => ⟨hr.1, hr.2.1, RelL.app hr.2.2 h2⟩
  | [], _ :: _, _, _, hr, _ => hr.elim
  | _ :: _, [], _, _, hr, _ => hr.elim
theorem RelL.filt (k : Int) : ∀ {l : List (Int × α)} {a : List (Int × β)}, RelL R l a → RelL R (l.filter (fun p => p.1 != k)) (a.filter (fun p => p.1 != k))
  | [], [], _ => trivial
  | p :: l, q :: a, hr => by
    have ih := RelL.filt k hr.2.2
    have e := hr.1
    simp only [List.filter_cons]
    rw [e]
    split
    · exact ⟨e, hr.2.1, ih⟩
    · exact ih
  | [], _ :: _, hr => hr.elim
  | _ :: _, [], hr => hr.elim
theorem RelL.look (k : Int) : ∀ {l : List (Int × α)} {a : List (Int × β)}, RelL R l a → (lk l k = none ∧ lk a k = none) ∨ ∃ v d, lk l k = some v ∧ lk a k = some d ∧ R v d
  | [], [], _ => .inl ⟨rfl, rfl⟩
  | p :: l, q :: a, hr => by
    have ih := RelL.look k hr.2.2
    have e := hr.1
    unfold lk at ih ⊢
    simp only [List.find?_cons]
    rw [e]
    cases hq : q.1 == k
    · exact ih
    · exact .inr ⟨p.2, q.2, rfl, rfl, hr.2.1⟩
  | [], _ :: _, hr => hr.elim
  | _ :: _, [], hr => hr.elim
theorem RelL.least (nx : Int) : ∀ {l : List (Int × α)} {a : List (Int × β)}, RelL R l a → leastK nx l = leastK nx a
  | [], [], _ => rfl
  | [p], [q], hr => hr.1
  | p :: p' :: l, q :: q' :: a, hr => by
    have ih := RelL.least nx hr.2.2
    have e := hr.1
    unfold leastK
    rw [ih, e]
  | [], _ :: _, hr => hr.elim
  | _ :: _, [], hr => hr.elim
  | [_], _ :: _ :: _, hr => hr.2.2.elim
  | _ :: _ :: _, [_], hr => hr.2.2.elim
theorem RelL.run : ∀ (f : Nat) (nx : Int) {l : List (Int × α)} {a : List (Int × β)}, RelL R l a →
    RelL R (runF f nx l).1 (runF f nx a).1 ∧ (runF f nx l).2.1 = (runF f nx a).2.1 ∧ RelL R (runF f nx l).2.2 (runF f nx a).2.2
  | 0, nx, l, a, h => ⟨trivial, rfl, h⟩
  | f + 1, nx, l, a, h => by
    rcases h.look nx with ⟨h1, h2⟩ | ⟨v, d, h1, h2, h3⟩
    · rw [runF_none h1, runF_none h2]; exact ⟨trivial, rfl, h⟩
    · rw [runF_some h1, runF_some h2]
      have ih := RelL.run f ((nx + 1) % 4294967296) (h.filt nx)
      exact ⟨⟨rfl, h3, ih.1⟩, ih.2⟩

def RelR (R : α → β → Prop) (r : Rcv α) (a : Rcv β) : Prop := r.nx = a.nx ∧ RelL R r.l a.l ∧ r.since = a.since ∧ r.twice = a.twice
theorem RelR.mono {R' : α → β → Prop} (h : ∀ x y, R x y → R' x y) {r : Rcv α} {a : Rcv β} (hr : RelR R r a) : RelR R' r a := ⟨hr.1, hr.2.1.mono h, hr.2.2⟩
theorem RelR.run {r : Rcv α} {a : Rcv β} (h : RelR R r a) (nx now : Int) : RelR R (r.run nx now).1 (a.run nx now).1 ∧ RelL R (r.run nx now).2 (a.run nx now).2 := by
  obtain ⟨h1, h2, h3, h4⟩ := h
  have hr := h2.run r.l.length nx
  unfold Rcv.run
  rw [← h2.len]
  exact ⟨⟨hr.2.1, hr.2.2, rfl, h4⟩, hr.1⟩
theorem RelR.put {r : Rcv α} {a : Rcv β} (h : RelR R r a) (now seq : Int) {v : α} {d : β} (hv : R v d) :
    RelR R (r.put now seq v).1 (a.put now seq d).1 ∧ RelL R (r.put now seq v).2 (a.put now seq d).2 := by
  obtain ⟨h1, h2, h3, h4⟩ := h
  have hdup : r.dup seq = a.dup seq := by
    unfold Rcv.dup
    rw [h1]
    rcases h2.look seq with ⟨e1, e2⟩ | ⟨v, d, e1, e2, _⟩ <;> rw [e1, e2] <;> rfl
  have hl := h2.len
  have hem : r.l.isEmpty = a.l.isEmpty := by rw [Bool.eq_iff_iff]; simp only [List.isEmpty_iff_length_eq_zero, hl]
  have hm : RelR R (r.more now seq v) (a.more now seq d) := by
    refine ⟨h1, h2.app ⟨rfl, hv, trivial⟩, ?_, h4⟩
    show (if r.l.isEmpty then now else r.since) = (if a.l.isEmpty then now else a.since)
    rw [hem, h3]
  unfold Rcv.put
  rw [← hdup, ← h1, ← hl, ← hm.2.1.least r.nx]
  split
  · exact ⟨⟨rfl, h2, h3, by show r.twice + 1 = a.twice + 1; rw [h4]⟩, trivial⟩
  · split
    · exact hm.run _ _
    · split
      · exact ⟨hm, trivial⟩
      · exact hm.run _ _
theorem RelR.tick {r : Rcv α} {a : Rcv β} (h : RelR R r a) (now : Int) : RelR R (r.tick now).1 (a.tick now).1 ∧ RelL R (r.tick now).2 (a.tick now).2 := by
  obtain ⟨h1, h2, h3, h4⟩ := h
  have hl := h2.len
  have hem : r.l.isEmpty = a.l.isEmpty := by rw [Bool.eq_iff_iff]; simp only [List.isEmpty_iff_length_eq_zero, hl]
  unfold Rcv.tick
  rw [hem, h3, h2.least r.nx, h1]
  split
  · exact ⟨⟨h1, h2, h3, h4⟩, trivial⟩
  · exact RelR.run ⟨h1, h2, h3, h4⟩ _ _
theorem RelR.ok {r : Rcv α} {a : Rcv β} (h : RelR R r a) (ok : a.Ok) : r.Ok := by
  obtain ⟨h1, h2, _, _⟩ := h
  refine ⟨by rw [h1]; exact ok.nx0, by rw [h1]; exact ok.nx1, fun p hp => ?_⟩
  rw [h1]
  have key : ∀ {l : List (Int × α)} {a' : List (Int × β)}, RelL R l a' → ∀ p ∈ l, ∃ q ∈ a', p.1 = q.1 := by
    intro l
    induction l with
    | nil => intro a' _ p hp; cases hp
    | cons x l ih =>
      intro a' hr p hp
      cases a' with
      | nil => exact hr.elim
      | cons y a' =>
        rcases List.mem_cons.1 hp with rfl | hp
        · exact ⟨y, by simp, hr.1⟩
        · obtain ⟨q, hq, e⟩ := ih hr.2.2 p hp
          exact ⟨q, List.mem_cons_of_mem _ hq, e⟩
  obtain ⟨q, hq, e⟩ := key h2 p hp
  rw [e]
  exact ok.keys q hq
end

/-! ### What stays true -/
section
variable {α : Type}
/-- All that waits lies less than half of all numbers on from here. -/
def KeysOk (nx : Int) (l : List (Int × α)) : Prop := ∀ p ∈ l, 0 ≤ p.1 ∧ p.1 < 4294967296 ∧ off nx p.1 < 2147483648
theorem run_keys : ∀ (f : Nat) (nx : Int) (l : List (Int × α)), 0 ≤ nx → nx < 4294967296 → KeysOk nx l →
    0 ≤ (runF f nx l).2.1 ∧ (runF f nx l).2.1 < 4294967296 ∧ KeysOk (runF f nx l).2.1 (runF f nx l).2.2
  | 0, nx, l, h0, h1, h => ⟨h0, h1, h⟩
  | f + 1, nx, l, h0, h1, h => by
    cases hl : lk l nx with
    | none => rw [runF_none hl]; exact ⟨h0, h1, h⟩
    | some v =>
      rw [runF_some hl]
      refine run_keys f ((nx + 1) % 4294967296) _ (by omega) (by omega) (fun p hp => ?_)
      rw [List.mem_filter] at hp
      obtain ⟨hp, hne⟩ := hp
      have h2 := h p hp
      have hne' : p.1 ≠ nx := by simpa using hne
      unfold off at *
      omega
theorem least_keys {nx : Int} {l : List (Int × α)} (h0 : 0 ≤ nx) (h1 : nx < 4294967296) (h : KeysOk nx l) (hne : l ≠ []) : 0 ≤ leastK nx l ∧ leastK nx l < 4294967296 ∧ KeysOk (leastK nx l) l := by
  obtain ⟨⟨q, hq, e1⟩, e2⟩ := leastK_spec nx l hne
  have hq1 := h q hq
  refine ⟨by rw [e1]; exact hq1.1, by rw [e1]; exact hq1.2.1, fun p hp => ?_⟩
  have hp1 := h p hp
  have hp2 := e2 p hp
  rw [e1] at hp2 ⊢
  unfold off at *
  omega
theorem run_shrinks : ∀ (f : Nat) (nx : Int) (l : List (Int × α)), (runF f nx l).2.2.length + (runF f nx l).1.length ≤ l.length + 0
  | 0, nx, l => by simp [runF]
  | f + 1, nx, l => by
    cases hl : lk l nx with
    | none => rw [runF_none hl]; simp
    | some v =>
      rw [runF_some hl]
      have ih := run_shrinks f ((nx + 1) % 4294967296) (l.filter (fun p => p.1 != nx))
      have hlt : (l.filter (fun p => p.1 != nx)).length < l.length := by
        rw [List.length_filter_lt_length_iff_exists]
        exact ⟨_, lk_some hl, by simp⟩
      simp only [List.length_cons]
      omega
theorem run_takes {f : Nat} {nx : Int} {l : List (Int × α)} {v : α} (h : (nx, v) ∈ l) : (runF (f + 1) nx l).2.2.length < l.length := by
  cases hl : lk l nx with
  | none => exact absurd rfl (lk_none hl _ h)
  | some v' =>
    have h1 := run_shrinks (f + 1) nx l
    rw [runF_some hl] at h1 ⊢
    simp only [List.length_cons] at h1 ⊢
    omega
theorem Rcv.Ok.mk' {r : Rcv α} (h0 : 0 ≤ r.nx) (h1 : r.nx < 4294967296) (h : KeysOk r.nx r.l) : r.Ok := ⟨h0, h1, h⟩
theorem Rcv.run_ok {r : Rcv α} {nx now : Int} (h0 : 0 ≤ nx) (h1 : nx < 4294967296) (h : KeysOk nx r.l) : (r.run nx now).1.Ok := by
  have := run_keys r.l.length nx r.l h0 h1 h
  exact ⟨this.1, this.2.1, this.2.2⟩
theorem Rcv.put_ok {r : Rcv α} {now seq : Int} {d : α} (ok : r.Ok) (hs0 : 0 ≤ seq) (hs1 : seq < 4294967296) : (r.put now seq d).1.Ok := by
  unfold Rcv.put
  split
  · exact ⟨ok.nx0, ok.nx1, ok.keys⟩
  · rename_i hd
    have okm : (r.more now seq d).Ok := Rcv.more_ok ok hs0 hs1 (by simpa using hd)
    split
    · exact Rcv.run_ok ok.nx0 ok.nx1 okm.keys
    · split
      · exact okm
      · have hl := least_keys ok.nx0 ok.nx1 okm.keys (by simp [Rcv.more])
        exact Rcv.run_ok hl.1 hl.2.1 hl.2.2
theorem Rcv.tick_ok {r : Rcv α} {now : Int} (ok : r.Ok) : (r.tick now).1.Ok := by
  unfold Rcv.tick
  split
  · exact ok
  · rename_i h
    have hne : r.l ≠ [] := by intro e; rw [e] at h; simp at h
    have hl := least_keys ok.nx0 ok.nx1 ok.keys hne
    exact Rcv.run_ok hl.1 hl.2.1 hl.2.2
theorem Rcv.put_len {r : Rcv α} {now seq : Int} {d : α} (h : r.l.length ≤ 8) : (r.put now seq d).1.l.length ≤ 8 := by
  unfold Rcv.put
  split
  · exact h
  · split
    · rename_i _ he
      have hm : (r.nx, d) ∈ (r.more now seq d).l := by simp [Rcv.more, he]
      have h1 := Rcv.more_len r now seq d
      have h2 := run_takes (f := r.l.length) hm
      unfold Rcv.run
      rw [h1]
      show (runF (r.l.length + 1) r.nx (r.more now seq d).l).2.2.length ≤ 8
      omega
    · split
      · rw [Rcv.more_len]; omega
      · obtain ⟨⟨q, hq, e1⟩, _⟩ := leastK_spec r.nx (r.more now seq d).l (by simp [Rcv.more])
        have hm : (leastK r.nx (r.more now seq d).l, q.2) ∈ (r.more now seq d).l := by rw [e1]; exact hq
        have h1 := Rcv.more_len r now seq d
        have h2 := run_takes (f := r.l.length) hm
        unfold Rcv.run
        rw [h1]
        show (runF (r.l.length + 1) _ (r.more now seq d).l).2.2.length ≤ 8
        omega
theorem Rcv.tick_len {r : Rcv α} {now : Int} (h : r.l.length ≤ 8) : (r.tick now).1.l.length ≤ 8 := by
  unfold Rcv.tick
  split
  · exact h
  · have := run_shrinks r.l.length (leastK r.nx r.l) r.l
    show (runF _ _ _).2.2.length ≤ 8
    omega
theorem Rcv.put_twice {r : Rcv α} {now seq : Int} {d : α} : r.twice ≤ (r.put now seq d).1.twice ∧ (r.put now seq d).1.twice ≤ r.twice + 1 := by
  unfold Rcv.put
  split
  · exact ⟨by show r.twice ≤ r.twice + 1; omega, Int.le_refl _⟩
  · split
    · exact ⟨Int.le_refl _, by show r.twice ≤ _; omega⟩
    · split
      · exact ⟨Int.le_refl _, by show r.twice ≤ _; omega⟩
      · exact ⟨Int.le_refl _, by show r.twice ≤ _; omega⟩
theorem Rcv.tick_twice {r : Rcv α} {now : Int} : (r.tick now).1.twice = r.twice := by
  unfold Rcv.tick
  split <;> rfl
end

/-! ### The contracts -/
def RcvIs (w : World) (p m : Nat) (a : Rcv (List Int)) : Prop := ∃ r, RcvAt w p m r ∧ RelR (Bytes w) r a
/-- A slice of packets of the call's own. -/
def OutIs (w : World) (base : Nat) (v : Value) (out : List (Int × List Int)) : Prop := ∃ o : List (Int × Value), w.ownsRow base 31 2 v o.length (cellsOf o) ∧ RelL (Bytes w) o out
theorem RelL.vals {w : World} : ∀ {l : List (Int × Value)} {a : List (Int × List Int)}, RelL (Bytes w) l a → Vals l
  | [], [], _ => fun p hp => by cases hp
  | p :: l, q :: a, hr => fun x hx => by
    rcases List.mem_cons.1 hx with rfl | hx
    · exact hr.2.1.slice
    · exact RelL.vals hr.2.2 x hx
  | [], _ :: _, hr => hr.elim
  | _ :: _, [], hr => hr.elim
theorem RcvIs.chg {F : List Nat} {w w' : World} {p m : Nat} {a : Rcv (List Int)} (h : RcvIs w p m a) (c : Chg F w w') (hp : p ∉ F) (hm : m ∉ F) (hF : ∀ b ∈ F, NoB w b) : RcvIs w' p m a := by
  obtain ⟨r, h1, h2⟩ := h
  exact ⟨r, h1.chg c hp hm, h2.mono fun _ _ hb => hb.chg c hF⟩
def PutIs (p m : Nat) (a : Rcv (List Int)) (now seq : Int) (d : List Int) (w : World) (e : Ending) (w' : World) : Prop :=
  ∃ o, e = .returned o ∧ OutIs w' w.heap.size o (a.put now seq d).2 ∧ RcvIs w' p m (a.put now seq d).1 ∧ Chg [p, m] w w'
def TickIs (p m : Nat) (a : Rcv (List Int)) (now : Int) (w : World) (e : Ending) (w' : World) : Prop :=
  ∃ o, e = .returned o ∧ OutIs w' w.heap.size o (a.tick now).2 ∧ RcvIs w' p m (a.tick now).1 ∧ Chg [p, m] w w'
theorem put_in (p m : Nat) (a : Rcv (List Int)) (now seq : Int) (v : Value) (d : List Int) (w : World) (hr : RcvIs w p m a) (ok : a.Ok) (hlen : a.l.length ≤ 1000) (hd : BytS (fun g => g ∉ [p, m]) w v d) (hl : d.length ≤ 100000)
    (hs0 : 0 ≤ seq) (hs1 : seq < 4294967296) (ht0 : 0 ≤ a.twice) (ht1 : a.twice < 1000000) :
    Calls Try.prog 13 #[.pointer (some ⟨p, 0, none⟩), .int .i64 now, .int .u32 seq, v] w (PutIs p m a now seq d w) := by
  obtain ⟨r, h1, h2⟩ := hr
  have key : ∀ e w', PutPost p m r now seq d w e w' → PutIs p m a now seq d w e w' := by
    rintro e w' ⟨v', o, hv', rfl, ho, hrc, hch⟩
    have h3 := (h2.mono fun _ _ hb => hb.chg hch h1.noB).put now seq hv'
    exact ⟨o, rfl, ⟨_, ho, h3.2⟩, ⟨_, hrc, h3.1⟩, hch⟩
  have okr := h2.ok ok
  have hlr : r.l.length ≤ 1000 := by rw [h2.2.1.len]; exact hlen
  cases hdup : r.dup seq with
  | true =>
    refine (put_twice p m r now seq v w h1 h2.2.1.vals hd.slice (by rw [h2.2.2.2]; exact ht0) (by rw [h2.2.2.2]; exact ht1) hdup).mono ?_
    rintro e w' ⟨v', o, hv', rfl, ho, hrc, hch⟩
    have h3 := (h2.mono fun _ _ hb => hb.chg hch h1.noB).put now seq hv'
    have hda : a.dup seq = true := by
      have e1 : r.dup seq = a.dup seq := by
        unfold Rcv.dup
        rw [h2.1]
        rcases h2.2.1.look seq with ⟨e1, e2⟩ | ⟨v, d, e1, e2, _⟩ <;> rw [e1, e2] <;> rfl
      rw [← e1]; exact hdup
    have hsame : a.put now seq [] = a.put now seq d := by
      unfold Rcv.put
      rw [if_pos hda, if_pos hda]
    rw [hsame] at h3
    exact ⟨o, rfl, ⟨_, ho, h3.2⟩, ⟨_, hrc, h3.1⟩, hch⟩
  | false => exact (put_new p m r now seq v d w h1 okr h2.2.1.vals hd hl hs0 hs1 hlr hdup).mono key
theorem RcvIs.noB {w : World} {p m : Nat} {a : Rcv (List Int)} (h : RcvIs w p m a) : ∀ b ∈ [p, m], NoB w b := by
  obtain ⟨r, h1, _⟩ := h
  exact h1.noB
theorem put_is (p m : Nat) (a : Rcv (List Int)) (now seq : Int) (v : Value) (d : List Int) (w : World) (hr : RcvIs w p m a) (ok : a.Ok) (hlen : a.l.length ≤ 1000) (hd : Bytes w v d) (hl : d.length ≤ 100000)
    (hs0 : 0 ≤ seq) (hs1 : seq < 4294967296) (ht0 : 0 ≤ a.twice) (ht1 : a.twice < 1000000) :
    Calls Try.prog 13 #[.pointer (some ⟨p, 0, none⟩), .int .i64 now, .int .u32 seq, v] w (PutIs p m a now seq d w) :=
  put_in p m a now seq v d w hr ok hlen (hd.off hr.noB) hl hs0 hs1 ht0 ht1
theorem tick_is (p m : Nat) (a : Rcv (List Int)) (now : Int) (w : World) (hr : RcvIs w p m a) (ok : a.Ok) (hlen : a.l.length ≤ 1000) (hn0 : 0 ≤ now) (hn1 : now ≤ 1000000000) (hs0 : 0 ≤ a.since) (hs1 : a.since ≤ 1000000000) :
    Calls Try.prog 23 #[.pointer (some ⟨p, 0, none⟩), .int .i64 now] w (TickIs p m a now w) := by
  obtain ⟨r, h1, h2⟩ := hr
  refine (tick_any p m r now w h1 (h2.ok ok) h2.2.1.vals (by rw [h2.2.1.len]; exact hlen) hn0 hn1 (by rw [h2.2.2.1]; exact hs0) (by rw [h2.2.2.1]; exact hs1)).mono ?_
  rintro e w' ⟨o, rfl, ho, hrc, hch⟩
  have h3 := (h2.mono fun _ _ hb => hb.chg hch h1.noB).tick now
  exact ⟨o, rfl, ⟨_, ho, h3.2⟩, ⟨_, hrc, h3.1⟩, hch⟩
end Go.Proofs.Ytkmjpphmciaklaa
namespace Go.Proofs.Ytkmjpphmciaklaa
open Go.RowKit
set_option linter.unusedVariables false
set_option linter.unusedSimpArgs false
attribute [local go_sem ↓] Go.wp_at_zero Go.wp_at_succ

theorem Bytes.at {w : World} {a : Option Addr} {n c : Nat} {d : List Int} (h : Bytes w (.slice a n c) d) : n = d.length ∧ ∀ k (hk : k < d.length), ∃ g o, a = some ⟨g, o, none⟩ ∧ g < w.heap.size ∧ w.cell? ⟨g, o + k, none⟩ = some (.int .u8 (d[k]'hk)) := by
  obtain ⟨A, c', he, hd⟩ := h
  simp only [Value.slice.injEq] at he
  obtain ⟨rfl, rfl, rfl⟩ := he
  refine ⟨rfl, fun k hk => ?_⟩
  obtain ⟨g, o, rfl, cs, fz, hg, hc⟩ := hd (by intro e; rw [e] at hk; simp at hk)
  refine ⟨g, o, rfl, (Array.getElem?_eq_some_iff.1 hg).1, ?_⟩
  have := hc k _ (List.getElem?_eq_getElem hk)
  simp [World.cell?, hg, this]

/-- Nothing but the tape's draws. -/
def Drawn (w wr : World) : Prop := ∃ n, wr = w.drewN n
theorem Drawn.refl (w : World) : Drawn w w := ⟨0, by rw [World.drewN_zero]⟩
theorem Drawn.drewN {w wr : World} (h : Drawn w wr) (k : Nat) : Drawn w (wr.drewN k) := by
  obtain ⟨n, rfl⟩ := h
  exact ⟨n + k, by rw [World.drewN_drewN]⟩
theorem Drawn.cell {w wr : World} (h : Drawn w wr) {p : Addr} : wr.cell? p = w.cell? p := by
  obtain ⟨n, rfl⟩ := h
  rfl
theorem Drawn.chg {w wr : World} (h : Drawn w wr) (F : List Nat) : Chg F w wr := by
  obtain ⟨n, rfl⟩ := h
  exact (Chg.refl _ _).drewN n

theorem take_step {l m : List Int} (k : Nat) (h : l.take k = m.take k) (h1 : k < l.length) (h2 : k < m.length) (e : l[k] = m[k]) : l.take (k + 1) = m.take (k + 1) := by
  rw [List.take_add_one, List.take_add_one, h, List.getElem?_eq_getElem h1, List.getElem?_eq_getElem h2, e]

set_option maxRecDepth 100000 in
set_option maxHeartbeats 2000000 in
theorem equal_q {S1 S2 : Nat → Prop} (v1 v2 : Value) (d1 d2 : List Int) (w : World) (h1 : BytS S1 w v1 d1) (h2 : BytS S2 w v2 d2) (hl : d1.length ≤ 1000000) (hl2 : d2.length ≤ 1000000) :
    Calls Try.prog 14 #[v1, v2] w fun e w' => e = .returned (.bool (decide (d1 = d2))) ∧ ∃ n, w' = w.drewN n := by
  obtain ⟨a1, n1, c1, rfl⟩ := h1.slice
  obtain ⟨a2, n2, c2, rfl⟩ := h2.slice
  obtain ⟨rfl, r1⟩ := h1.at
  obtain ⟨rfl, r2⟩ := h2.at
  have R1 := Lib.hid r1
  have R2 := Lib.hid r2
  clear r1 r2 h1 h2
  by_cases hlen : d1.length = d2.length
  · have HL := Lib.hid hlen
    rw [← hlen]
    clear hlen
    go_enter Try.func14, Try.ntmps14
    go_wp2_with fail
    go_loopg [5, 13] d1.length (fun g s5 s13 wr => ∃ k : Nat, k ≤ d1.length ∧ g = d1.length - k ∧ s13 = .int .i64 k ∧ d1.take k = d2.take k ∧ Drawn w wr)
    case atStart => exact ⟨0, by omega, by omega, rfl, by simp, Drawn.refl _⟩
    case round =>
      obtain ⟨k, hk, rfl, rfl, ht, hc⟩ := hrel
      have HT := Lib.hid ht
      have HC := Lib.hid hc
      clear ht hc
      by_cases hkl : k < d1.length
      · have hk2 : k < d2.length := by have := HL.out; omega
        obtain ⟨g1, o1, rfl, hb1, e1⟩ := R1.out k hkl
        obtain ⟨g2, o2, rfl, hb2, e2⟩ := R2.out k hk2
        have hc1 : wr.cell? ⟨g1, o1 + k, none⟩ = some (.int .u8 d1[k]) := by rw [HC.out.cell]; exact e1
        have hc2 : wr.cell? ⟨g2, o2 + k, none⟩ = some (.int .u8 d2[k]) := by rw [HC.out.cell]; exact e2
        clear e1 e2
        by_cases he : d1[k] = d2[k]
        · have HE := Lib.hid he
          rw [← he] at hc2
          clear he
          obtain ⟨x, hx⟩ : ∃ x, x = d1[k] := ⟨_, rfl⟩
          rw [← hx] at hc1 hc2
          clear hx
          go_wp2_with fail
          go_quiet (fail)
          go_wp2_with fail
          go_roundg (d1.length - (k + 1))
          case measure => omega
          case rel => exact ⟨k + 1, by omega, rfl, rfl, take_step k HT.out hkl hk2 HE.out, HC.out.drewN _⟩
        · have hne : decide (d1 = d2) = false := decide_eq_false (fun e => he (by subst e; rfl))
          have HNE := Lib.hid hne
          obtain ⟨x, hx⟩ : ∃ x, x = d1[k] := ⟨_, rfl⟩
          obtain ⟨y, hy⟩ : ∃ y, y = d2[k] := ⟨_, rfl⟩
          rw [← hx] at hc1 he
          rw [← hy] at hc2 he
          clear hx hy hne
          go_wp2_with fail
          go_quiet (fail)
          go_wp2_with fail
          go_ret
          exact ⟨by rw [HNE.out]; rfl, HC.out.drewN _⟩
      · obtain rfl : k = d1.length := by omega
        have hne : decide (d1 = d2) = true := decide_eq_true (by
          have h := HT.out
          have e := HL.out
          rw [List.take_of_length_le (Nat.le_refl _), e, List.take_of_length_le (Nat.le_refl _)] at h
          exact h)
        have HNE := Lib.hid hne
        clear hne
        go_wp2_with fail
        go_ret
        exact ⟨by rw [HNE.out]; rfl, HC.out⟩
  · have hne : decide (d1 = d2) = false := decide_eq_false (fun e => hlen (by rw [e]))
    have HNE := Lib.hid hne
    clear hne
    go_enter Try.func14, Try.ntmps14
    go_wp2_with fail
    go_ret
    exact ⟨by rw [HNE.out]; rfl, Drawn.refl _⟩

theorem equal_any (v1 v2 : Value) (d1 d2 : List Int) (w : World) (h1 : Bytes w v1 d1) (h2 : Bytes w v2 d2) (hl : d1.length ≤ 1000000) (hl2 : d2.length ≤ 1000000) :
    Calls Try.prog 14 #[v1, v2] w fun e w' => e = .returned (.bool (decide (d1 = d2))) ∧ Chg [] w w' :=
  (equal_q v1 v2 d1 d2 w h1.wide h2.wide hl hl2).mono fun e w' ⟨h1, n, h2⟩ => ⟨h1, by rw [h2]; exact (Chg.refl _ _).drewN n⟩

theorem cellsOf_at {o : List (Int × Value)} : ∀ {k : Nat} (hk : k < o.length), (cellsOf o)[k * 2]? = some (.int .u32 (o[k].1)) ∧ (cellsOf o)[k * 2 + 1]? = some (o[k].2) := by
  induction o with
  | nil => intro k hk; simp at hk
  | cons x o ih =>
    intro k hk
    cases k with
    | zero => exact ⟨rfl, rfl⟩
    | succ k =>
      have := ih (k := k) (by simpa using hk)
      have e1 : (k + 1) * 2 = k * 2 + 1 + 1 := by omega
      rw [e1]
      exact this
theorem RelL.at {α β : Type} {R : α → β → Prop} : ∀ {l : List (Int × α)} {a : List (Int × β)} (h : RelL R l a) {k : Nat} (h1 : k < l.length) (h2 : k < a.length), l[k].1 = a[k].1 ∧ R l[k].2 a[k].2
  | [], [], _, k, h1, _ => by simp at h1
  | p :: l, q :: a, hr, 0, _, _ => ⟨hr.1, hr.2.1⟩
  | p :: l, q :: a, hr, k + 1, h1, h2 => RelL.at hr.2.2 (by simpa using h1) (by simpa using h2)
  | [], _ :: _, hr, _, _, _ => hr.elim
  | _ :: _, [], hr, _, _, _ => hr.elim
/-- A slice of packets: how it looks, and each of its packets. -/
theorem OutIs.at {w : World} {base : Nat} {v : Value} {out : List (Int × List Int)} (h : OutIs w base v out) :
    ∃ a c, v = .slice a out.length c ∧ ∀ k (hk : k < out.length), ∃ g d, a = some ⟨g, 0, none⟩ ∧ base ≤ g ∧ g < w.heap.size ∧ NoB w g ∧ w.cell? ⟨g, k * 2, none⟩ = some (.int .u32 (out[k].1)) ∧ w.cell? ⟨g, k * 2 + 1, none⟩ = some d ∧ Bytes w d out[k].2 := by
  obtain ⟨o, ⟨hl, ho⟩, hr⟩ := h
  have hlen := hr.len
  rcases ho with ⟨rfl, h0⟩ | ⟨g, cap, cur, rfl, hg, hb, hn, hcap, hsz, htk⟩
  · exact ⟨none, 0, by rw [← hlen, h0], fun k hk => by omega⟩
  · refine ⟨_, _, by rw [hlen], fun k hk => ?_⟩
    have hk' : k < o.length := by omega
    obtain ⟨e1, e2⟩ := cellsOf_at hk'
    obtain ⟨r1, r2⟩ := hr.at hk' hk
    rw [← htk] at e1 e2
    rw [List.getElem?_take_of_lt (by omega)] at e1 e2
    refine ⟨g, o[k].2, rfl, hg, (Array.getElem?_eq_some_iff.1 hb).1, fun cs fz he => ?_, ?_, ?_, r2⟩
    · rw [hb] at he
      simp at he
    · rw [← r1]
      simpa [World.cell?, hb] using e1
    · simpa [World.cell?, hb] using e2
end Go.Proofs.Ytkmjpphmciaklaa
namespace Go.Proofs.Ytkmjpphmciaklaa
open Go.RowKit
set_option linter.unusedVariables false
set_option linter.unusedSimpArgs false
attribute [local go_sem ↓] Go.wp_at_zero Go.wp_at_succ

theorem ex31_1 : (⟨0, [], 0, 0⟩ : Rcv (List Int)).put 0 1 [] = (⟨0, [(1, [])], 0, 0⟩, []) := by rfl
theorem ex31_2 : (⟨0, [(1, [])], 0, 0⟩ : Rcv (List Int)).put 0 0 [] = (⟨2, [], 0, 0⟩, [(0, []), (1, [])]) := by rfl

set_option maxRecDepth 100000 in
set_option maxHeartbeats 2000000 in
theorem alive31_any (w : World) : Calls Try.prog 15 #[] w fun e w' => e = .returned (.bool true) ∧ Chg [] w w' := by
  go_enter Try.func15, Try.ntmps15
  go_wp2_with fail
  refine (recv_new _ _).mono ?_
  rintro e w1 ⟨p, m, rfl, hp, hm, hrc, hch⟩
  have h1 : RcvIs w1 p m ⟨0, [], 0, 0⟩ := ⟨_, hrc, rfl, trivial, rfl, rfl⟩
  have H1 := Lib.hid h1
  have C1 := Lib.hid hch
  clear hrc hch h1
  go_wp2_with fail
  refine (put_is p m ⟨0, [], 0, 0⟩ 0 1 _ [] w1 H1.out ⟨by decide, by decide, by simp⟩ (by simp) (Bytes.nil _) (by simp) (by decide) (by decide) (by decide) (by decide)).mono ?_
  rintro e w2 ⟨o, rfl, ho, hrc, hch⟩
  rw [ex31_1] at ho hrc
  obtain ⟨oa, oc, rfl, -⟩ := ho.at
  have H2 := Lib.hid hrc
  have C2 := Lib.hid (C1.out.trans' hch (by intro x hx; simp at hx; rcases hx with rfl | rfl <;> right <;> assumption))
  clear hrc hch ho
  go_wp2_with fail
  refine (put_is p m ⟨0, [(1, [])], 0, 0⟩ 0 0 _ [] w2 H2.out ⟨by decide, by decide, by intro q hq; simp at hq; subst hq; decide⟩ (by simp) (Bytes.nil _) (by simp) (by decide) (by decide) (by decide) (by decide)).mono ?_
  rintro e w3 ⟨o, rfl, ho, hrc, hch⟩
  rw [ex31_2] at ho hrc
  obtain ⟨pa, pc, rfl, hat⟩ := ho.at
  obtain ⟨g, d0, rfl, hg0, hg1, hnb, e0, e1, hb0⟩ := hat 0 (by simp)
  obtain ⟨g', d1, hgg, hg0', hg1', hnb', e2, e3, hb1⟩ := hat 1 (by simp)
  obtain rfl : g = g' := by simpa using hgg
  have H3 := Lib.hid hrc
  have C3 := Lib.hid (C2.out.trans' hch (by intro x hx; simp at hx; rcases hx with rfl | rfl <;> right <;> assumption))
  obtain ⟨r3, hr3, hrel3⟩ := hrc
  have hx : r3.nx = 2 := hrel3.1
  have e0' : w3.cell? ⟨g, 0, none⟩ = some (.int .u32 0) := e0
  have e2' : w3.cell? ⟨g, 2, none⟩ = some (.int .u32 1) := e2
  have CT := Lib.hid (next_any p m r3 w3 hr3)
  have HX := Lib.hid hx
  clear hch ho hat hgg e0 e1 e2 e3 hr3 hrel3 hx hnb hnb' hb0 hb1
  go_wp2_with fail
  refine CT.out.mono ?_
  rintro e w4 ⟨rfl, rfl⟩
  rw [HX.out]
  go_wp2_with fail
  go_ret
  exact ⟨rfl, C3.out⟩
end Go.Proofs.Ytkmjpphmciaklaa
