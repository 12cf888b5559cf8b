/- Two ends: the plain law: what is handed on was sent, in order, once. -/
import Derived.Test.YtkmjpphmciaklaaJ32
import Derived.Test.YtkmjpphmciaklaaJ33
import Derived.Test.YtkmjpphmciaklaaJ34
namespace Go.Proofs.Ytkmjpphmciaklaa
open Go.RowKit
set_option linter.unusedVariables false
set_option linter.unusedSimpArgs false

/-! ### What an end's call leaves -/
theorem End.paidN_f (E : End) (i : Nat) : (E.paidN i).s = E.s ∧ (E.paidN i).r = E.r ∧ (E.paidN i).since = E.since ∧ (E.paidN i).call = E.call := by
  have h := E.paid_r
  unfold End.paidN
  split
  · exact ⟨rfl, rfl, rfl, rfl⟩
  · exact ⟨h.2.2.1, h.1, h.2.2.2.1, h.2.1⟩
theorem End.pumped_f (E : End) (now : Int) : (E.pumped now).1.s = (E.s.pump now).1 ∧ (E.pumped now).1.r = E.r ∧ (E.pumped now).1.since = E.since ∧ (E.pumped now).1.call = E.call := by
  have h := End.paidN_f { E with s := (E.s.pump now).1 } (E.s.pump now).2.length
  exact h
theorem End.tells_f (E : End) (now : Int) : (E.tells now).1.s = (E.s.pump now).1 ∧ (E.tells now).1.r = E.r ∧ (E.tells now).1.since = E.since ∧ (E.tells now).1.call = E.call := by
  have h := E.pumped_f now
  unfold End.tells
  split
  · have k := (E.pumped now).1.paid_r
    exact ⟨k.2.2.1.trans h.1, k.1.trans h.2.1, k.2.2.2.1.trans h.2.2.1, k.2.1.trans h.2.2.2⟩
  · exact h
theorem End.ack_f {α : Type} (E : End) (t : Tun α) : (E.ack t).hs = t.hs ∧ (E.ack t).seq = t.seq ∧ (E.ack t).d = t.d := by
  unfold End.ack; split <;> exact ⟨rfl, rfl, rfl⟩
/-- What goes out: packets that are sent, or bare acks. -/
def Goes (out : List (Int × List Int)) (t : Tun (List Int)) : Prop := (t.hs = true ∧ ∃ p ∈ out, t.seq = p.1 ∧ t.d = p.2) ∨ (t.hs = false ∧ t.seq = 0 ∧ t.d = [])
theorem End.pumped_goes {E : End} {now : Int} {t : Tun (List Int)} (h : t ∈ (E.pumped now).2) : Goes (E.s.pump now).2 t := by
  obtain ⟨p, hp, rfl⟩ := List.mem_map.1 h
  have k := E.ack_f (⟨E.call, true, p.1, false, 0, p.2⟩ : Tun (List Int))
  exact .inl ⟨k.1, p, hp, k.2.1, k.2.2⟩
theorem End.tells_goes {E : End} {now : Int} {t : Tun (List Int)} (h : t ∈ (E.tells now).2) : Goes (E.s.pump now).2 t := by
  unfold End.tells at h
  split at h
  · rcases List.mem_append.1 h with h | h
    · exact End.pumped_goes h
    · simp at h
      subst h
      have k := (E.pumped now).1.ack_f (⟨E.call, false, 0, false, 0, []⟩ : Tun (List Int))
      exact .inr ⟨k.1, k.2.1, k.2.2⟩
  · exact End.pumped_goes h

/-- Behind k calls, at the tick now. -/
structure EInv (k : Nat) (now : Int) (E : End) : Prop where
  s : E.s.Ok
  r : E.r.Ok
  rl : E.r.l.length ≤ 8
  rs0 : 0 ≤ E.r.since
  rs1 : E.r.since ≤ now
  rt0 : 0 ≤ E.r.twice
  rt1 : E.r.twice ≤ k
  si0 : 0 ≤ E.since
  si1 : E.since ≤ now
  lost : E.s.lost ≤ 16 * k
  airs : (E.s.air.length : Int) ≤ E.s.s
theorem EInv.ok {k : Nat} {now : Int} {E : End} (h : EInv k now E) (hk : k ≤ 10000) (hn : now ≤ 1000000) : E.Ok ∧ E.s.lost ≤ 900000000 := by
  have h1 := h.rs1
  have h2 := h.rt1
  have h3 := h.si1
  have h4 := h.lost
  exact ⟨⟨h.s, h.r, h.rl, h.rs0, by omega, h.rt0, by omega, h.si0, by omega⟩, by omega⟩
theorem EInv.mono {k k' : Nat} {now now' : Int} {E : End} (h : EInv k now E) (hk : k ≤ k') (hn : now ≤ now') : EInv k' now' E := by
  have h1 := h.rs1
  have h2 := h.rt1
  have h3 := h.si1
  have h4 := h.lost
  exact ⟨h.s, h.r, h.rl, h.rs0, by omega, h.rt0, by omega, h.si0, by omega, by omega, h.airs⟩
theorem pump_airs {x : Snd (List Int)} (ok : x.Ok) (h : (x.air.length : Int) ≤ x.s) (now : Int) : ((x.pump now).1.air.length : Int) ≤ (x.pump now).1.s := by
  obtain ⟨m, _, _, _, _, _, h6⟩ := pumpF_spec x.s now x.wait x.nx x.air ok.nx0 ok.nx1 h (by have := ok.wait; omega)
  exact h6
theorem EInv.fields {k : Nat} {now : Int} {E E' : End} {s : Snd (List Int)} {r : Rcv (List Int)} (hs : s.Ok) (hr : r.Ok) (hrl : r.l.length ≤ 8) (h0 : 0 ≤ r.since) (h1 : r.since ≤ now) (h2 : 0 ≤ r.twice) (h3 : r.twice ≤ k) (h4 : 0 ≤ E'.since) (h5 : E'.since ≤ now) (h6 : s.lost ≤ 16 * k) (h7 : (s.air.length : Int) ≤ s.s)
    (hn0 : 0 ≤ now) (hn1 : now ≤ 1000000) (e1 : E'.s = (s.pump now).1) (e2 : E'.r = r) : EInv k now E' := by
  refine ⟨by rw [e1]; exact Snd.pump_ok hs (by omega) (by omega), by rw [e2]; exact hr, by rw [e2]; exact hrl, by rw [e2]; exact h0, by rw [e2]; exact h1, by rw [e2]; exact h2, by rw [e2]; exact h3, h4, h5, by rw [e1]; exact h6, by rw [e1]; exact pump_airs hs h7 now⟩
theorem EInv.take {k : Nat} {now : Int} {E : End} (h : EInv k now E) (hs : Bool) {seq : Int} (ha : Bool) (ak : Int) (d : List Int) (h0 : 0 ≤ seq) (h1 : seq < 4294967296) (hn0 : 0 ≤ now) (hn1 : now ≤ 1000000) : EInv (k + 1) now ((E.took now hs seq ha ak d).1.pumped now).1 := by
  obtain ⟨f1, f2, f3, f4⟩ := (E.took now hs seq ha ak d).1.pumped_f now
  have hsk : (if ha then (E.s.ack now ak).1 else E.s).Ok ∧ (if ha then (E.s.ack now ak).1 else E.s).lost ≤ 16 * k ∧ ((if ha then (E.s.ack now ak).1 else E.s).air.length : Int) ≤ (if ha then (E.s.ack now ak).1 else E.s).s := by
    split
    · exact ⟨Snd.ack_ok h.s _ _, by rw [(ack_same E.s now ak).2.2]; exact h.lost, ack_airs h.s h.airs _ _⟩
    · exact ⟨h.s, h.lost, h.airs⟩
  have hl := h.rt1
  have hp := Rcv.put_twice (r := E.r) (now := now) (seq := seq) (d := d)
  have hrt := h.rt0
  have hps := put_since (r := E.r) (now := now) (seq := seq) (d := d) h.rs0 h.rs1
  have e1 : (E.took now hs seq ha ak d).1.s = (if ha then (E.s.ack now ak).1 else E.s) := by unfold End.took; split <;> rfl
  rw [e1] at f1
  cases hs with
  | false =>
    exact EInv.fields (E := E) hsk.1 h.r h.rl h.rs0 h.rs1 h.rt0 (by omega) (by rw [f3]; exact h.si0) (by rw [f3]; exact h.si1) (by omega) hsk.2.2 hn0 hn1 f1 f2
  | true =>
    refine EInv.fields (E := E) hsk.1 (Rcv.put_ok h.r h0 h1) (Rcv.put_len h.rl) hps.1 hps.2 (by omega) (by omega) ?_ ?_ (by omega) hsk.2.2 hn0 hn1 f1 f2
    · rw [f3]
      show 0 ≤ (if E.owes then E.since else now)
      have := h.si0
      split <;> omega
    · rw [f3]
      show (if E.owes then E.since else now) ≤ now
      have := h.si1
      split <;> omega
theorem EInv.tick {k : Nat} {now : Int} {E : End} (h : EInv k now E) (hk : k ≤ 10000) (hn0 : 0 ≤ now) (hn1 : now + 1 ≤ 1000000) : EInv (k + 1) (now + 1) ((E.ticked (now + 1)).1.tells (now + 1)).1 := by
  obtain ⟨f1, f2, f3, f4⟩ := (E.ticked (now + 1)).1.tells_f (now + 1)
  have h4 := h.lost
  have hl := Snd.late_ok h.s (now + 1) (by omega)
  have h1 := h.rs1
  have h2 := h.rt1
  have h3 := h.si1
  have h5 := h.si0
  have hps := tick_since (r := E.r) (now := now + 1) h.rs0 (by omega)
  have htw := Rcv.tick_twice (r := E.r) (now := now + 1)
  refine EInv.fields (E := E) hl.1 (Rcv.tick_ok (now := now + 1) h.r) (Rcv.tick_len (now := now + 1) h.rl) hps.1 hps.2 (by rw [htw]; exact h.rt0) (by rw [htw]; push_cast; omega) ?_ ?_ (by push_cast; have := hl.2; omega) (late_airs h.s h.airs (now + 1)) (by omega) hn1 f1 f2
  · rw [f3]
    show 0 ≤ (if decide (0 < (E.r.tick (now + 1)).2.length) && !E.owes then now + 1 else E.since)
    split <;> omega
  · rw [f3]
    show (if decide (0 < (E.r.tick (now + 1)).2.length) && !E.owes then now + 1 else E.since) ≤ now + 1
    split <;> omega
theorem EInv.send {k : Nat} {now : Int} {E : End} (h : EInv k now E) (d : List Int) (hn0 : 0 ≤ now) (hn1 : now ≤ 1000000) : EInv (k + 1) now (E.send now d).1 := by
  unfold End.send
  split
  · exact h.mono (by omega) (Int.le_refl _)
  · obtain ⟨f1, f2, f3, f4⟩ := End.paidN_f { E with s := ((E.s.push d).pump now).1 } ((E.s.push d).pump now).2.length
    have h2 := h.rt1
    have h4 := h.lost
    have hpx : (E.s.push d).air = E.s.air ∧ (E.s.push d).s = E.s.s ∧ (E.s.push d).lost = E.s.lost := by unfold Snd.push; split <;> exact ⟨rfl, rfl, rfl⟩
    refine EInv.fields (E := E) (Snd.push_ok h.s d) h.r h.rl h.rs0 h.rs1 h.rt0 (by push_cast; omega) ?_ ?_ (by rw [hpx.2.2]; push_cast; omega) (by rw [hpx.1, hpx.2.1]; exact h.airs) hn0 hn1 f1 f2
    · show 0 ≤ (End.paidN _ _).since
      rw [f3]; exact h.si0
    · show (End.paidN _ _).since ≤ now
      rw [f3]; exact h.si1

/-! ### One way -/
def sayK (f : Nat) : Nat → List Int := fun j => say f (j + 1)
/-- From f to the other end: n packets are sent, the receiver waits for the nb-th. -/
structure Dir (f : Nat) (S : Snd (List Int)) (R : Rcv (List Int)) (way : List (Tun (List Int))) (sent got : Nat) : Prop where
  ex : ∃ n nb, n ≤ sent ∧ S.nx = n ∧ S.wait = says f n (sent - n) ∧ (∀ t ∈ way, t.hs = true → ∃ j : Nat, j < n ∧ t.seq = j ∧ t.d = say f (j + 1)) ∧ RisesInv 0 (sayK f) (fun _ => True) sent nb R ∧ got ≤ nb
  bd : ∀ t ∈ way, 0 ≤ t.seq ∧ t.seq < 4294967296 ∧ t.d.length ≤ 100
theorem numK0 {j : Nat} (h : j ≤ 1000000) : numK 0 j = j := by unfold numK; omega
theorem say_len (f n : Nat) : (say f n).length = 3 := rfl
section
variable {f : Nat} {S : Snd (List Int)} {R : Rcv (List Int)} {way : List (Tun (List Int))} {sent got : Nat}
theorem Dir.same (h : Dir f S R way sent got) {S' : Snd (List Int)} (h1 : S'.nx = S.nx) (h2 : S'.wait = S.wait) : Dir f S' R way sent got := by
  obtain ⟨⟨n, nb, a1, a2, a3, a4, a5, a6⟩, hb⟩ := h
  exact ⟨⟨n, nb, a1, h1.trans a2, h2.trans a3, a4, a5, a6⟩, hb⟩
theorem Dir.sub (h : Dir f S R way sent got) {way' : List (Tun (List Int))} (hs : ∀ t ∈ way', t ∈ way) : Dir f S R way' sent got := by
  obtain ⟨⟨n, nb, a1, a2, a3, a4, a5, a6⟩, hb⟩ := h
  exact ⟨⟨n, nb, a1, a2, a3, fun t ht => a4 t (hs t ht), a5, a6⟩, fun t ht => hb t (hs t ht)⟩
theorem Dir.pump (h : Dir f S R way sent got) (ok : S.Ok) (ha : (S.air.length : Int) ≤ S.s) (hs : sent ≤ 10000) (now : Int) {ts : List (Tun (List Int))} (hts : ∀ t ∈ ts, Goes (S.pump now).2 t) : Dir f (S.pump now).1 R (way ++ ts) sent got := by
  obtain ⟨⟨n, nb, a1, a2, a3, a4, a5, a6⟩, hb⟩ := h
  obtain ⟨m, p1, p2, p3, p4, p5, p6⟩ := pumpF_spec S.s now S.wait S.nx S.air ok.nx0 ok.nx1 ha (by have := ok.wait; omega)
  have hwl : S.wait.length = sent - n := by rw [a3, says_len]
  have hgo : ∀ t ∈ ts, (t.hs = true → ∃ j : Nat, j < n + m ∧ t.seq = j ∧ t.d = say f (j + 1)) ∧ 0 ≤ t.seq ∧ t.seq < 4294967296 ∧ t.d.length ≤ 100 := fun t ht => by
    rcases hts t ht with ⟨g1, p, hp, g2, g3⟩ | ⟨g1, g2, g3⟩
    · obtain ⟨i, hi, e⟩ := List.mem_iff_getElem.1 hp
      have hi' : i < (pumpF S.s now S.nx S.air S.wait).1.length := hi
      rw [p2] at hi'
      have hiw : i < S.wait.length := by omega
      have hw : S.wait[i]? = some (say f (n + i + 1)) := by rw [a3]; exact says_at (by omega)
      have h7 := p3 i _ hi' hw
      have h8 : (S.pump now).2[i]? = some (numK S.nx i, say f (n + i + 1)) := h7
      have h9 := (List.getElem?_eq_some_iff.1 h8).2
      rw [← e, h9] at g2 g3
      have e2 : numK S.nx i = ((n + i : Nat) : Int) := by rw [a2]; unfold numK; omega
      rw [e2] at g2
      refine ⟨fun _ => ⟨n + i, by omega, g2, g3⟩, by omega, by omega, ?_⟩
      rw [g3, say_len]; decide
    · exact ⟨fun hh => (by rw [g1] at hh; cases hh), by omega, by omega, by rw [g3]; simp⟩
  refine ⟨⟨n + m, nb, by omega, ?_, ?_, fun t ht hh => ?_, a5, a6⟩, fun t ht => ?_⟩
  · show (pumpF S.s now S.nx S.air S.wait).2.1 = _
    rw [p4, a2]; unfold numK; omega
  · show (pumpF S.s now S.nx S.air S.wait).2.2.2 = _
    rw [p5, a3]
    unfold says
    rw [← List.map_drop, List.drop_range']
    congr 2
    · omega
    · omega
  · rcases List.mem_append.1 ht with ht | ht
    · obtain ⟨j, b1, b2⟩ := a4 t ht hh
      exact ⟨j, by omega, b2⟩
    · exact (hgo t ht).1 hh
  · rcases List.mem_append.1 ht with ht | ht
    · exact hb t ht
    · exact (hgo t ht).2
theorem Dir.push (h : Dir f S R way sent got) (hlt : S.wait.length < 16) : Dir f (S.push (say f (sent + 1))) R way (sent + 1) got := by
  obtain ⟨⟨n, nb, a1, a2, a3, a4, a5, a6⟩, hb⟩ := h
  have e : S.push (say f (sent + 1)) = { S with wait := S.wait ++ [say f (sent + 1)] } := by unfold Snd.push; rw [if_pos hlt]
  rw [e]
  refine ⟨⟨n, nb, by omega, a2, ?_, a4, ⟨Nat.le_succ_of_le a5.le, a5.nx, fun p hp => ?_, a5.knd⟩, a6⟩, hb⟩
  · show S.wait ++ _ = _
    rw [a3]
    unfold says
    rw [show sent + 1 - n = (sent - n) + 1 from by omega, List.range'_concat, List.map_append]
    have e2 : n + 1 * (sent - n) = sent := by omega
    simp only [List.map_cons, List.map_nil, e2]
  · obtain ⟨j, b1, b2, b3, b4⟩ := a5.ky p hp
    exact ⟨j, b1, by omega, b3, b4⟩
theorem range_says {lo m : Nat} {l : List (Int × List Int)} (h : l = (List.range' lo m).map (fun j => (numK 0 j, sayK f j))) : l.map (·.2) = says f lo m := by
  rw [h, List.map_map]; rfl
theorem Dir.gets (h : Dir f S R way sent got) {lo m : Nat} {R' : Rcv (List Int)} (h1 : RisesInv 0 (sayK f) (fun _ => True) sent (lo + m) R') (h2 : got ≤ lo) : Dir f S R' way sent (gotTo got lo m) := by
  obtain ⟨⟨n, nb', a1, a2, a3, a4, a5, a6⟩, hb⟩ := h
  refine ⟨⟨n, lo + m, a1, a2, a3, a4, h1, ?_⟩, hb⟩
  unfold gotTo
  split <;> omega
theorem Dir.put (h : Dir f S R way sent got) (hs : sent ≤ 10000) {t : Tun (List Int)} (ht : t ∈ way) (hh : t.hs = true) (now : Int) :
    ∃ lo m, (R.put now t.seq t.d).2.map (·.2) = says f lo m ∧ got ≤ lo ∧ lo + m ≤ sent ∧ Dir f S (R.put now t.seq t.d).1 way sent (gotTo got lo m) := by
  have h0 := h
  obtain ⟨⟨n, nb, a1, a2, a3, a4, a5, a6⟩, hb⟩ := h
  obtain ⟨j, b1, b2, b3⟩ := a4 t ht hh
  have e : t.seq = numK 0 j := by rw [numK0 (by omega)]; exact b2
  rw [e, b3]
  obtain ⟨lo, m, c1, c2, c3, _, c5⟩ := a5.put (by omega) now (n := j) (by omega) trivial
  exact ⟨lo, m, range_says c3, by omega, c2, h0.gets c5 (by omega)⟩
theorem Dir.tick (h : Dir f S R way sent got) (hs : sent ≤ 10000) (now : Int) :
    ∃ lo m, (R.tick now).2.map (·.2) = says f lo m ∧ got ≤ lo ∧ lo + m ≤ sent ∧ Dir f S (R.tick now).1 way sent (gotTo got lo m) := by
  have h0 := h
  obtain ⟨⟨n, nb, a1, a2, a3, a4, a5, a6⟩, hb⟩ := h
  obtain ⟨lo, m, c1, c2, c3, _, c5⟩ := a5.tick (by omega) now
  exact ⟨lo, m, range_says c3, by omega, c2, h0.gets c5 (by omega)⟩
end

/-! ### Both -/
structure PInv (k : Nat) (P : Pair) : Prop where
  now : P.now ≤ k
  e : ∀ i, i < 2 → EInv k P.now (P.e i)
  way : ∀ i, i < 2 → (P.way i).length ≤ 40 * k
  sent : ∀ i, i < 2 → P.sent i ≤ k
  dir : ∀ f t, f < 2 → t < 2 → f ≠ t → Dir f (P.e f).s (P.e t).r (P.way f) (P.sent f) (P.got t)
theorem PInv.ok {k : Nat} {P : Pair} (h : PInv k P) (hk : k ≤ 1000) : P.Ok := by
  have hn := h.now
  refine ⟨fun i hi => (h.e i hi).ok (by omega) (by omega), fun i hi => ⟨by have := h.way i hi; omega, fun x hx => ?_⟩, by omega, fun i hi => by have := h.sent i hi; omega⟩
  rcases two_cases hi with rfl | rfl
  · exact (h.dir 0 1 (by decide) (by decide) (by decide)).bd x hx
  · exact (h.dir 1 0 (by decide) (by decide) (by decide)).bd x hx
theorem Dir.some_got {f : Nat} {S : Snd (List Int)} {R : Rcv (List Int)} {way : List (Tun (List Int))} {sent got : Nat} (h : Dir f S R way sent got) : got ≤ sent := by
  obtain ⟨⟨n, nb, a1, a2, a3, a4, a5, a6⟩, hb⟩ := h
  have := a5.le
  omega
theorem left_way {P : Pair} {f k : Nat} {stays : Bool} : (∀ x ∈ (P.left f k stays).way f, x ∈ P.way f) ∧ ((P.left f k stays).way f).length ≤ (P.way f).length ∧ ∀ t, t ≠ f → (P.left f k stays).way t = P.way t := by
  unfold Pair.left
  split
  · exact ⟨fun x hx => hx, Nat.le_refl _, fun t _ => rfl⟩
  · refine ⟨fun x hx => ?_, ?_, fun t ht => ?_⟩
    · have h : x ∈ upd P.way f ((P.way f).eraseIdx k) f := hx
      rw [upd_at] at h
      exact List.mem_of_mem_eraseIdx h
    · show (upd P.way f ((P.way f).eraseIdx k) f).length ≤ _
      rw [upd_at]
      exact (List.eraseIdx_sublist (P.way f) k).length_le
    · show upd P.way f ((P.way f).eraseIdx k) t = P.way t
      exact upd_ne _ ht _
theorem PInv.mono {k : Nat} {P : Pair} (h : PInv k P) : PInv (k + 1) P :=
  ⟨by have := h.now; omega, fun i hi => (h.e i hi).mono (by omega) (Int.le_refl _), fun i hi => by have := h.way i hi; omega, fun i hi => by have := h.sent i hi; omega, h.dir⟩
theorem PInv.arrive {k : Nat} {P : Pair} (h : PInv k P) (hk : k ≤ 1000) {f t : Nat} (hf : f < 2) (ht : t < 2) (hne : f ≠ t) {ix : Nat} (hix : ix < (P.way f).length) (stays : Bool) :
    ∃ lo m, (P.taken f t ix).2.map (·.2) = says f lo m ∧ P.got t ≤ lo ∧ lo + m ≤ P.sent f ∧ PInv (k + 1) { P.arrived f t ix stays with got := upd P.got t (gotTo (P.got t) lo m) } := by
  have hnow := h.now
  have hsf := h.sent f hf
  have hst := h.sent t ht
  have d1 := h.dir f t hf ht hne
  have d2 := h.dir t f ht hf (Ne.symm hne)
  obtain ⟨x, hx⟩ : ∃ x, x = (P.way f).getD ix noTun := ⟨_, rfl⟩
  have hxm : x ∈ P.way f := by
    rw [hx, List.getD_eq_getElem?_getD, List.getElem?_eq_getElem hix]
    exact List.getElem_mem hix
  obtain ⟨x0, x1, x2⟩ := d1.bd x hxm
  have htk : P.taken f t ix = (P.e t).took P.now x.hs x.seq x.ha x.ack x.d := by unfold Pair.taken; rw [← hx]
  have hE := (h.e t ht).take (now := P.now) x.hs x.ha x.ack x.d x0 x1 (by omega) (by omega)
  obtain ⟨p1, p2, p3, p4⟩ := ((P.e t).took P.now x.hs x.seq x.ha x.ack x.d).1.pumped_f P.now
  have es : ((P.e t).took P.now x.hs x.seq x.ha x.ack x.d).1.s = (if x.ha then ((P.e t).s.ack P.now x.ack).1 else (P.e t).s) := by unfold End.took; split <;> rfl
  have hsk : (if x.ha then ((P.e t).s.ack P.now x.ack).1 else (P.e t).s).Ok ∧ ((if x.ha then ((P.e t).s.ack P.now x.ack).1 else (P.e t).s).air.length : Int) ≤ (if x.ha then ((P.e t).s.ack P.now x.ack).1 else (P.e t).s).s ∧ (if x.ha then ((P.e t).s.ack P.now x.ack).1 else (P.e t).s).nx = (P.e t).s.nx ∧ (if x.ha then ((P.e t).s.ack P.now x.ack).1 else (P.e t).s).wait = (P.e t).s.wait := by
    have hs := ack_same (P.e t).s P.now x.ack
    split
    · exact ⟨Snd.ack_ok (h.e t ht).s _ _, ack_airs (h.e t ht).s (h.e t ht).airs _ _, hs.2.1, hs.1⟩
    · exact ⟨(h.e t ht).s, (h.e t ht).airs, rfl, rfl⟩
  obtain ⟨hl1, hl2, hl3⟩ := left_way (P := P) (f := f) (k := ix) (stays := stays)
  have hgo : ∀ y ∈ ((P.taken f t ix).1.pumped P.now).2, Goes (((if x.ha then ((P.e t).s.ack P.now x.ack).1 else (P.e t).s)).pump P.now).2 y := fun y hy => by
    have h := End.pumped_goes hy
    rw [htk, es] at h; exact h
  have hpl : ((P.taken f t ix).1.pumped P.now).2.length ≤ 16 := by
    have h2 := Snd.pump_len hsk.1 P.now
    rw [← es, ← htk] at h2
    unfold End.pumped
    simpa using h2
  have key : ∀ lo m, (P.taken f t ix).2.map (·.2) = says f lo m → P.got t ≤ lo → lo + m ≤ P.sent f → Dir f (P.e f).s (P.taken f t ix).1.r (P.way f) (P.sent f) (gotTo (P.got t) lo m) → PInv (k + 1) { P.arrived f t ix stays with got := upd P.got t (gotTo (P.got t) lo m) } := fun lo m _ _ _ hd => by
    refine ⟨by show P.now ≤ k + 1; omega, fun i hi => ?_, fun i hi => ?_, fun i hi => by show P.sent i ≤ k + 1; have := h.sent i hi; omega, fun f' t' hf' ht' hne' => ?_⟩
    · show EInv (k + 1) P.now (upd P.e t ((P.taken f t ix).1.pumped P.now).1 i)
      by_cases hit : i = t
      · subst hit; rw [upd_at, htk]; exact hE
      · rw [upd_ne _ hit]; exact (h.e i hi).mono (by omega) (Int.le_refl _)
    · show (upd (P.left f ix stays).way t ((P.left f ix stays).way t ++ ((P.taken f t ix).1.pumped P.now).2) i).length ≤ _
      by_cases hit : i = t
      · subst hit; rw [upd_at, hl3 i (Ne.symm hne), List.length_append]; have := h.way i hi; omega
      · rw [upd_ne _ hit]
        have hif : i = f := by omega
        subst hif
        have := h.way i hi
        omega
    · have hcase : (f' = f ∧ t' = t) ∨ (f' = t ∧ t' = f) := by omega
      show Dir f' (upd P.e t _ f').s (upd P.e t _ t').r (upd (P.left f ix stays).way t _ f') (P.sent f') (upd P.got t _ t')
      rcases hcase with ⟨rfl, rfl⟩ | ⟨rfl, rfl⟩
      · rw [upd_ne _ hne, upd_at, upd_ne _ hne, upd_at, show ((P.taken f' t' ix).1.pumped P.now).1.r = (P.taken f' t' ix).1.r from by rw [htk]; exact p2]
        exact hd.sub hl1
      · rw [upd_at, upd_ne _ (Ne.symm hne'), upd_at, upd_ne _ (Ne.symm hne'), hl3 f' hne', show ((P.taken t' f' ix).1.pumped P.now).1.s = ((if x.ha then ((P.e f').s.ack P.now x.ack).1 else (P.e f').s).pump P.now).1 from by rw [htk, p1, es]]
        exact (d2.same hsk.2.2.1 hsk.2.2.2).pump hsk.1 hsk.2.1 (by omega) P.now hgo
  cases hh : x.hs with
  | false =>
    have e0 : (P.taken f t ix).2 = [] ∧ (P.taken f t ix).1.r = (P.e t).r := by rw [htk, hh]; exact ⟨rfl, rfl⟩
    refine ⟨P.got t, 0, by rw [e0.1]; rfl, Nat.le_refl _, d1.some_got, key _ _ (by rw [e0.1]; rfl) (Nat.le_refl _) d1.some_got ?_⟩
    rw [e0.2]
    show Dir f _ _ _ _ (gotTo (P.got t) (P.got t) 0)
    exact d1
  | true =>
    obtain ⟨lo, m, c1, c2, c3, c4⟩ := d1.put (by omega) hxm hh P.now
    have e0 : (P.taken f t ix).2 = ((P.e t).r.put P.now x.seq x.d).2 ∧ (P.taken f t ix).1.r = ((P.e t).r.put P.now x.seq x.d).1 := by rw [htk, hh]; exact ⟨rfl, rfl⟩
    exact ⟨lo, m, by rw [e0.1]; exact c1, c2, c3, key lo m (by rw [e0.1]; exact c1) c2 c3 (by rw [e0.2]; exact c4)⟩
theorem PInv.drop {k : Nat} {P : Pair} (h : PInv k P) {f : Nat} (hf : f < 2) (ix : Nat) : PInv (k + 1) (P.left f ix false) := by
  obtain ⟨hl1, hl2, hl3⟩ := left_way (P := P) (f := f) (k := ix) (stays := false)
  refine ⟨by show P.now ≤ k + 1; have := h.now; omega, fun i hi => (h.e i hi).mono (by omega) (Int.le_refl _), fun i hi => ?_, fun i hi => by show P.sent i ≤ k + 1; have := h.sent i hi; omega, fun f' t' hf' ht' hne' => ?_⟩
  · have := h.way i hi
    by_cases hif : i = f
    · subst hif; omega
    · rw [hl3 i hif]; omega
  · have hd := h.dir f' t' hf' ht' hne'
    by_cases hif : f' = f
    · subst hif; exact hd.sub hl1
    · show Dir f' (P.e f').s (P.e t').r ((P.left f ix false).way f') (P.sent f') (P.got t')
      rw [hl3 f' hif]; exact hd
theorem PInv.send {k : Nat} {P : Pair} (h : PInv k P) (hk : k ≤ 1000) {f : Nat} (hf : f < 2) : PInv (k + 1) (P.sends f) := by
  have hnow := h.now
  have hE := (h.e f hf).send (say f (P.sent f + 1)) (now := P.now) (by omega) (by omega)
  have hr : ∀ i, (upd P.e f ((P.e f).send P.now (say f (P.sent f + 1))).1 i).r = (P.e i).r := fun i => by
    by_cases hif : i = f
    · subst hif
      rw [upd_at]
      unfold End.send
      split
      · rfl
      · exact (End.paidN_f _ _).2.1
    · rw [upd_ne _ hif]
  by_cases hlt : (P.e f).s.wait.length < 16
  · have e : (P.e f).send P.now (say f (P.sent f + 1)) = ({ P.e f with s := (((P.e f).s.push (say f (P.sent f + 1))).pump P.now).1 }.paidN (((P.e f).s.push (say f (P.sent f + 1))).pump P.now).2.length, (((P.e f).s.push (say f (P.sent f + 1))).pump P.now).2.map (P.e f).tun, true) := by
      unfold End.send
      rw [if_neg (by rw [say_len]; omega)]
    have hok := Snd.push_ok (h.e f hf).s (say f (P.sent f + 1))
    have hpx : ((P.e f).s.push (say f (P.sent f + 1))).air = (P.e f).s.air ∧ ((P.e f).s.push (say f (P.sent f + 1))).s = (P.e f).s.s := by unfold Snd.push; split <;> exact ⟨rfl, rfl⟩
    have hgo : ∀ y ∈ ((P.e f).send P.now (say f (P.sent f + 1))).2.1, Goes (((P.e f).s.push (say f (P.sent f + 1))).pump P.now).2 y := fun y hy => by
      rw [e] at hy
      obtain ⟨p, hp, rfl⟩ := List.mem_map.1 hy
      have k := (P.e f).ack_f (⟨(P.e f).call, true, p.1, false, 0, p.2⟩ : Tun (List Int))
      exact .inl ⟨k.1, p, hp, k.2.1, k.2.2⟩
    have hlen : ((P.e f).send P.now (say f (P.sent f + 1))).2.1.length ≤ 16 := by
      rw [e]
      have := Snd.pump_len hok P.now
      simpa using this
    have hs : ((P.e f).send P.now (say f (P.sent f + 1))).1.s = (((P.e f).s.push (say f (P.sent f + 1))).pump P.now).1 := by
      rw [e]; exact (End.paidN_f _ _).1
    have hb : ((P.e f).send P.now (say f (P.sent f + 1))).2.2 = true := by rw [e]
    refine ⟨by show P.now ≤ k + 1; omega, fun i hi => ?_, fun i hi => ?_, fun i hi => ?_, fun f' t' hf' ht' hne' => ?_⟩
    · show EInv (k + 1) P.now (upd P.e f _ i)
      by_cases hif : i = f
      · subst hif; rw [upd_at]; exact hE
      · rw [upd_ne _ hif]; exact (h.e i hi).mono (by omega) (Int.le_refl _)
    · show (upd P.way f _ i).length ≤ _
      have := h.way i hi
      by_cases hif : i = f
      · subst hif; rw [upd_at, List.length_append]; omega
      · rw [upd_ne _ hif]; omega
    · show (if _ then upd P.sent f (P.sent f + 1) else P.sent) i ≤ _
      rw [hb, if_pos rfl]
      have := h.sent i hi
      by_cases hif : i = f
      · subst hif; rw [upd_at]; omega
      · rw [upd_ne _ hif]; omega
    · have hd := h.dir f' t' hf' ht' hne'
      show Dir f' (upd P.e f _ f').s (upd P.e f _ t').r (upd P.way f _ f') ((if _ then upd P.sent f (P.sent f + 1) else P.sent) f') (P.got t')
      rw [hr t', hb, if_pos rfl]
      by_cases hif : f' = f
      · subst hif
        rw [upd_at, upd_at, upd_at, hs]
        exact (hd.push hlt).pump hok (by rw [hpx.1, hpx.2]; exact (h.e f' hf').airs) (by have := h.sent f' hf'; omega) P.now hgo
      · rw [upd_ne _ hif, upd_ne _ hif, upd_ne _ hif]; exact hd
  · have e : (P.e f).send P.now (say f (P.sent f + 1)) = (P.e f, [], false) := by
      unfold End.send
      rw [if_pos (by omega)]
    have e2 : P.sends f = P := by
      unfold Pair.sends
      rw [e]
      have u1 : upd P.e f (P.e f) = P.e := by funext j; unfold upd; split <;> simp_all
      have u2 : upd P.way f (P.way f ++ []) = P.way := by funext j; unfold upd; split <;> simp_all
      simp only [u1, u2]
      rfl
    rw [e2]; exact h.mono
theorem PInv.tick {k : Nat} {P : Pair} (h : PInv k P) (hk : k ≤ 1000) :
    ∃ lo0 m0 lo1 m1, (((P.e 0).ticked (P.now + 1 : Nat)).2.map (·.2) = says 1 lo0 m0 ∧ P.got 0 ≤ lo0 ∧ lo0 + m0 ≤ P.sent 1) ∧ (((P.e 1).ticked (P.now + 1 : Nat)).2.map (·.2) = says 0 lo1 m1 ∧ P.got 1 ≤ lo1 ∧ lo1 + m1 ≤ P.sent 0) ∧
      PInv (k + 1) ((P.later.tickG 0 lo0 m0).tickG 1 lo1 m1) := by
  have hnow := h.now
  have hs0 := h.sent 0 (by decide)
  have hs1 := h.sent 1 (by decide)
  have d01 := h.dir 0 1 (by decide) (by decide) (by decide)
  have d10 := h.dir 1 0 (by decide) (by decide) (by decide)
  obtain ⟨lo0, m0, a1, a2, a3, a4⟩ := d10.tick (by omega) ((P.now + 1 : Nat) : Int)
  obtain ⟨lo1, m1, b1, b2, b3, b4⟩ := d01.tick (by omega) ((P.now + 1 : Nat) : Int)
  refine ⟨lo0, m0, lo1, m1, ⟨a1, a2, a3⟩, ⟨b1, b2, b3⟩, ?_⟩
  have hE : ∀ i, i < 2 → EInv (k + 1) ((P.now + 1 : Nat) : Int) ((((P.e i).ticked ((P.now + 1 : Nat) : Int)).1.tells ((P.now + 1 : Nat) : Int)).1) := fun i hi => by
    have := (h.e i hi).tick (by omega) (by omega) (by omega)
    have e : ((P.now : Nat) : Int) + 1 = ((P.now + 1 : Nat) : Int) := by push_cast; rfl
    rw [e] at this
    exact this
  have hlk : ∀ i, i < 2 → ((P.e i).s.late ((P.now + 1 : Nat) : Int)).1.Ok := fun i hi => (Snd.late_ok (h.e i hi).s _ (by have := (h.e i hi).lost; omega)).1
  have hlen : ∀ i, i < 2 → ((((P.e i).ticked ((P.now + 1 : Nat) : Int)).1.tells ((P.now + 1 : Nat) : Int)).2).length ≤ 17 := fun i hi => tells_len ((h.e i hi).ok (by omega) (by omega)).1 ((h.e i hi).ok (by omega) (by omega)).2 _
  have hp : ∀ i f' R way sent got, i < 2 → sent ≤ 10000 → Dir f' (P.e i).s R way sent got → Dir f' (((P.e i).ticked ((P.now + 1 : Nat) : Int)).1.tells ((P.now + 1 : Nat) : Int)).1.s R (way ++ (((P.e i).ticked ((P.now + 1 : Nat) : Int)).1.tells ((P.now + 1 : Nat) : Int)).2) sent got := fun i f' R way sent got hi hs hd => by
    have hsm := late_same (P.e i).s ((P.now + 1 : Nat) : Int)
    have hd1 := hd.same (S' := ((P.e i).s.late ((P.now + 1 : Nat) : Int)).1) hsm.2 hsm.1
    have hf := (End.tells_f ((P.e i).ticked ((P.now + 1 : Nat) : Int)).1 ((P.now + 1 : Nat) : Int)).1
    rw [hf]
    exact hd1.pump (hlk i hi) (late_airs (h.e i hi).s (h.e i hi).airs _) hs _ (fun t ht => End.tells_goes ht)
  have hr : ∀ i, (((P.e i).ticked ((P.now + 1 : Nat) : Int)).1.tells ((P.now + 1 : Nat) : Int)).1.r = ((P.e i).r.tick ((P.now + 1 : Nat) : Int)).1 := fun i => (End.tells_f _ _).2.1
  refine ⟨by show P.now + 1 ≤ k + 1; omega, fun i hi => ?_, fun i hi => ?_, fun i hi => by show P.sent i ≤ k + 1; have := h.sent i hi; omega, fun f' t' hf' ht' hne' => ?_⟩
  · rcases two_cases hi with rfl | rfl
    · exact hE 0 (by decide)
    · exact hE 1 (by decide)
  · rcases two_cases hi with rfl | rfl
    · show (P.way 0 ++ (((P.e 0).ticked ((P.now + 1 : Nat) : Int)).1.tells ((P.now + 1 : Nat) : Int)).2).length ≤ _
      rw [List.length_append]
      have := h.way 0 (by decide)
      have := hlen 0 (by decide)
      omega
    · show (P.way 1 ++ (((P.e 1).ticked ((P.now + 1 : Nat) : Int)).1.tells ((P.now + 1 : Nat) : Int)).2).length ≤ _
      rw [List.length_append]
      have := h.way 1 (by decide)
      have := hlen 1 (by decide)
      omega
  · have hcase : (f' = 0 ∧ t' = 1) ∨ (f' = 1 ∧ t' = 0) := by omega
    rcases hcase with ⟨rfl, rfl⟩ | ⟨rfl, rfl⟩
    · show Dir 0 (((P.e 0).ticked ((P.now + 1 : Nat) : Int)).1.tells ((P.now + 1 : Nat) : Int)).1.s (((P.e 1).ticked ((P.now + 1 : Nat) : Int)).1.tells ((P.now + 1 : Nat) : Int)).1.r (P.way 0 ++ (((P.e 0).ticked ((P.now + 1 : Nat) : Int)).1.tells ((P.now + 1 : Nat) : Int)).2) (P.sent 0) (gotTo (P.got 1) lo1 m1)
      rw [hr 1]
      exact hp 0 0 _ _ _ _ (by decide) (by omega) b4
    · show Dir 1 (((P.e 1).ticked ((P.now + 1 : Nat) : Int)).1.tells ((P.now + 1 : Nat) : Int)).1.s (((P.e 0).ticked ((P.now + 1 : Nat) : Int)).1.tells ((P.now + 1 : Nat) : Int)).1.r (P.way 1 ++ (((P.e 1).ticked ((P.now + 1 : Nat) : Int)).1.tells ((P.now + 1 : Nat) : Int)).2) (P.sent 1) (gotTo (P.got 0) lo0 m0)
      rw [hr 0]
      exact hp 1 1 _ _ _ _ (by decide) (by omega) a4

/-- Two new ends. -/
def newPair (m0 m1 : Int) : Pair := ⟨fun i => if i = 0 then newEnd 1 m0 2 else newEnd 2 m1 2, fun _ => [], fun _ => 0, fun _ => 0, 0⟩
theorem newEnd_inv (call most ticks : Int) : EInv 0 0 (newEnd call most ticks) := by
  have h := newEnd_ok call most ticks
  refine ⟨h.s, h.r, h.rl, h.rs0, Int.le_refl _, h.rt0, Int.le_refl _, h.si0, Int.le_refl _, Int.le_refl _, ?_⟩
  show ((0 : Nat) : Int) ≤ (cutZ most 1 16 + 1) / 2
  unfold cutZ; omega
theorem newPair_inv (m0 m1 : Int) : PInv 0 (newPair m0 m1) := by
  refine ⟨Nat.le_refl _, fun i hi => ?_, fun i hi => by simp [newPair], fun i hi => by simp [newPair], fun f t hf ht hne => ?_⟩
  · rcases two_cases hi with rfl | rfl
    · exact newEnd_inv _ _ _
    · exact newEnd_inv _ _ _
  · have hr : ((newPair m0 m1).e t).r = ⟨0, [], 0, 0⟩ := by rcases two_cases ht with rfl | rfl <;> rfl
    have hs : ((newPair m0 m1).e f).s.nx = 0 ∧ ((newPair m0 m1).e f).s.wait = [] := by rcases two_cases hf with rfl | rfl <;> exact ⟨rfl, rfl⟩
    rw [hr]
    refine ⟨⟨0, 0, Nat.le_refl _, hs.1, hs.2, fun x hx => by simp [newPair] at hx, ⟨Nat.le_refl _, by rfl, by simp, by simp⟩, Nat.le_refl _⟩, fun x hx => by simp [newPair] at hx⟩
end Go.Proofs.Ytkmjpphmciaklaa
