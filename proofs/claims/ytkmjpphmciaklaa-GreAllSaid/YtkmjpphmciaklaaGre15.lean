/- Two ends, where nothing is lost: the plain law. -/
import Derived.Test.YtkmjpphmciaklaaGre14
namespace Go.Proofs.Ytkmjpphmciaklaa
open Go.RowKit
set_option linter.unusedVariables false
set_option linter.unusedSimpArgs false

/-! ### An end at rest -/
theorem pump_none {x : Snd (List Int)} (h : x.wait = []) (now : Int) : x.pump now = (x, []) := by
  have e : pumpF x.s now x.nx x.air ([] : List (List Int)) = ([], x.nx, x.air, []) := by simp [pumpF]
  unfold Snd.pump
  rw [h, e]
  cases x
  simp at h
  simp [h]
theorem pumped_none {E : End} (h : E.s.wait = []) (now : Int) : E.pumped now = (E, []) := by
  unfold End.pumped
  rw [pump_none h]
  rfl
theorem ack_none {x : Snd (List Int)} (h : x.air = []) (now seq : Int) : (x.ack now seq).1 = x := by
  unfold Snd.ack
  have e : ackN seq x.nx x.air = 0 := by rw [h]; unfold ackN ackT; split <;> rfl
  rw [if_pos e]
structure AEnd (k : Nat) (now : Int) (E : End) (sent recv : Nat) : Prop where
  inv : EInv k now E
  wait : E.s.wait = []
  nx : E.s.nx = sent
  l : E.r.l = []
  rnx : E.r.nx = recv
  air : E.s.air = [] ∨ ∃ u : Int, E.s.air = [((sent : Int) - 1, u)]
section
variable {k : Nat} {now : Int} {E : End} {sent recv : Nat}
theorem send_one (h : AEnd k now E sent recv) (ha : E.s.air = []) {d : List Int} (hd : d.length = 3) (hs : sent ≤ 100000) :
    E.send now d = (({ E with s := { E.s with nx := ((sent + 1 : Nat) : Int), air := [((sent : Int), now)] } } : End).paidN 1, [E.tun ((sent : Int), d)], true) := by
  have hw := h.inv.s.win
  unfold Win at hw
  have hp : E.s.push d = { E.s with wait := [d] } := by unfold Snd.push; rw [h.wait]; rfl
  have hq : ({ E.s with wait := [d] } : Snd (List Int)).pump now = ({ E.s with nx := ((sent + 1 : Nat) : Int), air := [((sent : Int), now)] }, [((sent : Int), d)]) := by
    have hlt : ((E.s.air.length : Nat) : Int) < E.s.s := by rw [ha]; simp; omega
    have e := pumpF_go (now := now) (nx := E.s.nx) (v := d) (l := []) hlt
    have e2 : ∀ (nx : Int) (air : List (Int × Int)), pumpF E.s.s now nx air ([] : List (List Int)) = ([], nx, air, []) := fun _ _ => by simp [pumpF]
    rw [e2] at e
    unfold Snd.pump
    show (({ nx := (pumpF E.s.s now E.s.nx E.s.air [d]).2.1, air := (pumpF E.s.s now E.s.nx E.s.air [d]).2.2.1, wait := (pumpF E.s.s now E.s.nx E.s.air [d]).2.2.2, s := E.s.s, a := E.s.a, mo := E.s.mo, m := E.s.m, d := E.s.d, lost := E.s.lost } : Snd (List Int)), (pumpF E.s.s now E.s.nx E.s.air [d]).1) = _
    rw [e, h.nx, ha]
    have en : ((sent : Int) + 1) % 4294967296 = ((sent + 1 : Nat) : Int) := by omega
    rw [en]
    simp [h.wait]
  unfold End.send
  rw [if_neg (by rw [h.wait, hd]; decide), hp, hq]
  rfl
theorem put_one {r : Rcv (List Int)} (hl : r.l = []) (hn : r.nx = recv) (hb : recv ≤ 100000) (d : List Int) : r.put now recv d = (⟨((recv + 1 : Nat) : Int), [], now, r.twice⟩, [((recv : Int), d)]) := by
  have hdup : r.dup recv = false := by unfold Rcv.dup; rw [hl, hn]; simp [lk]
  unfold Rcv.put
  rw [hdup, if_neg (by simp), if_pos hn.symm]
  have hm : r.more now recv d = ⟨r.nx, [((recv : Int), d)], now, r.twice⟩ := by unfold Rcv.more; rw [hl]; rfl
  rw [hm, hn]
  have en : ((recv : Int) + 1) % 4294967296 = ((recv + 1 : Nat) : Int) := by omega
  simp [Rcv.run, runF, lk, en]
theorem tick_none {r : Rcv (List Int)} (hl : r.l = []) : r.tick now = (r, []) := by unfold Rcv.tick; rw [hl]; simp
theorem ticked_rest (h : AEnd k now E sent recv) (n1 : Int) : E.ticked n1 = (⟨E.call, (E.s.late n1).1, E.r, E.owes, E.since⟩, []) := by
  unfold End.ticked
  rw [tick_none h.l]
  simp
theorem late_wait (h : E.s.wait = []) (n1 : Int) : (E.s.late n1).1.wait = [] := by rw [(late_same E.s n1).1]; exact h
theorem late_air (h : AEnd k now E sent recv) (n1 : Int) : (E.s.late n1).1.air = [] ∨ (E.s.late n1).1.air = E.s.air := by
  unfold Snd.late
  split
  · exact .inr rfl
  · split
    · exact .inr rfl
    · exact .inl rfl
/-- A tick at an end at rest. -/
theorem tells_rest (h : AEnd k now E sent recv) (n1 : Int) :
    (E.ticked n1).1.tells n1 = if (⟨E.call, (E.s.late n1).1, E.r, E.owes, E.since⟩ : End).due n1 then ((⟨E.call, (E.s.late n1).1, E.r, E.owes, E.since⟩ : End).paid, [(⟨E.call, (E.s.late n1).1, E.r, E.owes, E.since⟩ : End).ack ⟨E.call, false, 0, false, 0, []⟩])
      else (⟨E.call, (E.s.late n1).1, E.r, E.owes, E.since⟩, []) := by
  rw [ticked_rest h]
  unfold End.tells
  rw [pumped_none (E := ⟨E.call, (E.s.late n1).1, E.r, E.owes, E.since⟩) (late_wait h.wait n1)]
  rfl
theorem due_rest (n1 : Int) (s : Snd (List Int)) : (⟨E.call, s, E.r, E.owes, E.since⟩ : End).due n1 = (E.owes && decide (2 ≤ n1 - E.since) && E.r.nx != 0) := rfl
theorem AEnd.ticks (h : AEnd k now E sent recv) (hk : k ≤ 9000) (hn0 : 0 ≤ now) (hn1 : now + 1 ≤ 1000000) : AEnd (k + 1) (now + 1) ((E.ticked (now + 1)).1.tells (now + 1)).1 sent recv := by
  have hi := h.inv.tick (by omega) hn0 hn1
  have hf := End.tells_f (E.ticked (now + 1)).1 (now + 1)
  have hs : ((E.ticked (now + 1)).1.tells (now + 1)).1.s = (E.s.late (now + 1)).1 := by
    rw [hf.1, ticked_rest h]
    show ((E.s.late (now + 1)).1.pump (now + 1)).1 = _
    rw [pump_none (late_wait h.wait _)]
  have hr : ((E.ticked (now + 1)).1.tells (now + 1)).1.r = E.r := by rw [hf.2.1, ticked_rest h]
  refine ⟨hi, by rw [hs]; exact late_wait h.wait _, by rw [hs, (late_same E.s (now + 1)).2]; exact h.nx, by rw [hr]; exact h.l, by rw [hr]; exact h.rnx, ?_⟩
  rw [hs]
  rcases late_air h (now + 1) with e | e
  · exact .inl e
  · rw [e]; exact h.air
end

/-! ### Both -/
structure AInv (k : Nat) (P : Pair) : Prop where
  now : P.now ≤ k
  e : ∀ i j, i < 2 → j < 2 → i ≠ j → AEnd k P.now (P.e i) (P.sent i) (P.sent j)
  way : ∀ i, i < 2 → P.way i = []
  got : ∀ i j, i < 2 → j < 2 → i ≠ j → P.got j = P.sent i
  sent : ∀ i, i < 2 → P.sent i ≤ k
def Settled (P : Pair) : Prop := ∀ i, i < 2 → (P.e i).s.air = [] ∧ (P.e i).owes = false
def Waits (f t : Nat) (since : Int) (P : Pair) : Prop := (P.e f).owes = false ∧ (P.e t).s.air = [] ∧ (P.e t).owes = true ∧ (P.e t).since = since ∧ 0 < P.sent f
theorem AInv.ok {k : Nat} {P : Pair} (h : AInv k P) (hk : k ≤ 9000) : P.Ok := by
  have hn := h.now
  refine ⟨fun i hi => ?_, fun i hi => by rw [h.way i hi]; simp, by omega, fun i hi => by have := h.sent i hi; omega⟩
  rcases two_cases hi with rfl | rfl
  · exact (h.e 0 1 (by decide) (by decide) (by decide)).inv.ok (by omega) (by omega)
  · exact (h.e 1 0 (by decide) (by decide) (by decide)).inv.ok (by omega) (by omega)
/-- All that is under way arrives: at most one packet. -/
def QuietTo (P P2 : Pair) : Prop :=
  (P.way 0 = [] ∧ P.way 1 = [] ∧ P2 = P) ∨
  ∃ f t lo m, (f = 0 ∧ t = 1 ∨ f = 1 ∧ t = 0) ∧ (P.way f).length = 1 ∧ P.way t = [] ∧ P.Ok ∧ ((P.taken f t 0).2.map (·.2) = says f lo m ∧ P.got t ≤ lo ∧ lo + m ≤ P.sent f) ∧
    P2 = { P.arrived f t 0 false with got := upd P.got t (gotTo (P.got t) lo m) } ∧ P2.way 0 = [] ∧ P2.way 1 = []
/-- One sends, and all arrives. -/
theorem AInv.sends {k : Nat} {P : Pair} (h : AInv k P) (hk : k ≤ 8000) (hs : Settled P) {f t : Nat} (hft : f = 0 ∧ t = 1 ∨ f = 1 ∧ t = 0) :
    ∃ P2, QuietTo (P.sends f) P2 ∧ AInv (k + 2) P2 ∧ Waits f t P.now P2 ∧ P2.sent f = P.sent f + 1 ∧ P2.sent t = P.sent t ∧ P2.now = P.now := by
  have hf : f < 2 := by omega
  have ht : t < 2 := by omega
  have hne : f ≠ t := by omega
  have hnow := h.now
  have hsf := h.sent f hf
  have hst := h.sent t ht
  have ef := h.e f t hf ht hne
  have et := h.e t f ht hf (Ne.symm hne)
  obtain ⟨d, hd⟩ : ∃ d, d = say f (P.sent f + 1) := ⟨_, rfl⟩
  have hone := send_one ef (hs f hf).1 (d := d) (by rw [hd]; rfl) (by omega)
  obtain ⟨x, hx⟩ : ∃ x, x = (P.e f).tun (((P.sent f : Nat) : Int), d) := ⟨_, rfl⟩
  have hxf : x.hs = true ∧ x.seq = ((P.sent f : Nat) : Int) ∧ x.d = d := by
    have k := (P.e f).ack_f (⟨(P.e f).call, true, ((P.sent f : Nat) : Int), false, 0, d⟩ : Tun (List Int))
    rw [hx]; exact ⟨k.1, k.2.1, k.2.2⟩
  obtain ⟨E', hE'⟩ : ∃ E', E' = ((P.e f).send P.now d).1 := ⟨_, rfl⟩
  have hE'i := (ef.inv).send (now := P.now) d (by omega) (by omega)
  rw [← hE'] at hE'i
  have hE's : E'.s = { (P.e f).s with nx := ((P.sent f + 1 : Nat) : Int), air := [(((P.sent f : Nat) : Int), (P.now : Int))] } ∧ E'.r = (P.e f).r ∧ E'.since = (P.e f).since := by
    rw [hE', hone]
    have k := End.paidN_f ({ P.e f with s := { (P.e f).s with nx := ((P.sent f + 1 : Nat) : Int), air := [(((P.sent f : Nat) : Int), (P.now : Int))] } } : End) 1
    exact ⟨k.1, k.2.1, k.2.2.1⟩
  have hE'o : E'.owes = false := by
    rw [hE', hone]
    show (End.paid _).owes = false
    unfold End.paid
    split
    · exact (hs f hf).2
    · rfl
  -- behind Send
  have hP1 : P.sends f = { P with e := upd P.e f E', way := upd P.way f [x], sent := upd P.sent f (P.sent f + 1) } := by
    unfold Pair.sends
    rw [← hd, hone, ← hx, h.way f hf]
    rw [hone] at hE'
    rw [hE']
    rfl
  rw [hP1]
  have ok1 : Pair.Ok { P with e := upd P.e f E', way := upd P.way f [x], sent := upd P.sent f (P.sent f + 1) } := by
    refine ⟨fun i hi => ?_, fun i hi => ?_, by show P.now ≤ _; omega, fun i hi => ?_⟩
    · show (upd P.e f E' i).Ok ∧ (upd P.e f E' i).s.lost ≤ 900000000
      by_cases hif : i = f
      · subst hif; rw [upd_at]; exact hE'i.ok (by omega) (by omega)
      · rw [upd_ne _ hif]; exact (h.ok (by omega)).e i hi
    · show (upd P.way f [x] i).length ≤ _ ∧ ∀ y ∈ upd P.way f [x] i, _
      by_cases hif : i = f
      · subst hif
        rw [upd_at]
        refine ⟨by simp, fun y hy => ?_⟩
        simp at hy
        subst hy
        rw [hxf.2.1, hxf.2.2, hd]
        exact ⟨by omega, by omega, by rw [say_len]; decide⟩
      · rw [upd_ne _ hif, h.way i hi]; simp
    · show upd P.sent f (P.sent f + 1) i ≤ _
      have := h.sent i hi
      by_cases hif : i = f
      · subst hif; rw [upd_at]; omega
      · rw [upd_ne _ hif]; omega
  obtain ⟨P1, hP1v⟩ : ∃ P1 : Pair, P1 = { P with e := upd P.e f E', way := upd P.way f [x], sent := upd P.sent f (P.sent f + 1) } := ⟨_, rfl⟩
  rw [← hP1v] at ok1 ⊢
  have w1f : P1.way f = [x] := by rw [hP1v]; exact upd_at _ _ _
  have w1t : P1.way t = [] := by rw [hP1v]; show upd P.way f [x] t = []; rw [upd_ne _ (Ne.symm hne)]; exact h.way t ht
  have e1f : P1.e f = E' := by rw [hP1v]; exact upd_at _ _ _
  have e1t : P1.e t = P.e t := by rw [hP1v]; exact upd_ne _ (Ne.symm hne) _
  have s1f : P1.sent f = P.sent f + 1 := by rw [hP1v]; exact upd_at _ _ _
  have s1t : P1.sent t = P.sent t := by rw [hP1v]; exact upd_ne _ (Ne.symm hne) _
  have n1 : P1.now = P.now := by rw [hP1v]
  have g1 : P1.got = P.got := by rw [hP1v]
  have htk : P1.taken f t 0 = (⟨(P.e t).call, (P.e t).s, ⟨((P.sent f + 1 : Nat) : Int), [], (P.now : Int), (P.e t).r.twice⟩, true, (P.now : Int)⟩, [(((P.sent f : Nat) : Int), d)]) := by
    unfold Pair.taken
    rw [w1f, e1t, n1]
    show (P.e t).took P.now x.hs x.seq x.ha x.ack x.d = _
    unfold End.took
    rw [hxf.1, hxf.2.1, hxf.2.2, put_one et.l et.rnx (by omega) d, (hs t ht).2]
    have e : (if x.ha then ((P.e t).s.ack P.now x.ack).1 else (P.e t).s) = (P.e t).s := by
      split
      · exact ack_none (hs t ht).1 _ _
      · rfl
    rw [e]
    rfl
  have hgt := h.got f t hf ht hne
  have hds : (P1.taken f t 0).2.map (·.2) = says f (P.sent f) 1 ∧ P1.got t ≤ P.sent f ∧ P.sent f + 1 ≤ P1.sent f := by
    rw [htk, g1, hgt, s1f]
    exact ⟨by rw [hd]; rfl, Nat.le_refl _, Nat.le_refl _⟩
  obtain ⟨E2, hE2⟩ : ∃ E2 : End, E2 = ⟨(P.e t).call, (P.e t).s, ⟨((P.sent f + 1 : Nat) : Int), [], (P.now : Int), (P.e t).r.twice⟩, true, (P.now : Int)⟩ := ⟨_, rfl⟩
  have hpd : (P1.taken f t 0).1.pumped P1.now = (E2, []) := by
    rw [htk, ← hE2]
    exact pumped_none (by rw [hE2]; exact et.wait) _
  have hE2i : EInv (k + 1) P.now E2 := by
    have hi := et.inv.take (now := P.now) x.hs x.ha x.ack x.d (seq := x.seq) (by rw [hxf.2.1]; omega) (by rw [hxf.2.1]; omega) (by omega) (by omega)
    have e : (((P.e t).took P.now x.hs x.seq x.ha x.ack x.d).1.pumped P.now).1 = E2 := by
      have h1 : (P.e t).took P.now x.hs x.seq x.ha x.ack x.d = P1.taken f t 0 := by
        unfold Pair.taken
        rw [w1f, e1t, n1]; rfl
      rw [h1, ← n1, hpd]
    rw [e] at hi
    exact hi
  have hP2 : { P1.arrived f t 0 false with got := upd P1.got t (gotTo (P1.got t) (P.sent f) 1) } = ({ P1 with e := upd P1.e t E2, way := upd (upd P1.way f []) t [], got := upd P1.got t (P.sent f + 1) } : Pair) := by
    unfold Pair.arrived Pair.left
    rw [hpd, w1f]
    have u : upd P1.way f ([x].eraseIdx 0) t = [] := by rw [upd_ne _ (Ne.symm hne)]; exact w1t
    simp only [Bool.false_eq_true, if_false, u]
    rfl
  have w2 : ∀ i, i < 2 → (upd (upd P1.way f []) t []) i = [] := fun i hi => by
    by_cases hit : i = t
    · subst hit; exact upd_at _ _ _
    · rw [upd_ne _ hit]
      have : i = f := by omega
      subst this; exact upd_at _ _ _
  have x2f : (upd P1.e t E2) f = E' := by rw [upd_ne _ hne, e1f]
  have x2t : (upd P1.e t E2) t = E2 := upd_at _ _ _
  refine ⟨_, .inr ⟨f, t, P.sent f, 1, hft, by rw [w1f]; rfl, w1t, ok1, hds, rfl, ?_, ?_⟩, ?_, ?_, ?_, ?_, ?_⟩
  · rw [hP2]; exact w2 0 (by decide)
  · rw [hP2]; exact w2 1 (by decide)
  · rw [hP2]
    have af : AEnd (k + 2) P.now E' (P.sent f + 1) (P.sent t) := ⟨hE'i.mono (by omega) (Int.le_refl _), by rw [hE's.1]; exact ef.wait, by rw [hE's.1], by rw [hE's.2.1]; exact ef.l, by rw [hE's.2.1]; exact ef.rnx, .inr ⟨P.now, by rw [hE's.1]; simp⟩⟩
    have at' : AEnd (k + 2) P.now E2 (P.sent t) (P.sent f + 1) := ⟨hE2i.mono (by omega) (Int.le_refl _), by rw [hE2]; exact et.wait, by rw [hE2]; exact et.nx, by rw [hE2], by rw [hE2], .inl (by rw [hE2]; exact (hs t ht).1)⟩
    refine ⟨by show P1.now ≤ _; rw [n1]; omega, fun i j hi hj hij => ?_, w2, fun i j hi hj hij => ?_, fun i hi => ?_⟩
    · have hc : (i = f ∧ j = t) ∨ (i = t ∧ j = f) := by omega
      show AEnd (k + 2) P1.now (upd P1.e t E2 i) (P1.sent i) (P1.sent j)
      rw [n1]
      rcases hc with ⟨rfl, rfl⟩ | ⟨rfl, rfl⟩
      · rw [x2f, s1f, s1t]; exact af
      · rw [x2t, s1f, s1t]; exact at'
    · have hc : (i = f ∧ j = t) ∨ (i = t ∧ j = f) := by omega
      show upd P1.got t (P.sent f + 1) j = P1.sent i
      rcases hc with ⟨rfl, rfl⟩ | ⟨rfl, rfl⟩
      · rw [upd_at, s1f]
      · rw [upd_ne _ hne, g1, s1t]; exact h.got i j hi hj hij
    · show P1.sent i ≤ _
      have hc : i = f ∨ i = t := by omega
      rcases hc with rfl | rfl
      · rw [s1f]; omega
      · rw [s1t]; omega
  · rw [hP2]
    refine ⟨?_, ?_, ?_, ?_, ?_⟩
    · show (upd P1.e t E2 f).owes = false
      rw [x2f]; exact hE'o
    · show (upd P1.e t E2 t).s.air = []
      rw [x2t, hE2]; exact (hs t ht).1
    · show (upd P1.e t E2 t).owes = true
      rw [x2t, hE2]
    · show (upd P1.e t E2 t).since = P.now
      rw [x2t, hE2]
    · show 0 < P1.sent f
      rw [s1f]; omega
  · rw [hP2]; exact s1f
  · rw [hP2]; exact s1t
  · rw [hP2]; exact n1
theorem late_nil {x : Snd (List Int)} (h : x.air = []) (n1 : Int) : (x.late n1).1.air = [] := by
  unfold Snd.late
  split
  · exact h
  · rename_i hh; rw [h] at hh; cases hh
theorem ack_last {x : Snd (List Int)} {sent : Nat} (hn : x.nx = sent) (hp : 0 < sent) (hb : sent ≤ 100000) (h : x.air = [] ∨ ∃ u : Int, x.air = [((sent : Int) - 1, u)]) (now : Int) : (x.ack now ((sent : Int) - 1)).1.air = [] := by
  rcases h with h | ⟨u, h⟩
  · rw [ack_none h]; exact h
  · have e1 : lessB ((sent : Int) - 1) x.nx = true := by
      rw [hn]; unfold lessB
      simp only [Bool.and_eq_true, bne_iff_ne, decide_eq_true_eq]
      omega
    have e2 : lessB ((sent : Int) - 1) ((sent : Int) - 1) = false := by unfold lessB; simp
    have e : ackN ((sent : Int) - 1) x.nx x.air = 1 := by
      unfold ackN
      rw [e1, h]
      simp [ackT, e2]
    unfold Snd.ack
    rw [if_neg (by rw [e]; decide)]
    show x.air.drop (ackN ((sent : Int) - 1) x.nx x.air) = []
    rw [e, h]
    rfl
def APhase (f t j : Nat) (P : Pair) : Prop := if j < 2 then Waits f t ((P.now : Int) - j) P else Settled P
/-- Behind the ticks of both ends. -/
def Pair.ticked2 (P : Pair) : Pair := (P.later.tickG 0 (P.got 0) 0).tickG 1 (P.got 1) 0
theorem AInv.tick_in {k : Nat} {P : Pair} (h : AInv k P) : (((P.e 0).ticked (P.now + 1 : Nat)).2.map (·.2) = says 1 (P.got 0) 0 ∧ P.got 0 ≤ P.got 0 ∧ P.got 0 + 0 ≤ P.sent 1) ∧ (((P.e 1).ticked (P.now + 1 : Nat)).2.map (·.2) = says 0 (P.got 1) 0 ∧ P.got 1 ≤ P.got 1 ∧ P.got 1 + 0 ≤ P.sent 0) := by
  have e0 := h.e 0 1 (by decide) (by decide) (by decide)
  have e1 := h.e 1 0 (by decide) (by decide) (by decide)
  have g0 := h.got 1 0 (by decide) (by decide) (by decide)
  have g1 := h.got 0 1 (by decide) (by decide) (by decide)
  rw [ticked_rest e0, ticked_rest e1]
  exact ⟨⟨rfl, Nat.le_refl _, by omega⟩, rfl, Nat.le_refl _, by omega⟩
theorem ticked2_f (P : Pair) : (∀ i, i < 2 → P.ticked2.e i = ((((P.e i).ticked ((P.now + 1 : Nat) : Int)).1.tells ((P.now + 1 : Nat) : Int)).1)) ∧ (∀ i, i < 2 → P.ticked2.way i = P.way i ++ ((((P.e i).ticked ((P.now + 1 : Nat) : Int)).1.tells ((P.now + 1 : Nat) : Int)).2)) ∧
    P.ticked2.sent = P.sent ∧ (∀ i, i < 2 → P.ticked2.got i = P.got i) ∧ P.ticked2.now = P.now + 1 := by
  refine ⟨fun i hi => ?_, fun i hi => ?_, rfl, fun i hi => ?_, rfl⟩
  · rcases two_cases hi with rfl | rfl <;> rfl
  · rcases two_cases hi with rfl | rfl <;> rfl
  · rcases two_cases hi with rfl | rfl <;> rfl
/-- A tick, where no end owes an ack for long. -/
theorem AInv.quiet_tick {k : Nat} {P : Pair} (h : AInv k P) (hk : k ≤ 8000) (hd : ∀ i, i < 2 → ((P.e i).owes && decide (2 ≤ ((P.now + 1 : Nat) : Int) - (P.e i).since) && (P.e i).r.nx != 0) = false) :
    AInv (k + 1) P.ticked2 ∧ ∀ i, i < 2 → (P.ticked2.e i).owes = (P.e i).owes ∧ (P.ticked2.e i).since = (P.e i).since ∧ ((P.e i).s.air = [] → (P.ticked2.e i).s.air = []) := by
  have hnow := h.now
  obtain ⟨q1, q2, q3, q4, q5⟩ := ticked2_f P
  have hte : ∀ i, i < 2 → ((P.e i).ticked ((P.now + 1 : Nat) : Int)).1.tells ((P.now + 1 : Nat) : Int) = (⟨(P.e i).call, ((P.e i).s.late ((P.now + 1 : Nat) : Int)).1, (P.e i).r, (P.e i).owes, (P.e i).since⟩, []) := fun i hi => by
    obtain ⟨j, hj, hij⟩ : ∃ j, j < 2 ∧ i ≠ j := ⟨1 - i, by omega, by omega⟩
    rw [tells_rest (h.e i j hi hj hij), due_rest, hd i hi]
    rfl
  refine ⟨⟨by rw [q5]; omega, fun i j hi hj hij => ?_, fun i hi => ?_, fun i j hi hj hij => ?_, fun i hi => by rw [q3]; have := h.sent i hi; omega⟩, fun i hi => ?_⟩
  · rw [q5, q1 i hi, q3]
    have := (h.e i j hi hj hij).ticks (by omega) (by omega) (by omega)
    have e : ((P.now : Nat) : Int) + 1 = ((P.now + 1 : Nat) : Int) := by push_cast; rfl
    rw [e] at this
    exact this
  · rw [q2 i hi, hte i hi, h.way i hi]
    rfl
  · rw [q4 j hj, q3]; exact h.got i j hi hj hij
  · rw [q1 i hi, hte i hi]
    exact ⟨rfl, rfl, fun ha => late_nil ha _⟩
theorem AInv.tick {k : Nat} {P : Pair} (h : AInv k P) (hk : k ≤ 8000) {f t : Nat} (hft : f = 0 ∧ t = 1 ∨ f = 1 ∧ t = 0) {j : Nat} (hj : APhase f t j P) :
    ∃ P2, QuietTo P.ticked2 P2 ∧ AInv (k + 2) P2 ∧ APhase f t (j + 1) P2 ∧ P2.sent = P.sent := by
  have hf : f < 2 := by omega
  have ht : t < 2 := by omega
  have hne : f ≠ t := by omega
  have hnow := h.now
  obtain ⟨q1, q2, q3, q4, q5⟩ := ticked2_f P
  have up : ∀ P2, AInv (k + 1) P2 → AInv (k + 2) P2 := fun P2 h => ⟨by have := h.now; omega, fun i j hi hj hij => by
    have e := h.e i j hi hj hij
    exact ⟨e.inv.mono (by omega) (Int.le_refl _), e.wait, e.nx, e.l, e.rnx, e.air⟩, h.way, h.got, fun i hi => by have := h.sent i hi; omega⟩
  unfold APhase at hj
  by_cases hj2 : j < 2
  · rw [if_pos hj2] at hj
    obtain ⟨w1, w2, w3, w4, w5⟩ := hj
    by_cases hj0 : j = 0
    · -- nobody tells yet
      subst hj0
      have hq := h.quiet_tick hk (fun i hi => by
        have hc : i = f ∨ i = t := by omega
        rcases hc with rfl | rfl
        · rw [w1]; rfl
        · rw [w4]
          have e : decide (2 ≤ ((P.now + 1 : Nat) : Int) - ((P.now : Int) - ((0 : Nat) : Int))) = false := decide_eq_false (by push_cast; omega)
          rw [e]; simp)
      refine ⟨_, .inl ⟨hq.1.way 0 (by decide), hq.1.way 1 (by decide), rfl⟩, up _ hq.1, ?_, q3⟩
      unfold APhase
      rw [if_pos (by omega)]
      refine ⟨(hq.2 f hf).1.trans w1, (hq.2 t ht).2.2 w2, (hq.2 t ht).1.trans w3, ?_, by rw [q3]; exact w5⟩
      rw [(hq.2 t ht).2.1, w4, q5]
      push_cast; omega
    · -- the ack goes
      have hj1 : j = 1 := by omega
      subst hj1
      have ef := h.e f t hf ht hne
      have et := h.e t f ht hf (Ne.symm hne)
      have hsf := h.sent f hf
      have hst := h.sent t ht
      obtain ⟨n1, hn1⟩ : ∃ n1 : Int, n1 = ((P.now + 1 : Nat) : Int) := ⟨_, rfl⟩
      rw [← hn1] at q1 q2
      have ok1 : P.ticked2.Ok := by
        refine ⟨fun i hi => ?_, fun i hi => ?_, by rw [q5]; omega, fun i hi => by rw [q3]; have := h.sent i hi; omega⟩
        · obtain ⟨j, hj, hij⟩ : ∃ j, j < 2 ∧ i ≠ j := ⟨1 - i, by omega, by omega⟩
          have h1 := (h.e i j hi hj hij).inv.tick (by omega) (by omega) (by omega)
          have e : ((P.now : Nat) : Int) + 1 = n1 := by rw [hn1]; push_cast; rfl
          rw [e] at h1
          rw [q1 i hi]
          exact h1.ok (by omega) (by omega)
        · rw [q2 i hi, h.way i hi]
          obtain ⟨j, hj, hij⟩ : ∃ j, j < 2 ∧ i ≠ j := ⟨1 - i, by omega, by omega⟩
          rw [tells_rest (h.e i j hi hj hij)]
          split
          · refine ⟨by simp, fun x hx => ?_⟩
            simp at hx
            subst hx
            have k := (⟨(P.e i).call, ((P.e i).s.late n1).1, (P.e i).r, (P.e i).owes, (P.e i).since⟩ : End).ack_f (⟨(P.e i).call, false, 0, false, 0, []⟩ : Tun (List Int))
            rw [k.2.1, k.2.2]
            exact ⟨Int.le_refl 0, by show (0 : Int) < 4294967296; decide, by simp⟩
          · exact ⟨by simp, fun x hx => by simp at hx⟩
      have hdf : ((P.e f).owes && decide (2 ≤ n1 - (P.e f).since) && (P.e f).r.nx != 0) = false := by rw [w1]; rfl
      have hdt : ((P.e t).owes && decide (2 ≤ n1 - (P.e t).since) && (P.e t).r.nx != 0) = true := by
        have e1 : decide (2 ≤ n1 - (P.e t).since) = true := decide_eq_true (by rw [w4, hn1]; push_cast; omega)
        have e2 : ((P.e t).r.nx != 0) = true := by rw [et.rnx]; simp; omega
        rw [w3, e1, e2]; rfl
      have tf : ((P.e f).ticked n1).1.tells n1 = (⟨(P.e f).call, ((P.e f).s.late n1).1, (P.e f).r, (P.e f).owes, (P.e f).since⟩, []) := by rw [tells_rest ef, due_rest, hdf]; rfl
      have tt : ((P.e t).ticked n1).1.tells n1 = ((⟨(P.e t).call, ((P.e t).s.late n1).1, (P.e t).r, (P.e t).owes, (P.e t).since⟩ : End).paid, [(⟨(P.e t).call, ((P.e t).s.late n1).1, (P.e t).r, (P.e t).owes, (P.e t).since⟩ : End).ack ⟨(P.e t).call, false, 0, false, 0, []⟩]) := by rw [tells_rest et, due_rest, hdt]; rfl
      obtain ⟨y, hy⟩ : ∃ y, y = (⟨(P.e t).call, ((P.e t).s.late n1).1, (P.e t).r, (P.e t).owes, (P.e t).since⟩ : End).ack (⟨(P.e t).call, false, 0, false, 0, []⟩ : Tun (List Int)) := ⟨_, rfl⟩
      have hyv : y = ⟨(P.e t).call, false, 0, true, ((P.sent f : Nat) : Int) - 1, []⟩ := by
        rw [hy]
        unfold End.ack
        rw [if_neg (by show (P.e t).r.nx ≠ 0; rw [et.rnx]; omega)]
        show (⟨(P.e t).call, false, 0, true, (P.e t).r.nx - 1, []⟩ : Tun (List Int)) = _
        rw [et.rnx]
      rw [← hy] at tt
      have wf : P.ticked2.way f = [] := by rw [q2 f hf, tf, h.way f hf]; rfl
      have wt : P.ticked2.way t = [y] := by rw [q2 t ht, tt, h.way t ht]; rfl
      have e1f : P.ticked2.e f = ⟨(P.e f).call, ((P.e f).s.late n1).1, (P.e f).r, (P.e f).owes, (P.e f).since⟩ := by rw [q1 f hf, tf]
      have e1t : P.ticked2.e t = (⟨(P.e t).call, ((P.e t).s.late n1).1, (P.e t).r, (P.e t).owes, (P.e t).since⟩ : End).paid := by rw [q1 t ht, tt]
      have af := ef.ticks (by omega) (by omega) (by omega)
      have at' := et.ticks (by omega) (by omega) (by omega)
      have en : ((P.now : Nat) : Int) + 1 = n1 := by rw [hn1]; push_cast; rfl
      rw [en, ← q1 f hf] at af
      rw [en, ← q1 t ht] at at'
      -- it arrives
      have htk : P.ticked2.taken t f 0 = (⟨(P.e f).call, (((P.e f).s.late n1).1.ack n1 (((P.sent f : Nat) : Int) - 1)).1, (P.e f).r, (P.e f).owes, (P.e f).since⟩, []) := by
        unfold Pair.taken
        rw [wt, e1f, q5]
        show End.took _ _ y.hs y.seq y.ha y.ack y.d = _
        rw [hyv, ← hn1]
        rfl
      obtain ⟨E2, hE2⟩ : ∃ E2 : End, E2 = ⟨(P.e f).call, (((P.e f).s.late n1).1.ack n1 (((P.sent f : Nat) : Int) - 1)).1, (P.e f).r, (P.e f).owes, (P.e f).since⟩ := ⟨_, rfl⟩
      have hsm := ack_same ((P.e f).s.late n1).1 n1 (((P.sent f : Nat) : Int) - 1)
      have hw2 : E2.s.wait = [] := by rw [hE2]; show ((((P.e f).s.late n1).1.ack n1 (((P.sent f : Nat) : Int) - 1)).1).wait = []; rw [hsm.1]; exact late_wait ef.wait _
      have hpd : (P.ticked2.taken t f 0).1.pumped P.ticked2.now = (E2, []) := by rw [htk, ← hE2]; exact pumped_none hw2 _
      have hE2i : EInv (k + 2) n1 E2 := by
        have hi := af.inv.take (now := n1) y.hs y.ha y.ack y.d (seq := y.seq) (by rw [hyv]; exact Int.le_refl 0) (by rw [hyv]; show (0 : Int) < 4294967296; decide) (by omega) (by omega)
        have e : (((P.ticked2.e f).took n1 y.hs y.seq y.ha y.ack y.d).1.pumped n1).1 = E2 := by
          have h1 : (P.ticked2.e f).took n1 y.hs y.seq y.ha y.ack y.d = P.ticked2.taken t f 0 := by
            unfold Pair.taken
            rw [wt, q5, ← hn1]; rfl
          rw [h1]
          rw [q5, ← hn1] at hpd
          rw [hpd]
        rw [e] at hi
        exact hi
      have hair : E2.s.air = [] := by
        rw [hE2]
        refine ack_last (by rw [(late_same (P.e f).s n1).2]; exact ef.nx) w5 (by omega) ?_ n1
        rcases late_air ef n1 with e | e
        · exact .inl e
        · rw [e]; exact ef.air
      have g1 : P.ticked2.got f = P.got f := q4 f hf
      have hds : (P.ticked2.taken t f 0).2.map (·.2) = says t (P.got f) 0 ∧ P.ticked2.got f ≤ P.got f ∧ P.got f + 0 ≤ P.ticked2.sent t := by
        rw [htk, g1, q3]
        have := h.got t f ht hf (Ne.symm hne)
        exact ⟨rfl, Nat.le_refl _, by omega⟩
      have hP2 : { P.ticked2.arrived t f 0 false with got := upd P.ticked2.got f (gotTo (P.ticked2.got f) (P.got f) 0) } = ({ P.ticked2 with e := upd P.ticked2.e f E2, way := upd (upd P.ticked2.way t []) f [], got := upd P.ticked2.got f (P.ticked2.got f) } : Pair) := by
        unfold Pair.arrived Pair.left
        rw [hpd, wt]
        have u : upd P.ticked2.way t ([y].eraseIdx 0) f = [] := by rw [upd_ne _ hne]; exact wf
        simp only [Bool.false_eq_true, if_false, u]
        rfl
      have w2' : ∀ i, i < 2 → (upd (upd P.ticked2.way t []) f []) i = [] := fun i hi => by
        by_cases hif : i = f
        · subst hif; exact upd_at _ _ _
        · rw [upd_ne _ hif]
          have : i = t := by omega
          subst this; exact upd_at _ _ _
      have x2f : (upd P.ticked2.e f E2) f = E2 := upd_at _ _ _
      have x2t : (upd P.ticked2.e f E2) t = P.ticked2.e t := upd_ne _ (Ne.symm hne) _
      refine ⟨_, .inr ⟨t, f, P.got f, 0, by omega, by rw [wt]; rfl, wf, ok1, hds, rfl, ?_, ?_⟩, ?_, ?_, ?_⟩
      · rw [hP2]; exact w2' 0 (by decide)
      · rw [hP2]; exact w2' 1 (by decide)
      · rw [hP2]
        refine ⟨by show P.ticked2.now ≤ _; rw [q5]; omega, fun i j hi hj hij => ?_, w2', fun i j hi hj hij => ?_, fun i hi => by show P.ticked2.sent i ≤ _; rw [q3]; have := h.sent i hi; omega⟩
        · have hc : (i = f ∧ j = t) ∨ (i = t ∧ j = f) := by omega
          show AEnd (k + 2) P.ticked2.now (upd P.ticked2.e f E2 i) (P.ticked2.sent i) (P.ticked2.sent j)
          rw [q5, q3, ← hn1]
          rcases hc with ⟨rfl, rfl⟩ | ⟨rfl, rfl⟩
          · rw [x2f]
            exact ⟨hE2i, hw2, by rw [hE2]; show ((((P.e i).s.late n1).1.ack n1 (((P.sent i : Nat) : Int) - 1)).1).nx = _; rw [hsm.2.1, (late_same (P.e i).s n1).2]; exact ef.nx, by rw [hE2]; exact ef.l, by rw [hE2]; exact ef.rnx, .inl hair⟩
          · rw [x2t]
            exact ⟨at'.inv.mono (by omega) (Int.le_refl _), at'.wait, at'.nx, at'.l, at'.rnx, at'.air⟩
        · show upd P.ticked2.got f (P.ticked2.got f) j = P.ticked2.sent i
          have e : upd P.ticked2.got f (P.ticked2.got f) j = P.ticked2.got j := by
            unfold upd
            split
            · rename_i hh; rw [hh]
            · rfl
          rw [e, q4 j hj, q3]; exact h.got i j hi hj hij
      · unfold APhase
        rw [if_neg (by decide), hP2]
        intro i hi
        have hc : i = f ∨ i = t := by omega
        show ((upd P.ticked2.e f E2) i).s.air = [] ∧ ((upd P.ticked2.e f E2) i).owes = false
        rcases hc with rfl | rfl
        · rw [x2f]
          exact ⟨hair, by rw [hE2]; exact w1⟩
        · rw [x2t, e1t]
          have k := (⟨(P.e i).call, ((P.e i).s.late n1).1, (P.e i).r, (P.e i).owes, (P.e i).since⟩ : End).paid_r
          refine ⟨by rw [k.2.2.1]; exact late_nil w2 _, ?_⟩
          unfold End.paid
          rw [if_neg (by show (P.e i).r.nx ≠ 0; rw [et.rnx]; omega)]
      · rw [hP2]; exact q3
  · rw [if_neg hj2] at hj
    have hq := h.quiet_tick hk (fun i hi => by rw [(hj i hi).2]; rfl)
    refine ⟨_, .inl ⟨hq.1.way 0 (by decide), hq.1.way 1 (by decide), rfl⟩, up _ hq.1, ?_, q3⟩
    unfold APhase
    rw [if_neg (by omega)]
    exact fun i hi => ⟨(hq.2 i hi).2.2 (hj i hi).1, (hq.2 i hi).1.trans (hj i hi).2⟩
theorem newPair_rest (m0 m1 : Int) : AInv 0 (newPair m0 m1) ∧ Settled (newPair m0 m1) := by
  have key : ∀ i, i < 2 → ((newPair m0 m1).e i).s.air = [] ∧ ((newPair m0 m1).e i).owes = false ∧ ((newPair m0 m1).e i).s.wait = [] ∧ ((newPair m0 m1).e i).s.nx = 0 ∧ ((newPair m0 m1).e i).r.l = [] ∧ ((newPair m0 m1).e i).r.nx = 0 := fun i hi => by
    rcases two_cases hi with rfl | rfl <;> exact ⟨rfl, rfl, rfl, rfl, rfl, rfl⟩
  refine ⟨⟨Nat.le_refl _, fun i j hi hj hij => ?_, fun i hi => rfl, fun i j hi hj hij => rfl, fun i hi => Nat.le_refl _⟩, fun i hi => ⟨(key i hi).1, (key i hi).2.1⟩⟩
  exact ⟨(newPair_inv m0 m1).e i hi, (key i hi).2.2.1, (key i hi).2.2.2.1, (key i hi).2.2.2.2.1, (key i hi).2.2.2.2.2, .inl (key i hi).1⟩
end Go.Proofs.Ytkmjpphmciaklaa
