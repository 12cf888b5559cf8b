/- SendOnce: what is sent goes behind the row of what was sent. -/
import Derived.Test.YtkmjpphmciaklaaOnce1
namespace Go.Proofs.Ytkmjpphmciaklaa
open Go.RowKit
set_option linter.unusedVariables false
set_option linter.unusedSimpArgs false

/-- A row of packets of the sender's own. -/
def SeqT (w : World) (v : Value) (out : List (Int × List Int)) : Prop :=
  ∃ a c, v = .slice a out.length c ∧ ∀ k (hk : k < out.length), ∃ g d, a = some ⟨g, 0, none⟩ ∧ IsT w g 31 ∧ w.cell? ⟨g, k * 2, none⟩ = some (.int .u32 (out[k]'hk).1) ∧ w.cell? ⟨g, k * 2 + 1, none⟩ = some d ∧ Bytes w d (out[k]'hk).2
theorem OutIs.seqT {w : World} {base : Nat} {v : Value} {out : List (Int × List Int)} (h : OutIs w base v out) : SeqT w v out := by
  obtain ⟨o, ⟨hl, ho⟩, hr⟩ := h
  have hlen := hr.len
  rcases ho with ⟨rfl, h0⟩ | ⟨g, cap, cur, rfl, hg, hb, hn, hcap, hsz, htk⟩
  · exact ⟨none, 0, by rw [← hlen, h0], fun k hk => by omega⟩
  · refine ⟨_, _, by rw [hlen], fun k hk => ?_⟩
    have hk' : k < o.length := by omega
    obtain ⟨e1, e2⟩ := cellsOf_at hk'
    obtain ⟨r1, r2⟩ := hr.at hk' hk
    rw [← htk] at e1 e2
    rw [List.getElem?_take_of_lt (by omega)] at e1 e2
    refine ⟨g, o[k].2, rfl, ⟨_, _, hb⟩, ?_, ?_, r2⟩
    · rw [← r1]; simpa [World.cell?, hb] using e1
    · simpa [World.cell?, hb] using e2
theorem SeqT.chg {F : List Nat} {w w' : World} {v : Value} {out : List (Int × List Int)} (h : SeqT w v out) (c : Chg F w w') (hF : ∀ x ∈ F, IsT w x 29) : SeqT w' v out := by
  obtain ⟨a, n, hv, hk⟩ := h
  refine ⟨a, n, hv, fun k hl => ?_⟩
  obtain ⟨g, d, h1, ht, h2, h3, h4⟩ := hk k hl
  have hb := World.block_lt_of_cell? w _ h2
  have hg : g ∉ F := fun hm => (hF g hm).ne ht (by decide) rfl
  obtain ⟨cs, fz, e⟩ := ht
  exact ⟨g, d, h1, ⟨cs, fz, (c.block g hb hg).trans e⟩, (c.cell (p := ⟨g, k * 2, none⟩) hb hg).trans h2, (c.cell (p := ⟨g, k * 2 + 1, none⟩) hb hg).trans h3, h4.chg c (fun b hb => (hF b hb).noB (by decide))⟩

/-- i of what was sent are behind the row. -/
structure PumpMid (p pr g : Nat) (P : List (List Int)) (n : Nat) (out : List (Int × List Int)) (o : Value) (i : Nat) (v6 v7 : Value) (a : Snd (List Int)) (w wr : World) : Prop where
  row6 : RowS (BytS (· < w.heap.size) wr) wr w.heap.size v6 P
  row7 : RowS (Bytes wr) wr w.heap.size v7 (P.take (n + i))
  sep : ∀ b, v6.ownBlock = some b → v7.ownBlock ≠ some b
  sep6 : v6.ownBlock ≠ some g
  sep7 : v7.ownBlock ≠ some g
  snd : ∃ va fr, SndIs wr w.heap.size p pr g va fr a
  seq : SeqT wr o out
  chg : Chg [] w wr

/-- What is sent: of the numbers behind the last one, and of what waited. -/
structure Sends (first : Int) (P : List (List Int)) (n : Nat) (out : List (Int × List Int)) (a' : Snd (List Int)) : Prop where
  all : n + out.length ≤ P.length
  at_ : ∀ j (hj : j < out.length), (out[j]'hj).1 = numK first (n + j) ∧ P[n + j]? = some (out[j]'hj).2
  nx : a'.nx = numK first (n + out.length)
  wait : P.drop (n + out.length) = a'.wait
  airs : (a'.air.length : Int) ≤ a'.s

theorem OnceSt.sends {first : Int} {p pr g k n : Nat} {now now' : Int} {P : List (List Int)} {v6 v7 : Value} {a : Snd (List Int)} {w wr : World} (h : OnceSt first p pr g k now P n v6 v7 a w wr) (hk : k ≤ 1000) : Sends first P n (a.pump now').2 (a.pump now').1 := by
  have hp := h.plen
  have hw := h.wait
  have hwl : a.wait.length = P.length - n := by rw [← hw, List.length_drop]
  obtain ⟨m, h1, h2, h3, h4, h5, h6⟩ := pumpF_spec a.s now' a.wait a.nx a.air h.ok.nx0 h.ok.nx1 h.airs (by omega)
  have hn := h.nown
  have e : (a.pump now').2 = (pumpF a.s now' a.nx a.air a.wait).1 := rfl
  have el : (a.pump now').2.length = m := by rw [e]; exact h2
  refine ⟨by rw [el]; omega, fun j hj => ?_, ?_, ?_, h6⟩
  · rw [el] at hj
    have hj' : j < a.wait.length := by omega
    have h7 := h3 j (a.wait[j]'hj') hj (List.getElem?_eq_getElem hj')
    have h8 : (a.pump now').2[j]? = some (numK a.nx j, a.wait[j]'hj') := h7
    have h9 := (List.getElem?_eq_some_iff.1 h8).2
    rw [h9]
    refine ⟨?_, ?_⟩
    · show numK a.nx j = _
      rw [h.nx]; unfold numK; omega
    · show P[n + j]? = some (a.wait[j]'hj')
      rw [← List.getElem?_eq_getElem hj', ← hw, List.getElem?_drop]
  · show (pumpF a.s now' a.nx a.air a.wait).2.1 = _
    rw [h4, el, h.nx]; unfold numK; omega
  · show P.drop _ = (pumpF a.s now' a.nx a.air a.wait).2.2.2
    rw [h5, el, ← hw, List.drop_drop]

theorem OnceSt.mid {first : Int} {p pr g k n fr fr' base : Nat} {now : Int} {P : List (List Int)} {v6 v7 va va' o : Value} {a a' : Snd (List Int)} {out : List (Int × List Int)} {w wr w' : World} (h : OnceSt first p pr g k now P n v6 v7 a w wr) (hS : SndIs wr w.heap.size p pr g va fr a)
    (hS' : SndIs w' w.heap.size p pr g va' fr' a') (c : Chg (sndF p pr g va) wr w') (ho : OutIs w' base o out) : PumpMid p pr g P n out o 0 v6 v7 a' w w' := by
  obtain ⟨r6, r7, hc⟩ := h.rows hS c
  exact ⟨r6, r7, h.sep, h.sep6, h.sep7, ⟨va', fr', hS'⟩, ho.seqT, hc⟩

theorem PumpMid.push {first : Int} {p pr g n i : Nat} {P : List (List Int)} {out : List (Int × List Int)} {o v6 v7 : Value} {a : Snd (List Int)} {w w2 : World} (h : PumpMid p pr g P n out o i v6 v7 a w w2) (hs : Sends first P n out a) (hP : P.length ≤ 1000) (hi : i < out.length) :
    ∃ gb A dl dc oc, o = .slice (some ⟨gb, 0, none⟩) out.length oc ∧ w2.cell? ⟨gb, i * 2, none⟩ = some (.int .u32 (numK first (n + i))) ∧ w2.cell? ⟨gb, i * 2 + 1, none⟩ = some (.slice A dl dc) ∧
    ∃ v' w', (Builtin.append_ #[63, 63] 63 #[v7, .slice (some ⟨w2.heap.size, 0, none⟩) 1 1]).run Try.prog (w2.alloc (.cells #[.slice A dl dc] 29)) = .ok v' w' ∧ PumpMid p pr g P n out o (i + 1) v6 v' a w w' := by
  obtain ⟨oa, oc, ho, hat⟩ := h.seq
  obtain ⟨gb, dv, rfl, ht, e0, e1, hb⟩ := hat i hi
  obtain ⟨f0, f1⟩ := hs.at_ i hi
  rw [f0] at e0
  obtain ⟨A, dl, dc, rfl⟩ := hb.slice
  have hall := hs.all
  refine ⟨gb, A, dl, dc, oc, ho, e0, e1, ?_⟩
  have hl7 : ∀ b ∈ v7.ownBlock.toList, w.heap.size ≤ b := fun b hb => (h.row7.lt b (by simpa using hb)).1
  have ht7 : ∀ b ∈ v7.ownBlock.toList, IsT w2 b 29 := fun b hb => h.row7.isT (by simpa using hb)
  have hnb : ∀ b ∈ v7.ownBlock.toList, NoB w2 b := fun b hb => (ht7 b hb).noB (by decide)
  obtain ⟨v', w', r, r7', cc, hob⟩ := rowS_push (R' := Bytes w2) h.row7 h.chg.size (a := A) (n := dl) (c := dc) (d := (out[i]'hi).2) (by rw [List.length_take]; omega) (fun _ _ _ _ h => h) (fun _ _ => hb)
  refine ⟨v', w', r, ?_⟩
  obtain ⟨va, fr, l2, hA2, hl2⟩ := h.snd
  have hn7 : ∀ b ∈ v7.ownBlock.toList, b ∉ sndF p pr g va := by
    intro b hb hm
    have e : v7.ownBlock = some b := by simpa using hb
    have ht := h.row7.isT e
    simp only [sndF, List.mem_cons] at hm
    rcases hm with rfl | rfl | rfl | hm
    · exact ht.ne hA2.str.isT (by decide) rfl
    · exact ht.ne hA2.ring.isT.1 (by decide) rfl
    · exact h.sep7 e
    · exact ht.ne (hA2.air.isT (by simpa using hm)) (by decide) rfl
  have htk : P.take (n + (i + 1)) = P.take (n + i) ++ [(out[i]'hi).2] := by
    rw [show n + (i + 1) = (n + i) + 1 from by omega, List.take_add_one, f1]; rfl
  refine ⟨h.row6.chg cc (fun b hb e => h.sep b e (by simpa using hb)) (fun u e hb => hb.chg cc (fun b _ hs hm => by have := hl7 b hm; omega)), ?_, fun b hb e => ?_, h.sep6, fun e => ?_, ⟨va, fr, l2, hA2.chg cc hn7, hl2.mono fun _ _ hb => hb.chg cc hnb⟩, h.seq.chg cc ht7, h.chg.trans' cc (fun b hb => Or.inr (hl7 b hb))⟩
  · rw [htk]
    exact r7'.chg (Chg.refl [] w') (by simp) (fun u e hb => hb.chg cc hnb)
  · rcases hob b e with h' | h'
    · exact h.sep b hb h'
    · have := (h.row6.lt b hb).2; omega
  · rcases hob g e with h' | h'
    · exact h.sep7 h'
    · have := hA2.ring.lt.2; omega

theorem PumpMid.done {first : Int} {p pr g k n : Nat} {now now' : Int} {P : List (List Int)} {out : List (Int × List Int)} {o v6 v7 v6' v7' : Value} {a a' : Snd (List Int)} {w w2 wr : World} (h : PumpMid p pr g P n out o out.length v6 v7 a' w w2) (h0 : OnceSt first p pr g k now P n v6' v7' a w wr) (hs : Sends first P n out a') (ok : a'.Ok) (hl : a'.lost = a.lost)
    (hn0 : now - 10 ≤ now') (hn1 : now' ≤ now + 100) : OnceSt first p pr g (k + 1) now' P (n + out.length) v6 v7 a' w w2 := by
  have h2 := h0.lost
  have h3 := h0.now0
  have h4 := h0.now1
  have h5 := h0.plen
  exact ⟨ok, hs.all, hs.wait, hs.nx, hs.airs, by rw [hl]; push_cast; omega, by push_cast; omega, by push_cast; omega, by omega, h0.data, h.row6, h.row7, h.sep, h.sep6, h.sep7, h.snd, h.chg⟩
theorem PumpMid.keep {p pr g n i : Nat} {P : List (List Int)} {out : List (Int × List Int)} {o v6 v7 : Value} {a : Snd (List Int)} {w w2 w' : World} (h : PumpMid p pr g P n out o i v6 v7 a w w2) (c : Chg [] w2 w') : PumpMid p pr g P n out o i v6 v7 a w w' := by
  obtain ⟨va, fr, hS⟩ := h.snd
  exact ⟨h.row6.chg c (by simp) (fun u d hb => hb.chg c (by simp)), h.row7.chg c (by simp) (fun u d hb => hb.chg c (by simp)), h.sep, h.sep6, h.sep7, ⟨va, fr, hS.keep c⟩, h.seq.chg c (by simp), h.chg.trans c⟩
end Go.Proofs.Ytkmjpphmciaklaa
