/- SendOnce: what holds behind each call. -/
import Derived.Test.YtkmjpphmciaklaaSend7
import Derived.Test.YtkmjpphmciaklaaAllLaw
namespace Go.Proofs.Ytkmjpphmciaklaa
open Go.RowKit
set_option linter.unusedVariables false
set_option linter.unusedSimpArgs false

theorem Try.info29 : (Try.prog.info? 29).map (fun i => (i.zero, i.size, i.bytes)) = some (some (.slice none 0 0), 1, 24) := by kernel_rfl
theorem elem29 : Elem Try.prog 63 29 1 24 (.slice none 0 0) := ⟨Try.underlying63, Try.info29, rfl, by decide, by decide⟩
/-- A row of slices of the call's own. -/
def RowS (R : Value → List Int → Prop) (w : World) (B : Nat) (v : Value) (P : List (List Int)) : Prop := ∃ l : List Value, Own 29 1 w B v (l.map (fun u => [u])) ∧ RelV R l P
theorem RowS.nil (R : Value → List Int → Prop) (w : World) (B : Nat) : RowS R w B (.slice none 0 0) [] := ⟨[], Own.nil _ _ _ _, trivial⟩
theorem RowS.slice {R : Value → List Int → Prop} {w : World} {B : Nat} {v : Value} {P : List (List Int)} (h : RowS R w B v P) : ∃ a c, v = .slice a P.length c := by
  obtain ⟨l, h1, h2⟩ := h
  obtain ⟨a, c, rfl⟩ := h1.slice
  exact ⟨a, c, by rw [List.length_map, h2.len]⟩
theorem RowS.lt {R : Value → List Int → Prop} {w : World} {B : Nat} {v : Value} {P : List (List Int)} (h : RowS R w B v P) : ∀ b, v.ownBlock = some b → B ≤ b ∧ b < w.heap.size := by
  obtain ⟨l, h1, _⟩ := h
  exact h1.lt
theorem RowS.isT {R : Value → List Int → Prop} {w : World} {B : Nat} {v : Value} {P : List (List Int)} (h : RowS R w B v P) {b : Nat} (hb : v.ownBlock = some b) : IsT w b 29 := by
  obtain ⟨l, h1, _⟩ := h
  exact h1.isT hb
theorem RowS.chg {R R' : Value → List Int → Prop} {F : List Nat} {w w' : World} {B : Nat} {v : Value} {P : List (List Int)} (h : RowS R w B v P) (c : Chg F w w') (hF : ∀ b ∈ F, v.ownBlock ≠ some b) (hR : ∀ u d, R u d → R' u d) : RowS R' w' B v P := by
  obtain ⟨l, h1, h2⟩ := h
  exact ⟨l, h1.chg c hF, h2.mono hR⟩
theorem RelV.at {α β : Type} {R : α → β → Prop} : ∀ {l : List α} {m : List β}, RelV R l m → ∀ {k : Nat} {y : β}, m[k]? = some y → ∃ x, l[k]? = some x ∧ R x y
  | [], [], _, k, y, h => by simp at h
  | a :: l, b :: m, hr, 0, y, h => ⟨a, rfl, by simp at h; subst h; exact hr.1⟩
  | a :: l, b :: m, hr, k + 1, y, h => by simpa using RelV.at hr.2 (by simpa using h)
  | [], _ :: _, hr, _, _, _ => hr.elim
  | _ :: _, [], hr, _, _, _ => hr.elim
theorem RowS.cell {R : Value → List Int → Prop} {w : World} {B : Nat} {v : Value} {P : List (List Int)} (h : RowS R w B v P) {a : Option Addr} {n c : Nat} (hv : v = .slice a n c) {k : Nat} {d : List Int} (hk : P[k]? = some d) :
    ∃ g u, a = some ⟨g, 0, none⟩ ∧ g < w.heap.size ∧ w.cell? ⟨g, k, none⟩ = some u ∧ R u d := by
  obtain ⟨l, h1, h2⟩ := h
  obtain ⟨u, hu, hR⟩ := h2.at hk
  obtain ⟨g, cap, he, _, hg, _, _, hq⟩ := h1.form (by
    intro e
    have h0 : (l.map (fun u => [u])).length = 0 := by rw [e]; rfl
    have := (List.getElem?_eq_some_iff.1 hu).1
    rw [List.length_map] at h0
    omega)
  rw [hv] at he
  simp only [Value.slice.injEq] at he
  exact ⟨g, u, he.1, hg, by have := hq k 0 [u] u (by simp [hu]) rfl; simpa using this, hR⟩
/-- One more behind a row. -/
theorem rowS_push {R R' : Value → List Int → Prop} {w : World} {B : Nat} {v : Value} {P : List (List Int)} (h : RowS R w B v P) (hB : B ≤ w.heap.size) {a : Option Addr} {n c : Nat} {d : List Int} (hl : P.length ≤ 100000)
    (hR : ∀ w' u e, Chg v.ownBlock.toList w w' → R u e → R' u e) (hd : ∀ w', Chg v.ownBlock.toList w w' → R' (.slice a n c) d) :
    ∃ v' w', (Builtin.append_ #[63, 63] 63 #[v, .slice (some ⟨w.heap.size, 0, none⟩) 1 1]).run Try.prog (w.alloc (.cells #[.slice a n c] 29)) = .ok v' w' ∧ RowS R' w' B v' (P ++ [d]) ∧ Chg v.ownBlock.toList w w' ∧ ∀ b, v'.ownBlock = some b → v.ownBlock = some b ∨ w.heap.size ≤ b := by
  obtain ⟨l, h1, h2⟩ := h
  obtain ⟨v', w', r1, r2, r3, r4⟩ := own_push elem29 63 h1 hB (x := [.slice a n c]) (c := 1) rfl (by intro u hu; simp at hu; subst hu; rfl) (by rw [List.length_map, h2.len]; omega)
  refine ⟨v', w', r1, ⟨l ++ [.slice a n c], by simpa using r2, (h2.mono (fun u e he => hR w' u e r3 he)).snoc (hd w' r3)⟩, r3, r4⟩

/-- What Pump sends: the first ones of those that wait, with numbers one behind the other. -/
theorem pumpF_spec {α : Type} (s now : Int) : ∀ (l : List α) (nx : Int) (air : List (Int × Int)), 0 ≤ nx → nx < 4294967296 → (air.length : Int) ≤ s → l.length ≤ 1000000 →
    ∃ m, m ≤ l.length ∧ (pumpF s now nx air l).1.length = m ∧ (∀ j x, j < m → l[j]? = some x → (pumpF s now nx air l).1[j]? = some (numK nx j, x)) ∧ (pumpF s now nx air l).2.1 = numK nx m ∧ (pumpF s now nx air l).2.2.2 = l.drop m ∧ ((pumpF s now nx air l).2.2.1.length : Int) ≤ s
  | [], nx, air, h0, h1, ha, _ => ⟨0, Nat.le_refl _, rfl, fun j x hj => by omega, by show nx = _; unfold numK; omega, rfl, ha⟩
  | v :: l, nx, air, h0, h1, ha, hl => by
    by_cases h : (air.length : Int) < s
    · rw [pumpF_go h]
      simp at hl
      obtain ⟨m, i1, i2, i3, i4, i5, i6⟩ := pumpF_spec s now l ((nx + 1) % 4294967296) (air ++ [(nx, now)]) (by omega) (by omega) (by simp; omega) (by omega)
      refine ⟨m + 1, by simp; omega, by simp [i2], fun j x hj hx => ?_, ?_, by simp [i5], i6⟩
      · cases j with
        | zero =>
          simp at hx
          subst hx
          have e : numK nx 0 = nx := by unfold numK; omega
          simp [e]
        | succ j =>
          have := i3 j x (by omega) (by simpa using hx)
          have e : numK ((nx + 1) % 4294967296) j = numK nx (j + 1) := by unfold numK; push_cast; omega
          rw [e] at this
          simpa using this
      · show (pumpF s now ((nx + 1) % 4294967296) (air ++ [(nx, now)]) l).2.1 = _
        rw [i4]
        unfold numK
        push_cast
        omega
    · rw [pumpF_full h]
      exact ⟨0, by omega, rfl, fun j x hj => by omega, by show nx = _; unfold numK; omega, rfl, ha⟩

/-- Behind k calls: P was pushed, n of them are sent. -/
structure OnceSt (first : Int) (p pr g : Nat) (k : Nat) (now : Int) (P : List (List Int)) (n : Nat) (v6 v7 : Value) (a : Snd (List Int)) (w wr : World) : Prop where
  ok : a.Ok
  nown : n ≤ P.length
  wait : P.drop n = a.wait
  nx : a.nx = numK first n
  airs : (a.air.length : Int) ≤ a.s
  lost : a.lost ≤ 16 * k
  now0 : -10 * (k : Int) ≤ now
  now1 : now ≤ 100 * k
  plen : P.length ≤ k
  data : ∀ d ∈ P, d.length ≤ 100
  row6 : RowS (BytS (· < w.heap.size) wr) wr w.heap.size v6 P
  row7 : RowS (Bytes wr) wr w.heap.size v7 (P.take n)
  sep : ∀ b, v6.ownBlock = some b → v7.ownBlock ≠ some b
  sep6 : v6.ownBlock ≠ some g
  sep7 : v7.ownBlock ≠ some g
  snd : ∃ va fr, SndIs wr w.heap.size p pr g va fr a
  chg : Chg [] w wr

theorem OnceSt.keep {first : Int} {p pr g k n : Nat} {now : Int} {P : List (List Int)} {v6 v7 : Value} {a : Snd (List Int)} {w wr w' : World} (h : OnceSt first p pr g k now P n v6 v7 a w wr) (c : Chg [] wr w') : OnceSt first p pr g k now P n v6 v7 a w w' := by
  obtain ⟨va, fr, hS⟩ := h.snd
  exact ⟨h.ok, h.nown, h.wait, h.nx, h.airs, h.lost, h.now0, h.now1, h.plen, h.data, h.row6.chg c (by simp) (fun u d hb => hb.chg c (by simp)), h.row7.chg c (by simp) (fun u d hb => hb.chg c (by simp)), h.sep, h.sep6, h.sep7, ⟨va, fr, hS.keep c⟩, h.chg.trans c⟩
theorem wit_up {s a mo : Int} (h : Win s a mo) : ∀ n, s ≤ (wit mo n (s, a)).1
  | 0 => Int.le_refl _
  | n + 1 => by
    have ih := wit_up h n
    have hw := h.it n
    unfold Win at hw
    show s ≤ (wst mo (wit mo n (s, a))).1
    unfold wst
    split
    · show s ≤ min _ mo; omega
    · exact ih
theorem ack_airs {α : Type} {x : Snd α} (ok : x.Ok) (h : (x.air.length : Int) ≤ x.s) (now seq : Int) : ((x.ack now seq).1.air.length : Int) ≤ (x.ack now seq).1.s := by
  unfold Snd.ack
  split
  · exact h
  · have := wit_up ok.win (cutZ (ackN seq x.nx x.air : Nat) 0 16).toNat
    show ((x.air.drop _).length : Int) ≤ (wit _ _ _).1
    rw [List.length_drop]
    omega
theorem late_airs {α : Type} {x : Snd α} (ok : x.Ok) (h : (x.air.length : Int) ≤ x.s) (now : Int) : ((x.late now).1.air.length : Int) ≤ (x.late now).1.s := by
  have hw := ok.win
  unfold Win at hw
  unfold Snd.late
  split
  · exact h
  · split
    · exact h
    · show ((0 : Nat) : Int) ≤ (x.s + 1) / 2
      omega
theorem ack_same {α : Type} (x : Snd α) (now seq : Int) : (x.ack now seq).1.wait = x.wait ∧ (x.ack now seq).1.nx = x.nx ∧ (x.ack now seq).1.lost = x.lost := by
  unfold Snd.ack; split <;> exact ⟨rfl, rfl, rfl⟩
theorem late_same {α : Type} (x : Snd α) (now : Int) : (x.late now).1.wait = x.wait ∧ (x.late now).1.nx = x.nx := by
  unfold Snd.late
  split
  · exact ⟨rfl, rfl⟩
  · split <;> exact ⟨rfl, rfl⟩

/-- Behind an ack, or when all is given up: P, n and the rows stay. -/
theorem OnceSt.step {first : Int} {p pr g k n fr : Nat} {now now' : Int} {P : List (List Int)} {v6 v7 va va' : Value} {a a' : Snd (List Int)} {w wr w' : World} (h : OnceSt first p pr g k now P n v6 v7 a w wr) (hS : SndIs wr w.heap.size p pr g va fr a)
    (hS' : SndIs w' w.heap.size p pr g va' fr a') (c : Chg (sndF p pr g va) wr w')
    (rows : RowS (BytS (· < w.heap.size) w') w' w.heap.size v6 P ∧ RowS (Bytes w') w' w.heap.size v7 (P.take n) ∧ Chg [] w w')
    (ok : a'.Ok) (hw : a'.wait = a.wait) (hn : a'.nx = a.nx) (ha : (a'.air.length : Int) ≤ a'.s) (hl : a'.lost ≤ a.lost + 16) (h0 : now - 10 ≤ now') (h1 : now' ≤ now + 100) : OnceSt first p pr g (k + 1) now' P n v6 v7 a' w w' := by
  have h2 := h.lost
  have h3 := h.now0
  have h4 := h.now1
  have h5 := h.plen
  exact ⟨ok, h.nown, h.wait.trans hw.symm, hn.trans h.nx, ha, by push_cast; omega, by push_cast; omega, by push_cast; omega, by omega, h.data, rows.1, rows.2.1, h.sep, h.sep6, h.sep7, ⟨va', fr, hS'⟩, rows.2.2⟩
theorem OnceSt.below {first : Int} {p pr g k n : Nat} {now : Int} {P : List (List Int)} {v6 v7 : Value} {a : Snd (List Int)} {w0 w wr : World} (h : OnceSt first p pr g k now P n v6 v7 a w wr) (c : Chg [] w0 w) : Below w0.heap.size w0 wr := (c.trans h.chg).below (Nat.le_refl _) (by simp)
/-- The rows and the old world behind a call of the sender. -/
theorem OnceSt.rows {first : Int} {p pr g k n fr : Nat} {now : Int} {P : List (List Int)} {v6 v7 va : Value} {a : Snd (List Int)} {w wr w' : World} (h : OnceSt first p pr g k now P n v6 v7 a w wr) (hS : SndIs wr w.heap.size p pr g va fr a) (c : Chg (sndF p pr g va) wr w') :
    RowS (BytS (· < w.heap.size) w') w' w.heap.size v6 P ∧ RowS (Bytes w') w' w.heap.size v7 (P.take n) ∧ Chg [] w w' := by
  obtain ⟨l, hA, _⟩ := hS
  have key : ∀ (R : Value → List Int → Prop) (v : Value) (Q : List (List Int)), RowS R wr w.heap.size v Q → v.ownBlock ≠ some g → ∀ b ∈ sndF p pr g va, v.ownBlock ≠ some b := by
    intro R v Q hr hg b hb e
    have ht := hr.isT e
    simp only [sndF, List.mem_cons] at hb
    rcases hb with rfl | rfl | rfl | hb
    · exact ht.ne hA.str.isT (by decide) rfl
    · exact ht.ne hA.ring.isT.1 (by decide) rfl
    · exact hg e
    · exact ht.ne (hA.air.isT (by simpa using hb)) (by decide) rfl
  refine ⟨h.row6.chg c (key _ _ _ h.row6 h.sep6) fun u d hb => hb.chg c fun b _ hs hm => ?_, h.row7.chg c (key _ _ _ h.row7 h.sep7) fun u d hb => hb.chg c hA.noB, h.chg.trans' c fun b hb => Or.inr (hA.kind b hb).1⟩
  have := (hA.kind b hm).1
  omega

/-- What is pushed counts: it is put behind the row of what was pushed. -/
theorem OnceSt.pushed {first : Int} {p pr g k n fr : Nat} {now now' : Int} {P : List (List Int)} {v6 v7 va : Value} {a : Snd (List Int)} {w wr w2 : World} {A : Option Addr} {bc : Nat} {d : List Int} (h : OnceSt first p pr g k now P n v6 v7 a w wr) (hk : k ≤ 1000) (hS : SndIs wr w.heap.size p pr g va fr a)
    (hS2 : SndIs w2 w.heap.size p pr g va fr (a.push d)) (c : Chg (sndF p pr g va) wr w2) (hlt : a.wait.length < 16) (hd : BytS (· < w.heap.size) w (.slice A d.length bc) d) (hdl : d.length ≤ 100) (h0 : now - 10 ≤ now') (h1 : now' ≤ now + 100) :
    ∃ v' w', (Builtin.append_ #[63, 63] 63 #[v6, .slice (some ⟨w2.heap.size, 0, none⟩) 1 1]).run Try.prog (w2.alloc (.cells #[.slice A d.length bc] 29)) = .ok v' w' ∧ OnceSt first p pr g (k + 1) now' (P ++ [d]) n v' v7 (a.push d) w w' := by
  obtain ⟨r6, r7, hc2⟩ := h.rows hS c
  have hpl := h.plen
  have hl6 : ∀ b ∈ v6.ownBlock.toList, w.heap.size ≤ b := fun b hb => (r6.lt b (by simpa using hb)).1
  have hd2 : ∀ w', Chg v6.ownBlock.toList w2 w' → BytS (· < w.heap.size) w' (.slice A d.length bc) d := fun w' c' => (hd.chg hc2 (by simp)).chg c' (fun b _ hs hm => by have := hl6 b hm; omega)
  obtain ⟨v', w', r, r6', cc, hob⟩ := rowS_push (R' := BytS (· < w.heap.size) w2) r6 hc2.size (a := A) (n := d.length) (c := bc) (d := d) (by omega) (fun _ _ _ _ h => h) (fun _ _ => hd.chg hc2 (by simp))
  refine ⟨v', w', r, ?_⟩
  have h2 := h.lost
  have h3 := h.now0
  have h4 := h.now1
  obtain ⟨l2, hA2, hl2⟩ := hS2
  have hn6 : ∀ b ∈ v6.ownBlock.toList, b ∉ sndF p pr g va := by
    intro b hb hm
    have e : v6.ownBlock = some b := by simpa using hb
    have ht := r6.isT e
    simp only [sndF, List.mem_cons] at hm
    rcases hm with rfl | rfl | rfl | hm
    · exact ht.ne hA2.str.isT (by decide) rfl
    · exact ht.ne hA2.ring.isT.1 (by decide) rfl
    · exact h.sep6 e
    · exact ht.ne (hA2.air.isT (by simpa using hm)) (by decide) rfl
  have hnb : ∀ b ∈ v6.ownBlock.toList, NoB w2 b := fun b hb => (r6.isT (by simpa using hb)).noB (by decide)
  have hpush : (a.push d).wait = a.wait ++ [d] ∧ (a.push d).nx = a.nx ∧ (a.push d).air = a.air ∧ (a.push d).s = a.s ∧ (a.push d).lost = a.lost := by
    unfold Snd.push; rw [if_pos hlt]; exact ⟨rfl, rfl, rfl, rfl, rfl⟩
  have hdrop : (P ++ [d]).drop n = P.drop n ++ [d] := List.drop_append_of_le_length h.nown
  have htake : (P ++ [d]).take n = P.take n := List.take_append_of_le_length h.nown
  have hno := h.nown
  refine ⟨Snd.push_ok h.ok d, by simp; omega, by rw [hdrop, h.wait, hpush.1], hpush.2.1.trans h.nx, by rw [hpush.2.2.1, hpush.2.2.2.1]; exact h.airs, by rw [hpush.2.2.2.2]; push_cast; omega, by push_cast; omega, by push_cast; omega, by simp; omega, fun x hx => ?_, r6'.chg (Chg.refl [] w') (by simp) (fun u e hb => hb.chg cc (fun b _ hs hm => by have := hl6 b hm; omega)), ?_, fun b hb e => ?_, fun e => ?_, h.sep7, ⟨va, fr, l2, hA2.chg cc hn6, hl2.mono fun _ _ hb => hb.chg cc hnb⟩, hc2.trans' cc (fun b hb => Or.inr (hl6 b hb))⟩
  · rcases List.mem_append.1 hx with hx | hx
    · exact h.data x hx
    · simp at hx; subst hx; exact hdl
  · rw [htake]
    exact r7.chg cc (fun b hb e => h.sep b (by simpa using hb) e) (fun u e hb => hb.chg cc hnb)
  · rcases hob b hb with h' | h'
    · exact h.sep b h' e
    · have := (r7.lt b e).2; omega
  · rcases hob g e with h' | h'
    · exact h.sep6 h'
    · have := hA2.ring.lt.2; omega
end Go.Proofs.Ytkmjpphmciaklaa
