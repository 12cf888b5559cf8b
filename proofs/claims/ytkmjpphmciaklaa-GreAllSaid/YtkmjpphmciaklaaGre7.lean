/- Two ends: a packet arrives. -/
import Derived.Test.YtkmjpphmciaklaaGre6
namespace Go.Proofs.Ytkmjpphmciaklaa
open Go.RowKit
set_option linter.unusedVariables false
set_option linter.unusedSimpArgs false
attribute [local go_sem ↓] Go.wp_at_zero Go.wp_at_succ

theorem SndIs.low {w : World} {B B' p pr g fr : Nat} {va : Value} {a : Snd (List Int)} (h : SndIs w B p pr g va fr a) (hB : B' ≤ B) : SndIs w B' p pr g va fr a := by
  obtain ⟨l, h1, h2⟩ := h
  exact ⟨l, ⟨h1.str, h1.air.mono hB, h1.ring, Nat.le_trans hB h1.hp, Nat.le_trans hB h1.hpr, Nat.le_trans hB h1.hg⟩, h2⟩
theorem EndOf.low {w : World} {B B' q : Nat} {F : List Nat} {E : End} (h : EndOf w B q F E) (hB : B' ≤ B) : EndOf w B' q F E := by
  obtain ⟨p, pr, g, va, fr, rp, m, hF, hA, hS, hR, h1, h2, h3⟩ := h
  exact ⟨p, pr, g, va, fr, rp, m, hF, hA, hS.low hB, hR, Nat.le_trans hB h1, Nat.le_trans hB h2, Nat.le_trans hB h3⟩
theorem RowT.at {w : World} {B : Nat} {a : Option Addr} {n c : Nat} {P : List (Tun (List Int))} (h : RowT (Bytes w) w B (.slice a n c) P) {k : Nat} {x : Tun (List Int)} (hk : P[k]? = some x) :
    ∃ g A m mc, a = some ⟨g, 0, none⟩ ∧ g < w.heap.size ∧ w.cell? ⟨g, k * 6, none⟩ = some (.int .u16 x.call) ∧ w.cell? ⟨g, k * 6 + 1, none⟩ = some (.bool x.hs) ∧ w.cell? ⟨g, k * 6 + 2, none⟩ = some (.int .u32 x.seq) ∧ w.cell? ⟨g, k * 6 + 3, none⟩ = some (.bool x.ha) ∧
      w.cell? ⟨g, k * 6 + 4, none⟩ = some (.int .u32 x.ack) ∧ w.cell? ⟨g, k * 6 + 5, none⟩ = some (.slice A m mc) ∧ Bytes w (.slice A m mc) x.d := by
  obtain ⟨l, h1, h2⟩ := h
  obtain ⟨t, ht, e1, e2, e3, e4, e5, e6⟩ := h2.at hk
  obtain ⟨A, m, mc, hd⟩ := e6.slice
  rw [hd] at e6
  have hm : (l.map tunC)[k]? = some [.int .u16 x.call, .bool x.hs, .int .u32 x.seq, .bool x.ha, .int .u32 x.ack, .slice A m mc] := by
    rw [List.getElem?_map, ht, ← e1, ← e2, ← e3, ← e4, ← e5, ← hd]; rfl
  obtain ⟨g, cap, he, _, hg, _, _, hq⟩ := h1.form (by
    intro e
    rw [e] at hm
    simp at hm)
  simp only [Value.slice.injEq] at he
  exact ⟨g, A, m, mc, he.1, hg, by simpa using hq k 0 _ _ hm rfl, hq k 1 _ _ hm rfl, hq k 2 _ _ hm rfl, hq k 3 _ _ hm rfl, hq k 4 _ _ hm rfl, hq k 5 _ _ hm rfl, e6⟩
/-- A row of packets goes behind another one. -/
theorem rowT_app {w : World} {B b' : Nat} {v : Value} {a : Option Addr} {n c : Nat} {P Q : List (Tun (List Int))} (h : RowT (Bytes w) w B v P) (k : RowT (Bytes w) w b' (.slice a n c) Q) (hB : B ≤ w.heap.size) (hl : P.length + Q.length ≤ 100000) :
    ∃ v' w', (Builtin.append_ #[78, 78] 78 #[v, .slice a n c]).run Try.prog w = .ok v' w' ∧ RowT (Bytes w') w' B v' (P ++ Q) ∧ Chg v.ownBlock.toList w w' ∧ ∀ b, v'.ownBlock = some b → v.ownBlock = some b ∨ w.heap.size ≤ b := by
  have hv := h
  obtain ⟨l, h1, h2⟩ := h
  obtain ⟨l', k1, k2⟩ := k
  have hn : l'.length = n := by
    obtain ⟨a0, c0, e⟩ := k1.slice
    simp only [Value.slice.injEq] at e
    rw [e.2.1, List.length_map]
  obtain ⟨v', w', r1, r2, r3, r4⟩ := own_app elem138 78 h1 hB (A := a) (m := n) (c := c) (news := l'.map tunC) (by rw [List.length_map, hn]) k1.1 (fun hp => by
    obtain ⟨g, e, hj⟩ := k1.cells rfl (by rw [List.length_map]; omega)
    exact ⟨g, 0, e, fun j u hu => by simpa using hj j u hu⟩) (by rw [List.length_map, h2.len, ← hn, k2.len]; omega)
  have hnb : ∀ b ∈ v.ownBlock.toList, NoB w b := fun b hb => (hv.isT (by simpa using hb)).noB (by decide)
  have hR : ∀ t u, TunIs (Bytes w) t u → TunIs (Bytes w') t u := fun t u => TunIs.mono (fun _ _ hb => hb.chg r3 hnb) t u
  have happ : ∀ {l m : List (Tun Value)} {P Q : List (Tun (List Int))}, RelV (TunIs (Bytes w')) l P → RelV (TunIs (Bytes w')) m Q → RelV (TunIs (Bytes w')) (l ++ m) (P ++ Q) := by
    intro l m P Q hl hm
    induction l generalizing P with
    | nil => cases P with
      | nil => exact hm
      | cons _ _ => exact hl.elim
    | cons x l ih => cases P with
      | nil => exact hl.elim
      | cons y P => exact ⟨hl.1, ih hl.2⟩
  exact ⟨v', w', r1, ⟨l ++ l', by simpa using r2, happ (h2.mono hR) (k2.mono hR)⟩, r3, r4⟩

section
variable {w w' : World} {B pp : Nat} {q : Nat → Nat} {F : Nat → List Nat} {wv : Nat → Value} {P : Pair}
theorem two_cases {i : Nat} (h : i < 2) : i = 0 ∨ i = 1 := by omega
theorem PairAt.end_to (h : PairAt w B pp q F wv P) {t : Nat} (ht : t < 2) {E' : End} (hm : Moved B (q t) (F t) E' w w') : ∃ F', PairAt w' B pp q F' wv { P with e := upd P.e t E' } ∧ Chg (F t) w w' := by
  obtain ⟨Ft, hE, hc, hsub⟩ := hm
  have hk := (h.e t ht).kind
  have hnb : ∀ b ∈ F t, NoB w b := fun b hb => (hk b hb).2.2.1
  have hs := hc.size
  have hlt : ∀ i, i < 2 → ∀ b ∈ F i, b < w.heap.size := fun i hi b hb => ((h.e i hi).kind b hb).2.1
  have hsep : ∀ i, i < 2 → i ≠ t → ∀ b ∈ F t, b ∉ F i := fun i hi hne b hb hm => by
    rcases two_cases hi with rfl | rfl <;> rcases two_cases ht with rfl | rfl
    · exact hne rfl
    · exact h.sep b hm hb
    · exact h.sep b hb hm
    · exact hne rfl
  refine ⟨upd F t Ft, ⟨h.str.chg hc (fun hm => (hk pp hm).2.2.2.2.2 h.str.isT), fun i hi => ?_, fun i hi => (h.way i hi).chg hc (fun b hb e => (hk b hb).2.2.2.2.1 ((h.way i hi).isT e)) (fun u d hd => hd.chg hc hnb), ?_, h.ww, h.hp⟩, hc⟩
  · by_cases hit : i = t
    · subst hit; rw [upd_at]
      show EndOf w' B (q i) Ft (upd P.e i E' i)
      rw [upd_at]; exact hE
    · rw [upd_ne _ hit]
      show EndOf w' B (q i) (F i) (upd P.e t E' i)
      rw [upd_ne _ hit]
      exact (h.e i hi).chg hc (hsep i hi hit) hnb
  · have key : ∀ i, i < 2 → i ≠ t → ∀ b ∈ Ft, b ∉ F i := fun i hi hne b hb hm => by
      rcases hsub b hb with h' | h'
      · exact hsep i hi hne b h' hm
      · have := hlt i hi b hm; omega
    rcases two_cases ht with rfl | rfl
    · rw [upd_at, upd_ne _ (by decide)]; exact key 1 (by decide) (by decide)
    · rw [upd_at, upd_ne _ (by decide)]; exact fun b hb hm => key 0 (by decide) (by decide) b hm hb
theorem PairAt.way_to (h : PairAt w B pp q F wv P) {f : Nat} (hf : f < 2) {v' : Value} {l' : List (Tun (List Int))} (c : Chg (wv f).ownBlock.toList w w') (hr : RowT (Bytes w') w' B v' l') (hob : ∀ b, v'.ownBlock = some b → (wv f).ownBlock = some b ∨ w.heap.size ≤ b) :
    PairAt (w'.setCell ⟨pp, 2 + f, none⟩ v') B pp q F (upd wv f v') { P with way := upd P.way f l' } := by
  have ht : ∀ b ∈ (wv f).ownBlock.toList, IsT w b 138 := fun b hb => (h.way f hf).isT (by simpa using hb)
  have hnb : ∀ b ∈ (wv f).ownBlock.toList, NoB w b := fun b hb => (ht b hb).noB (by decide)
  have hs1 := h.str.chg c (fun hm => (ht pp hm).ne h.str.isT (by decide) rfl)
  have hc2 : Chg [pp] w' (w'.setCell ⟨pp, 2 + f, none⟩ v') := (Chg.refl _ _).set (by simp) _
  have hpb : NoB w' pp := hs1.noB (by decide)
  have hpb' : ∀ b ∈ [pp], NoB w' b := by simpa using hpb
  have hsep : ∀ i, i < 2 → i ≠ f → ∀ b, (wv f).ownBlock = some b → (wv i).ownBlock ≠ some b := fun i hi hne b hb hm => by
    rcases two_cases hi with rfl | rfl <;> rcases two_cases hf with rfl | rfl
    · exact hne rfl
    · exact h.ww b hm hb
    · exact h.ww b hb hm
    · exact hne rfl
  refine ⟨?_, fun i hi => ((h.e i hi).chg c (fun b hb hm => ((h.e i hi).kind b hm).2.2.2.2.1 (ht b hb)) hnb).chg hc2 (fun b hb hm => ?_) hpb', fun i hi => ?_, h.sep, ?_, h.hp⟩
  · have h2 := hs1.set (2 + f) v'
    rcases two_cases hf with rfl | rfl
    · simpa [upd] using h2
    · simpa [upd] using h2
  · simp at hb
    subst hb
    exact ((h.e i hi).kind _ hm).2.2.2.2.2 h.str.isT
  · by_cases hif : i = f
    · subst hif
      rw [upd_at]
      show RowT _ _ B v' (upd P.way i l' i)
      rw [upd_at]
      exact hr.chg hc2 (fun b hb e => by simp at hb; subst hb; exact (hr.isT e).ne hs1.isT (by decide) rfl) (fun u d hd => hd.chg hc2 hpb')
    · rw [upd_ne _ hif]
      show RowT _ _ B (wv i) (upd P.way f l' i)
      rw [upd_ne _ hif]
      have h1 : RowT (Bytes w') w' B (wv i) (P.way i) := (h.way i hi).chg c (fun b hb e => hsep i hi hif b (by simpa using hb) e) (fun u d hd => hd.chg c hnb)
      exact h1.chg hc2 (fun b hb e => by simp at hb; subst hb; exact (h1.isT e).ne hs1.isT (by decide) rfl) (fun u d hd => hd.chg hc2 hpb')
  · have key : ∀ i, i < 2 → i ≠ f → ∀ b, v'.ownBlock = some b → (wv i).ownBlock ≠ some b := fun i hi hne b hb hm => by
      rcases hob b hb with h' | h'
      · exact hsep i hi hne b h' hm
      · have := ((h.way i hi).lt b hm).2; omega
    rcases two_cases hf with rfl | rfl
    · rw [upd_at, upd_ne _ (by decide)]; exact key 1 (by decide) (by decide)
    · rw [upd_at, upd_ne _ (by decide)]; exact fun b hb hm => key 0 (by decide) (by decide) b hm hb
end
end Go.Proofs.Ytkmjpphmciaklaa
