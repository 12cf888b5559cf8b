/- An end of a call: New, what is handed on, what is sent with acks. -/
import Derived.Test.YtkmjpphmciaklaaJ20
namespace Go.Proofs.Ytkmjpphmciaklaa
open Go.RowKit
set_option linter.unusedVariables false
set_option linter.unusedSimpArgs false
attribute [local go_sem ↓] Go.wp_at_zero Go.wp_at_succ

theorem SeqT.chg2 {F : List Nat} {w w' : World} {v : Value} {out : List (Int × List Int)} (h : SeqT w v out) (c : Chg F w w') (hF : ∀ x ∈ F, ¬ IsT w x 31 ∧ NoB w x) : SeqT w' v out := by
  obtain ⟨a, n, hv, hk⟩ := h
  refine ⟨a, n, hv, fun k hl => ?_⟩
  obtain ⟨g, d, h1, ht, h2, h3, h4⟩ := hk k hl
  have hb := World.block_lt_of_cell? w _ h2
  have hg : g ∉ F := fun hm => (hF g hm).1 ht
  obtain ⟨cs, fz, e⟩ := ht
  exact ⟨g, d, h1, ⟨cs, fz, (c.block g hb hg).trans e⟩, (c.cell (p := ⟨g, k * 2, none⟩) hb hg).trans h2, (c.cell (p := ⟨g, k * 2 + 1, none⟩) hb hg).trans h3, h4.chg c (fun b hb => (hF b hb).2)⟩
theorem SeqT.keep {w w' : World} {v : Value} {out : List (Int × List Int)} (h : SeqT w v out) (c : Chg [] w w') : SeqT w' v out := h.chg2 c (by simp)
theorem SeqT.nil (w : World) : SeqT w (.slice none 0 0) [] := ⟨none, 0, rfl, fun k hk => by simp at hk⟩
theorem SeqT.slice {w : World} {v : Value} {out : List (Int × List Int)} (h : SeqT w v out) : ∃ a c, v = .slice a out.length c := by
  obtain ⟨a, c, hv, _⟩ := h; exact ⟨a, c, hv⟩
theorem SeqT.at {w : World} {a : Option Addr} {n c : Nat} {out : List (Int × List Int)} (h : SeqT w (.slice a n c) out) {k : Nat} (hk : k < out.length) :
    ∃ g A m mc, a = some ⟨g, 0, none⟩ ∧ g < w.heap.size ∧ w.cell? ⟨g, k * 2, none⟩ = some (.int .u32 (out[k]'hk).1) ∧ w.cell? ⟨g, k * 2 + 1, none⟩ = some (.slice A m mc) ∧ Bytes w (.slice A m mc) (out[k]'hk).2 := by
  obtain ⟨a', c', hv, hat⟩ := h
  simp only [Value.slice.injEq] at hv
  obtain ⟨g, d, e, ht, h1, h2, h3⟩ := hat k hk
  obtain ⟨A, m, mc, rfl⟩ := h3.slice
  exact ⟨g, A, m, mc, hv.1.trans e, World.block_lt_of_cell? w _ h1, h1, h2, h3⟩
theorem RowT.nil (R : Value → List Int → Prop) (w : World) (B : Nat) : RowT R w B (.slice none 0 0) [] := ⟨[], Own.nil _ _ _ _, trivial⟩
theorem RowT.slice {R : Value → List Int → Prop} {w : World} {B : Nat} {v : Value} {P : List (Tun (List Int))} (h : RowT R w B v P) : ∃ a c, v = .slice a P.length c := by
  obtain ⟨l, h1, h2⟩ := h
  obtain ⟨a, c, rfl⟩ := h1.slice
  exact ⟨a, c, by rw [List.length_map, h2.len]⟩
theorem RowT.lt {R : Value → List Int → Prop} {w : World} {B : Nat} {v : Value} {P : List (Tun (List Int))} (h : RowT R w B v P) : ∀ b, v.ownBlock = some b → B ≤ b ∧ b < w.heap.size := by
  obtain ⟨l, h1, _⟩ := h
  exact h1.lt
theorem RowT.isT {R : Value → List Int → Prop} {w : World} {B : Nat} {v : Value} {P : List (Tun (List Int))} (h : RowT R w B v P) {b : Nat} (hb : v.ownBlock = some b) : IsT w b 138 := by
  obtain ⟨l, h1, _⟩ := h
  exact h1.isT hb
theorem TunIs.mono {R R' : Value → List Int → Prop} (h : ∀ u d, R u d → R' u d) (t : Tun Value) (u : Tun (List Int)) (k : TunIs R t u) : TunIs R' t u := ⟨k.1, k.2.1, k.2.2.1, k.2.2.2.1, k.2.2.2.2.1, h _ _ k.2.2.2.2.2⟩
theorem RowT.chg {R R' : Value → List Int → Prop} {F : List Nat} {w w' : World} {B : Nat} {v : Value} {P : List (Tun (List Int))} (h : RowT R w B v P) (c : Chg F w w') (hF : ∀ b ∈ F, v.ownBlock ≠ some b) (hR : ∀ u d, R u d → R' u d) : RowT R' w' B v P := by
  obtain ⟨l, h1, h2⟩ := h
  exact ⟨l, h1.chg c hF, h2.mono (TunIs.mono hR)⟩
theorem RowT.keep {w w' : World} {B : Nat} {v : Value} {P : List (Tun (List Int))} (h : RowT (Bytes w) w B v P) (c : Chg [] w w') : RowT (Bytes w') w' B v P := h.chg c (by simp) (fun u d hb => hb.chg c (by simp))
/-- One more behind a row of packets. -/
theorem rowT_push {R R' : Value → List Int → Prop} {w : World} {B : Nat} {v : Value} {P : List (Tun (List Int))} (h : RowT R w B v P) (hB : B ≤ w.heap.size) (call : Int) (hs : Bool) (seq : Int) (ha : Bool) (ak : Int) {a : Option Addr} {n c : Nat} {d : List Int} (hl : P.length ≤ 100000)
    (hR : ∀ w' u e, Chg v.ownBlock.toList w w' → R u e → R' u e) (hd : ∀ w', Chg v.ownBlock.toList w w' → R' (.slice a n c) d) :
    ∃ v' w', (Builtin.append_ #[78, 78] 78 #[v, .slice (some ⟨w.heap.size, 0, none⟩) 1 1]).run Try.prog (w.alloc (.cells #[.int .u16 call, .bool hs, .int .u32 seq, .bool ha, .int .u32 ak, .slice a n c] 138)) = .ok v' w' ∧
      RowT R' w' B v' (P ++ [⟨call, hs, seq, ha, ak, d⟩]) ∧ Chg v.ownBlock.toList w w' ∧ ∀ b, v'.ownBlock = some b → v.ownBlock = some b ∨ w.heap.size ≤ b := by
  obtain ⟨l, h1, h2⟩ := h
  obtain ⟨v', w', r1, r2, r3, r4⟩ := own_push elem138 78 h1 hB (x := [.int .u16 call, .bool hs, .int .u32 seq, .bool ha, .int .u32 ak, .slice a n c]) (c := 1) rfl (by intro u hu; simp at hu; rcases hu with rfl | rfl | rfl | rfl | rfl | rfl <;> rfl) (by rw [List.length_map, h2.len]; omega)
  refine ⟨v', w', r1, ⟨l ++ [⟨call, hs, seq, ha, ak, .slice a n c⟩], by simpa [tunC] using r2, (h2.mono (TunIs.mono (fun u e he => hR w' u e r3 he))).snoc ⟨rfl, rfl, rfl, rfl, rfl, hd w' r3⟩⟩, r3, r4⟩

def DataPost (out : List (Int × List Int)) (w : World) (e : Ending) (w' : World) : Prop := ∃ o, e = .returned o ∧ RowS (Bytes w') w' w.heap.size o (out.map (·.2)) ∧ Chg [] w w'
set_option maxRecDepth 100000 in
set_option maxHeartbeats 1000000 in
theorem data_any (w : World) (v : Value) (out : List (Int × List Int)) (h : SeqT w v out) (hl : out.length ≤ 10000) : Calls Try.prog 94 #[v] w (DataPost out w) := by
  have H := Lib.hid h
  obtain ⟨a, c, rfl⟩ := h.slice
  clear h
  go_enter Try.func94, Try.ntmps94
  go_wp2_with fail
  go_loopg [3, 8] out.length (fun q s3 s8 wr => ∃ i, q = out.length - i ∧ i ≤ out.length ∧ s8 = .int .i64 i ∧ RowS (Bytes wr) wr w.heap.size s3 ((out.map (·.2)).take i) ∧ SeqT wr (.slice a out.length c) out ∧ Chg [] w wr)
  case atStart => exact ⟨0, rfl, by omega, rfl, RowS.nil _ _ _, H.out, Chg.refl _ _⟩
  case round =>
    obtain ⟨w9, hw9⟩ : ∃ w9, w9 = wr := ⟨_, rfl⟩
    subst hw9
    obtain ⟨i, rfl, hi, rfl, hrow, hseq, hch⟩ := hrel
    by_cases hil : i < out.length
    · obtain ⟨g, A, m, mc, rfl, hg, e0, e1, hb⟩ := hseq.at hil
      have HR := Lib.hid hrow
      have HS := Lib.hid hseq
      have HC := Lib.hid hch
      have HB := Lib.hid hb
      have hi0 : (0 : Int) ≤ (i : Int) := by omega
      have hi1 : (i : Int) < (out.length : Int) := by omega
      clear hrow hseq hch hb
      go_upto_region 5 with (fail)
      obtain ⟨wy, hwy⟩ : ∃ wy, wy = w9.alloc (.cells #[.int .u32 (out[i]'hil).1, .slice A m mc] 31) := ⟨_, rfl⟩
      have hcy : Chg [] w9 wy := by rw [hwy]; exact (Chg.refl _ _).alloc _
      have hAy : At wy w9.heap.size 31 [.int .u32 (out[i]'hil).1, .slice A m mc] := by rw [hwy]; exact At.new w9 31 [_, _]
      rw [← hwy]
      have hrow := (HR.out.chg hcy (by simp) (fun u d hb => hb.chg hcy (by simp)) : RowS (Bytes wy) wy w.heap.size u3 ((out.map (·.2)).take i))
      have hby := HB.out.chg hcy (by simp)
      have hszy : w.heap.size ≤ wy.heap.size := Nat.le_trans HC.out.size hcy.size
      have hnb : ∀ b ∈ u3.ownBlock.toList, NoB wy b := fun b hb => (hrow.isT (by simpa using hb)).noB (by decide)
      have hl3 : ∀ b ∈ u3.ownBlock.toList, w.heap.size ≤ b := fun b hb => (hrow.lt b (by simpa using hb)).1
      have h31 : ∀ b ∈ u3.ownBlock.toList, ¬ IsT wy b 31 := fun b hb hT => (hrow.isT (by simpa using hb)).ne hT (by decide) rfl
      obtain ⟨v', w', happ, hrow', hcc, hob⟩ := rowS_push (R' := Bytes wy) hrow hszy (a := A) (n := m) (c := mc) (d := (out[i]'hil).2) (by rw [List.length_take]; omega) (fun _ _ _ _ h => h) (fun _ _ => hby)
      have htk : (out.map (·.2)).take (i + 1) = (out.map (·.2)).take i ++ [(out[i]'hil).2] := by
        rw [List.take_add_one, List.getElem?_map, List.getElem?_eq_getElem hil]; rfl
      have hfin : RowS (Bytes w') w' w.heap.size v' ((out.map (·.2)).take (i + 1)) ∧ SeqT w' (.slice (some ⟨g, 0, none⟩) out.length c) out ∧ Chg [] w w' := by
        rw [htk]
        exact ⟨hrow'.chg (Chg.refl [] w') (by simp) (fun u e hb => hb.chg hcc hnb), (HS.out.keep hcy).chg2 hcc (fun x hx => ⟨h31 x hx, hnb x hx⟩), (HC.out.trans hcy).trans' hcc (fun x hx => Or.inr (hl3 x hx))⟩
      have HF := Lib.hid hfin
      obtain ⟨y0, y1, _⟩ := hAy.two
      clear hwy hcy hrow hby hnb hl3 h31 hrow' hcc hob htk hfin e0 e1
      go_wp2_with (at_builtin; refine wpList_app_eq rfl _ _ 63 rfl rfl rfl happ ?_)
      clear happ
      go_roundg (out.length - (i + 1))
      case measure => omega
      case rel => exact ⟨i + 1, rfl, by omega, rfl, HF.out⟩
    · obtain rfl : i = out.length := by omega
      have hfin : RowS (Bytes w9) w9 w.heap.size u3 (out.map (·.2)) := by
        rw [List.take_of_length_le (by simp)] at hrow; exact hrow
      have HF := Lib.hid hfin
      have HC := Lib.hid hch
      clear hrow hseq hch hfin
      go_wp2_with fail
      go_ret
      exact ⟨_, rfl, HF.out, HC.out⟩

/-- What goes out for a packet that is sent. -/
def End.tun {α : Type} (E : End) (p : Int × α) : Tun α := E.ack ⟨E.call, true, p.1, false, 0, p.2⟩
theorem End.paid_r (E : End) : E.paid.r = E.r ∧ E.paid.call = E.call ∧ E.paid.s = E.s ∧ E.paid.since = E.since ∧ E.paid.paid = E.paid := by
  unfold End.paid
  by_cases hz : E.r.nx = 0
  · rw [if_pos hz]; exact ⟨rfl, rfl, rfl, rfl, if_pos hz⟩
  · rw [if_neg hz]; exact ⟨rfl, rfl, rfl, rfl, if_neg hz⟩
def End.paidN (E : End) (i : Nat) : End := if i = 0 then E else E.paid
theorem End.paidN_r (E : End) (i : Nat) : (E.paidN i).r = E.r ∧ (E.paidN i).call = E.call ∧ (E.paidN i).paid = E.paidN (i + 1) := by
  have h := E.paid_r
  unfold End.paidN
  cases i with
  | zero => exact ⟨rfl, rfl, rfl⟩
  | succ i => exact ⟨h.1, h.2.1, h.2.2.2.2⟩
theorem End.ack_r {α : Type} {E E' : End} (h : E'.r = E.r) (t : Tun α) : E'.ack t = E.ack t := by unfold End.ack; rw [h]
def PackPost (B q : Nat) (F : List Nat) (E : End) (out : List (Int × List Int)) (w : World) (e : Ending) (w' : World) : Prop :=
  ∃ o, e = .returned o ∧ RowT (Bytes w') w' w.heap.size o (out.map E.tun) ∧ EndOf w' B q F (E.paidN out.length) ∧ Chg [q] w w'
theorem EndOf.call_at {w : World} {B q : Nat} {F : List Nat} {E : End} (h : EndOf w B q F E) : w.cell? ⟨q, 0, none⟩ = some (.int .u16 E.call) := by
  obtain ⟨p, pr, g, va, fr, rp, m, hF, hA, _⟩ := h; exact hA.five.1
theorem EndOf.isT {w : World} {B q : Nat} {F : List Nat} {E : End} (h : EndOf w B q F E) : IsT w q 129 := by
  obtain ⟨p, pr, g, va, fr, rp, m, hF, hA, _⟩ := h; exact hA.isT
theorem pack_step {w wy w3 : World} {B q i : Nat} {F : List Nat} {E : End} {v u : Value} {out : List (Int × List Int)} {aa : Option Addr} {m mc : Nat} {ha : Bool} {ak : Int} (hil : i < out.length) (hl : out.length ≤ 10000) (hB : B ≤ w.heap.size)
    (hrow : RowT (Bytes wy) wy w.heap.size u ((out.map E.tun).take i)) (hseq : SeqT wy v out) (hch : Chg [q] w wy) (hb : Bytes wy (.slice aa m mc) (out[i]'hil).2) (hE : EndOf wy B q F (E.paidN i))
    (hack : (E.paidN i).ack ⟨E.call, true, (out[i]'hil).1, false, 0, Value.slice aa m mc⟩ = ⟨E.call, true, (out[i]'hil).1, ha, ak, Value.slice aa m mc⟩) (hE3 : EndOf w3 B q F (E.paidN i).paid) (hc3 : Chg [q] wy.drew w3) :
    ∃ v' w4, (Builtin.append_ #[78, 78] 78 #[u, .slice (some ⟨w3.heap.size, 0, none⟩) 1 1]).run Try.prog (w3.alloc (.cells #[.int .u16 E.call, .bool true, .int .u32 (out[i]'hil).1, .bool ha, .int .u32 ak, .slice aa m mc] 138)) = .ok v' w4 ∧
      RowT (Bytes w4) w4 w.heap.size v' ((out.map E.tun).take (i + 1)) ∧ SeqT w4 v out ∧ EndOf w4 B q F (E.paidN (i + 1)) ∧ Chg [q] w w4 := by
  obtain ⟨k1, k2, k3⟩ := E.paidN_r i
  have hc3' : Chg [q] wy w3 := ⟨hc3.os, hc3.tape, hc3.output, hc3.size, hc3.block⟩
  have hqk := hE.kind q hE.q_mem
  have hqB : ∀ b ∈ [q], NoB wy b := by simpa using hqk.2.2.1
  have hrow3 : RowT (Bytes w3) w3 w.heap.size u ((out.map E.tun).take i) := hrow.chg hc3' (by
    intro b hb e
    simp at hb
    subst hb
    exact hqk.2.2.2.2.1 (hrow.isT e)) (fun _ _ hb => hb.chg hc3' hqB)
  have hseq3 : SeqT w3 v out := hseq.chg2 hc3' (by simpa using ⟨hqk.2.2.2.1, hqk.2.2.1⟩)
  have hb3 := hb.chg hc3' hqB
  have hch3 : Chg [q] w w3 := hch.trans hc3'
  obtain ⟨v', w4, happ, hr4, hcc, hob⟩ := rowT_push (R' := Bytes w3) hrow3 hch3.size E.call true (out[i]'hil).1 ha ak (a := aa) (n := m) (c := mc) (d := (out[i]'hil).2) (by rw [List.length_take]; omega) (fun _ _ _ _ h => h) (fun _ _ => hb3)
  refine ⟨v', w4, happ, ?_⟩
  have ht : ∀ b ∈ u.ownBlock.toList, IsT w3 b 138 := fun b hb => hrow3.isT (by simpa using hb)
  have hnb : ∀ b ∈ u.ownBlock.toList, NoB w3 b := fun b hb => (ht b hb).noB (by decide)
  have hl3 : ∀ b ∈ u.ownBlock.toList, w.heap.size ≤ b := fun b hb => (hrow3.lt b (by simpa using hb)).1
  have htk : (out.map E.tun).take (i + 1) = (out.map E.tun).take i ++ [⟨E.call, true, (out[i]'hil).1, ha, ak, (out[i]'hil).2⟩] := by
    rw [List.take_add_one, List.getElem?_map, List.getElem?_eq_getElem hil]
    have e : E.tun (out[i]'hil) = (⟨E.call, true, (out[i]'hil).1, ha, ak, (out[i]'hil).2⟩ : Tun (List Int)) := by
      rw [End.ack_r k1] at hack
      unfold End.tun
      unfold End.ack at hack ⊢
      by_cases hz : E.r.nx = 0
      · rw [if_pos hz] at hack ⊢
        simp only [Tun.mk.injEq] at hack ⊢
        exact ⟨trivial, trivial, trivial, hack.2.2.2.1, hack.2.2.2.2.1, trivial⟩
      · rw [if_neg hz] at hack ⊢
        simp only [Tun.mk.injEq] at hack ⊢
        exact ⟨trivial, trivial, trivial, hack.2.2.2.1, hack.2.2.2.2.1, trivial⟩
    rw [Option.map_some, e]; rfl
  rw [htk, ← k3]
  exact ⟨hr4.chg (Chg.refl [] w4) (by simp) (fun u e hb => hb.chg hcc hnb), hseq3.chg2 hcc (fun x hx => ⟨fun hT => (ht x hx).ne hT (by decide) rfl, hnb x hx⟩),
    hE3.chg hcc (fun b hb hm => (hE3.kind b hm).2.2.2.2.1 (ht b hb)) hnb, hch3.trans' hcc (fun b hb => Or.inr (hl3 b hb))⟩
set_option maxRecDepth 100000 in
set_option maxHeartbeats 2000000 in
theorem pack_any (w : World) (B q : Nat) (F : List Nat) (E : End) (v : Value) (out : List (Int × List Int)) (hE : EndOf w B q F E) (h : SeqT w v out) (hl : out.length ≤ 10000) (hB : B ≤ w.heap.size) (h0 : 0 ≤ E.r.nx) (h1 : E.r.nx < 4294967296) :
    Calls Try.prog 92 #[.pointer (some ⟨q, 0, none⟩), v] w (PackPost B q F E out w) := by
  have H := Lib.hid h
  have HE := Lib.hid hE
  obtain ⟨a, c, rfl⟩ := h.slice
  clear h hE
  go_enter Try.func92, Try.ntmps92
  go_wp2_with fail
  go_loopg [5, 10] out.length (fun q' s5 s10 wr => ∃ i, q' = out.length - i ∧ i ≤ out.length ∧ s10 = .int .i64 i ∧ RowT (Bytes wr) wr w.heap.size s5 ((out.map E.tun).take i) ∧ SeqT wr (.slice a out.length c) out ∧ EndOf wr B q F (E.paidN i) ∧ Chg [q] w wr)
  case atStart => exact ⟨0, rfl, by omega, rfl, RowT.nil _ _ _, H.out, HE.out, Chg.refl _ _⟩
  case round =>
    obtain ⟨w9, hw9⟩ : ∃ w9, w9 = wr := ⟨_, rfl⟩
    subst hw9
    obtain ⟨i, rfl, hi, rfl, hrow, hseq, hend, hch⟩ := hrel
    by_cases hil : i < out.length
    · obtain ⟨g, A, m, mc, rfl, hg, e0, e1, hb⟩ := hseq.at hil
      have HR := Lib.hid hrow
      have HS := Lib.hid hseq
      have HC := Lib.hid hch
      have HB := Lib.hid hb
      have HN := Lib.hid hend
      have hi0 : (0 : Int) ≤ (i : Int) := by omega
      have hi1 : (i : Int) < (out.length : Int) := by omega
      clear hrow hseq hch hb hend
      go_upto_region 5 with (fail)
      obtain ⟨wy, hwy⟩ : ∃ wy, wy = w9.alloc (.cells #[.int .u32 (out[i]'hil).1, .slice A m mc] 31) := ⟨_, rfl⟩
      have hcy : Chg [] w9 wy := by rw [hwy]; exact (Chg.refl _ _).alloc _
      have hAy : At wy w9.heap.size 31 [.int .u32 (out[i]'hil).1, .slice A m mc] := by rw [hwy]; exact At.new w9 31 [_, _]
      obtain ⟨g9, hg9⟩ : ∃ g9, g9 = w9.heap.size := ⟨_, rfl⟩
      rw [← hg9] at hAy
      rw [← hwy, ← hg9]
      have hEy := HN.out.keep hcy
      have hRy := HR.out.keep hcy
      have hSy := HS.out.keep hcy
      have hBy := HB.out.chg hcy (by simp)
      have hCy := HC.out.trans' hcy (by simp)
      obtain ⟨k1, k2, k3⟩ := E.paidN_r i
      have hgq : q ≠ g9 := hEy.isT.ne hAy.isT (by decide)
      have hszy : w.heap.size ≤ wy.heap.size := hCy.size
      have hcall : wy.drew.cell? ⟨q, 0, none⟩ = some (.int .u16 E.call) := by have h := hEy.call_at; rw [k2] at h; exact h
      have CT := Lib.hid (ack_end wy.drew B q F (E.paidN i) E.call true (out[i]'hil).1 false 0 A m mc (hEy.keep (Chg.refl [] wy).drew) (by rw [k1]; exact h0) (by rw [k1]; exact h1))
      obtain ⟨y0, y1, _⟩ := hAy.drew.two
      have HAY := Lib.hid hAy
      have HRY := Lib.hid hRy
      have HSY := Lib.hid hSy
      have HBY := Lib.hid hBy
      have HCY := Lib.hid hCy
      have HK := Lib.hid (And.intro k1 (And.intro k2 k3))
      have HHS := Lib.hid hszy
      have HEY := Lib.hid hEy
      clear hwy hcy hAy hEy hRy hSy hBy hCy hg9 k1 k2 k3 e0 e1 hszy
      refine wp_region_phase 13 (fun w' => w'.cell? ⟨q, 0, none⟩ = some (.int .u16 E.call) ∧ w'.cell? ⟨g9, 0, none⟩ = some (.int .u32 (out[i]'hil).1) ∧ w'.cell? ⟨g9, 1, none⟩ = some (.slice A m mc)) (by kernel_rfl) ?_
      refine wpAnyP_with (by exact ⟨hcall, y0, y1⟩) (fun hSw => ?_)
      refine wpAnyP_take 0 [] (v := ?_) rfl (by kernel_rfl) (fun _ _ _ h => h) (by assumption) (Or.inl ⟨by rfl, ?_⟩) ?_
      rotate_left
      · (intro w hSw; (try dsimp only at hSw); obtain ⟨s0, s1, s2⟩ := hSw; go_simp; try with_reducible rfl)
      simp only [List.getElem_toArray, List.getElem_cons_succ, List.getElem_cons_zero, Act.put, List.setIfInBounds_toArray, List.set_cons_zero, List.set_cons_succ]
      refine wpAnyP_take 1 [11] (v := ?_) rfl (by kernel_rfl) (fun _ _ _ h => h) (by assumption) (Or.inl ⟨by rfl, ?_⟩) ?_
      rotate_left
      · (intro w hSw; (try dsimp only at hSw); obtain ⟨s0, s1, s2⟩ := hSw; go_simp; try with_reducible rfl)
      simp only [List.getElem_toArray, List.getElem_cons_succ, List.getElem_cons_zero, Act.put, List.setIfInBounds_toArray, List.set_cons_zero, List.set_cons_succ]
      refine wpAnyP_take 2 [11, 10, 5, 4, 3] (v := ?_) rfl (by kernel_rfl) (fun _ _ _ h => h) (by assumption) (Or.inl ⟨by rfl, ?_⟩) ?_
      rotate_left
      · (intro w hSw; (try dsimp only at hSw); obtain ⟨s0, s1, s2⟩ := hSw; go_simp; try with_reducible rfl)
      simp only [List.getElem_toArray, List.getElem_cons_succ, List.getElem_cons_zero, Act.put, List.setIfInBounds_toArray, List.set_cons_zero, List.set_cons_succ]
      refine wpAnyP_take 3 [11, 10, 5, 4] (v := ?_) rfl (by kernel_rfl) (fun _ _ _ h => h) (by assumption) (Or.inl ⟨by rfl, ?_⟩) ?_
      rotate_left
      · (intro w hSw; (try dsimp only at hSw); obtain ⟨s0, s1, s2⟩ := hSw; go_simp; try with_reducible rfl)
      simp only [List.getElem_toArray, List.getElem_cons_succ, List.getElem_cons_zero, Act.put, List.setIfInBounds_toArray, List.set_cons_zero, List.set_cons_succ]
      refine wpAnyP_take 4 [11, 10, 5] (v := ?_) rfl (by kernel_rfl) (fun _ _ _ h => h) (by assumption) (Or.inl ⟨by rfl, ?_⟩) ?_
      rotate_left
      · (intro w hSw; (try dsimp only at hSw); obtain ⟨s0, s1, s2⟩ := hSw; go_simp; try with_reducible rfl)
      simp only [List.getElem_toArray, List.getElem_cons_succ, List.getElem_cons_zero, Act.put, List.setIfInBounds_toArray, List.set_cons_zero, List.set_cons_succ]
      refine wpAnyP_take 5 [11, 10] (v := ?_) rfl (by kernel_rfl) (fun _ _ _ h => h) (by assumption) (Or.inl ⟨by rfl, ?_⟩) ?_
      rotate_left
      · (intro w hSw; (try dsimp only at hSw); obtain ⟨s0, s1, s2⟩ := hSw; go_simp; try with_reducible rfl)
      simp only [List.getElem_toArray, List.getElem_cons_succ, List.getElem_cons_zero, Act.put, List.setIfInBounds_toArray, List.set_cons_zero, List.set_cons_succ]
      refine wpAnyP_take 6 [11, 10, 7] (v := ?_) rfl (by kernel_rfl) (fun _ _ _ h => h) (by assumption) (Or.inl ⟨by rfl, ?_⟩) ?_
      rotate_left
      · (intro w hSw; (try dsimp only at hSw); obtain ⟨s0, s1, s2⟩ := hSw; go_simp; try with_reducible rfl)
      simp only [List.getElem_toArray, List.getElem_cons_succ, List.getElem_cons_zero, Act.put, List.setIfInBounds_toArray, List.set_cons_zero, List.set_cons_succ]
      refine wpAnyP_take 7 [11, 10] (v := ?_) rfl (by kernel_rfl) (fun _ _ _ h => h) (by assumption) (Or.inl ⟨by rfl, ?_⟩) ?_
      rotate_left
      · (intro w hSw; (try dsimp only at hSw); obtain ⟨s0, s1, s2⟩ := hSw; go_simp; try with_reducible rfl)
      simp only [List.getElem_toArray, List.getElem_cons_succ, List.getElem_cons_zero, Act.put, List.setIfInBounds_toArray, List.set_cons_zero, List.set_cons_succ]
      refine wpAnyP_take 8 [11, 10, 9] (v := ?_) rfl (by kernel_rfl) (fun _ _ _ h => h) (by assumption) (Or.inl ⟨by rfl, ?_⟩) ?_
      rotate_left
      · (intro w hSw; (try dsimp only at hSw); obtain ⟨s0, s1, s2⟩ := hSw; go_simp; try with_reducible rfl)
      simp only [List.getElem_toArray, List.getElem_cons_succ, List.getElem_cons_zero, Act.put, List.setIfInBounds_toArray, List.set_cons_zero, List.set_cons_succ]
      refine wpAnyP_take 9 [11, 10] (v := ?_) rfl (by kernel_rfl) (fun _ _ _ h => h) (by assumption) (Or.inl ⟨by rfl, ?_⟩) ?_
      rotate_left
      · (intro w hSw; (try dsimp only at hSw); obtain ⟨s0, s1, s2⟩ := hSw; go_simp; try with_reducible rfl)
      simp only [List.getElem_toArray, List.getElem_cons_succ, List.getElem_cons_zero, Act.put, List.setIfInBounds_toArray, List.set_cons_zero, List.set_cons_succ]
      refine wpAnyP_take 10 [11] (v := ?_) rfl (by kernel_rfl) (fun _ _ _ h => h) (by assumption) (Or.inl ⟨by rfl, ?_⟩) ?_
      rotate_left
      · (intro w hSw; (try dsimp only at hSw); obtain ⟨s0, s1, s2⟩ := hSw; go_simp; try with_reducible rfl)
      simp only [List.getElem_toArray, List.getElem_cons_succ, List.getElem_cons_zero, Act.put, List.setIfInBounds_toArray, List.set_cons_zero, List.set_cons_succ]
      refine wpAnyP_one 11 rfl (by kernel_rfl) (fun K hK => ?_)
      rw [if_pos (by rfl)]
      go_wp2_with ((refine CT.out.mono ?_; rintro e w3 ⟨ha, ak, rfl, hack, hE3, hc3⟩; have hnq : g9 ∉ [q] := (by simp; exact fun e => hgq e.symm); have hA3 := HAY.out.drew.chg hc3 hnq; have z0 : w3.cell? ⟨q, 0, none⟩ = some (.int .u16 E.call) := (by have h := hE3.call_at; rw [(E.paidN_r i).2.2, (E.paidN_r (i + 1)).2.1] at h; exact h); have z1 : w3.cell? ⟨g9, 0, none⟩ = some (.int .u32 (out[i]'hil).1) := hA3.two.1; have z2 : w3.cell? ⟨g9, 1, none⟩ = some (.slice A m mc) := hA3.two.2.1; obtain ⟨v', w4, happ, hfin⟩ := pack_step hil hl hB HRY.out HSY.out HCY.out HBY.out HEY.out hack hE3 hc3; have HAP := Lib.hid happ; have HF := Lib.hid hfin; have KK : Hid (∀ o, (w3.alloc o).cell? ⟨q, 0, none⟩ = some (.int .u16 E.call) ∧ (w3.alloc o).cell? ⟨g9, 0, none⟩ = some (.int .u32 (out[i]'hil).1) ∧ (w3.alloc o).cell? ⟨g9, 1, none⟩ = some (.slice A m mc)) := Lib.hid (fun o => ⟨(((Chg.refl [] w3).alloc o).cell (p := ⟨q, 0, none⟩) (hE3.kind q hE3.q_mem).2.1 (by simp)).trans z0, (((Chg.refl [] w3).alloc o).cell (p := ⟨g9, 0, none⟩) hA3.lt (by simp)).trans z1, (((Chg.refl [] w3).alloc o).cell (p := ⟨g9, 1, none⟩) hA3.lt (by simp)).trans z2⟩); clear hack hE3 hc3 hA3 happ hfin hnq))
      refine hold_with (by (try dsimp only at hSw); exact ⟨z0, z1, z2⟩) (fun hSn => ?_)
      clear hSw; have hSw := hSn; clear hSn
      refine wpAnyP_one 12 rfl (by kernel_rfl) (fun K hK => ?_)
      rw [if_pos (by rfl)]
      go_wp2_with (fail)
      refine hold_with (by (try dsimp only at hSw); exact KK.out _) (fun hSn => ?_)
      clear hSw; have hSw := hSn; clear hSn
      refine wpAnyP_one 13 rfl (by kernel_rfl) (fun K hK => ?_)
      rw [if_pos (by rfl)]
      simp only [List.getElem_toArray, List.getElem_cons_succ, List.getElem_cons_zero, Act.put, List.setIfInBounds_toArray, List.set_cons_zero, List.set_cons_succ]
      (refine wp_app_eq _ _ 78 rfl rfl rfl HAP.out ?_; go_wp2_with (fail))
      refine ⟨fun hz => (by simp at hz), ?_⟩
      refine wpAnyP_one 14 rfl (by kernel_rfl) (fun K hK => ?_)
      rw [if_pos (by rfl)]
      go_wp2_with (fail)
      refine ⟨fun hz => (by simp at hz), ?_⟩
      refine wpAnyP_done (by kernel_rfl) ?_ _
      skip
      clear hSw z0 z1 z2 y0 y1 hcall
      go_wp2_with fail
      go_roundg (out.length - (i + 1))
      case measure => omega
      case rel => exact ⟨i + 1, rfl, by omega, rfl, HF.out⟩
    · obtain rfl : i = out.length := by omega
      have hfin : RowT (Bytes w9) w9 w.heap.size u5 (out.map E.tun) := by
        rw [List.take_of_length_le (by simp)] at hrow; exact hrow
      have HF := Lib.hid hfin
      have HC := Lib.hid hch
      have HN := Lib.hid hend
      clear hrow hseq hch hfin hend
      go_wp2_with fail
      go_ret
      exact ⟨_, rfl, HF.out, HN.out, HC.out⟩
end Go.Proofs.Ytkmjpphmciaklaa
