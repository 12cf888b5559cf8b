/- The reference's end (catwalkref32): data, pump. The reference's end (catwalkref32): Send, Clear. -/
import Derived.Test.YtkmjpphmciaklaaJ25
namespace Go.Proofs.Ytkmjpphmciaklaa
open Go.RowKit
set_option linter.unusedVariables false
set_option linter.unusedSimpArgs false
attribute [local go_sem ↓] Go.wp_at_zero Go.wp_at_succ

def DataRE (B : Nat) (out : List (Int × List Int)) (w : World) (e : Ending) (w' : World) : Prop := ∃ o, e = .returned o ∧ RowS (BytS (· < B) w') w' w.heap.size o (out.map (·.2)) ∧ Chg [] w w'
set_option maxRecDepth 100000 in
set_option maxHeartbeats 1000000 in
theorem re_data (w : World) (B base : Nat) (v : Value) (out : List (Int × List Int)) (h : OutR w B base v out) (hB : B ≤ w.heap.size) (hl : out.length ≤ 10000) : Calls Try.prog 101 #[v] w (DataRE B out w) := by
  have H := Lib.hid h
  obtain ⟨a, c, rfl⟩ := h.slice
  clear h
  go_enter Try.func101, Try.ntmps101
  go_wp2_with fail
  go_loopg [3, 4] out.length (fun q s3 s4 wr => ∃ i, q = out.length - i ∧ i ≤ out.length ∧ s4 = .int .i64 i ∧ RowS (BytS (· < B) wr) wr w.heap.size s3 ((out.map (·.2)).take i) ∧ OutR wr B base (.slice a out.length c) out ∧ Chg [] w wr)
  case atStart => exact ⟨0, rfl, by omega, rfl, RowS.nil _ _ _, H.out, Chg.refl _ _⟩
  case round =>
    obtain ⟨w9, hw9⟩ : ∃ w9, w9 = wr := ⟨_, rfl⟩
    subst hw9
    obtain ⟨i, rfl, hi, rfl, hrow, hseq, hch⟩ := hrel
    by_cases hil : i < out.length
    · obtain ⟨g, A, m, mc, rfl, hg, _, hT, e0, e1, hb⟩ := hseq.at hil
      have hi0 : (0 : Int) ≤ (i : Int) := by omega
      have hi1 : (i : Int) < (out.length : Int) := by omega
      have hl3 : ∀ b ∈ u3.ownBlock.toList, w.heap.size ≤ b := fun b hb => (hrow.lt b (by simpa using hb)).1
      have hlB : ∀ b ∈ u3.ownBlock.toList, B ≤ b := fun b hb => Nat.le_trans hB (hl3 b hb)
      have h31 : ∀ b ∈ u3.ownBlock.toList, ¬ IsT w9 b 31 := fun b hb hT => (hrow.isT (by simpa using hb)).ne hT (by decide) rfl
      obtain ⟨v', w', happ, hrow', hcc, hob⟩ := rowS_push (R' := BytS (· < B) w9) hrow hch.size (a := A) (n := m) (c := mc) (d := (out[i]'hil).2) (by rw [List.length_take]; omega) (fun _ _ _ _ h => h) (fun _ _ => hb)
      have htk : (out.map (·.2)).take (i + 1) = (out.map (·.2)).take i ++ [(out[i]'hil).2] := by
        rw [List.take_add_one, List.getElem?_map, List.getElem?_eq_getElem hil]; rfl
      have hfin : RowS (BytS (· < B) w') w' w.heap.size v' ((out.map (·.2)).take (i + 1)) ∧ OutR w' B base (.slice (some ⟨g, 0, none⟩) out.length c) out ∧ Chg [] w w' := by
        rw [htk]
        exact ⟨hrow'.chg (Chg.refl [] w') (by simp) (fun u e hb => hb.kept hcc hlB), hseq.chg hcc hlB h31, hch.trans' hcc (fun x hx => Or.inr (hl3 x hx))⟩
      have HF := Lib.hid hfin
      clear hrow hseq hch hb hl3 hlB h31 hrow' hcc hob htk hfin e0 hT
      go_wp2_with (at_builtin; refine wpList_app_eq rfl _ _ 63 rfl rfl rfl happ ?_)
      clear happ
      go_roundg (out.length - (i + 1))
      case measure => omega
      case rel => exact ⟨i + 1, rfl, by omega, rfl, HF.out⟩
    · obtain rfl : i = out.length := by omega
      have hfin : RowS (BytS (· < B) w9) w9 w.heap.size u3 (out.map (·.2)) := by
        rw [List.take_of_length_le (by simp)] at hrow; exact hrow
      have HF := Lib.hid hfin
      have HC := Lib.hid hch
      clear hrow hseq hch hfin
      go_wp2_with fail
      go_ret
      exact ⟨_, rfl, HF.out, HC.out⟩

theorem rpack_step {w wy w3 : World} {B base q p rq i : Nat} {vw va v lv u : Value} {E : End} {out : List (Int × List Int)} {aa : Option Addr} {m mc : Nat} {ha : Bool} {ak : Int} (hil : i < out.length) (hl : out.length ≤ 10000) (hB : B ≤ w.heap.size)
    (hrow : RowT (BytS (· < B) wy) wy w.heap.size u ((out.map E.tun).take i)) (hseq : OutR wy B base lv out) (hch : Chg [q] w wy) (hb : BytS (· < B) wy (.slice aa m mc) (out[i]'hil).2) (hE : REAt wy B q p vw va rq v (E.paidN i))
    (hack : (E.paidN i).ack ⟨E.call, true, (out[i]'hil).1, false, 0, Value.slice aa m mc⟩ = ⟨E.call, true, (out[i]'hil).1, ha, ak, Value.slice aa m mc⟩) (hE3 : REAt w3 B q p vw va rq v (E.paidN i).paid) (hc3 : Chg [q] wy.drew w3) :
    ∃ v' w4, (Builtin.append_ #[78, 78] 78 #[u, .slice (some ⟨w3.heap.size, 0, none⟩) 1 1]).run Try.prog (w3.alloc (.cells #[.int .u16 E.call, .bool true, .int .u32 (out[i]'hil).1, .bool ha, .int .u32 ak, .slice aa m mc] 138)) = .ok v' w4 ∧
      RowT (BytS (· < B) w4) w4 w.heap.size v' ((out.map E.tun).take (i + 1)) ∧ OutR w4 B base lv out ∧ REAt w4 B q p vw va rq v (E.paidN (i + 1)) ∧ Chg [q] w w4 := by
  obtain ⟨k1, k2, k3⟩ := E.paidN_r i
  have hc3' : Chg [q] wy w3 := ⟨hc3.os, hc3.tape, hc3.output, hc3.size, hc3.block⟩
  have hqT := hE.str.isT
  have hqB : ∀ b ∈ [q], B ≤ b := fun b hb => by simp at hb; subst hb; exact hE.hq
  have hrow3 : RowT (BytS (· < B) w3) w3 w.heap.size u ((out.map E.tun).take i) := hrow.chg hc3' (by
    intro b hb e
    simp at hb
    subst hb
    exact hqT.ne (hrow.isT e) (by decide) rfl) (fun _ _ hb => hb.kept hc3' hqB)
  have hseq3 : OutR w3 B base lv out := hseq.chg hc3' hqB (fun b hb hT => by simp at hb; subst hb; exact hqT.ne hT (by decide) rfl)
  have hb3 := hb.kept hc3' hqB
  have hch3 : Chg [q] w w3 := hch.trans hc3'
  obtain ⟨v', w4, happ, hr4, hcc, hob⟩ := rowT_push (R' := BytS (· < B) w3) hrow3 hch3.size E.call true (out[i]'hil).1 ha ak (a := aa) (n := m) (c := mc) (d := (out[i]'hil).2) (by rw [List.length_take]; omega) (fun _ _ _ _ h => h) (fun _ _ => hb3)
  refine ⟨v', w4, happ, ?_⟩
  have ht : ∀ b ∈ u.ownBlock.toList, IsT w3 b 138 := fun b hb => hrow3.isT (by simpa using hb)
  have hl3 : ∀ b ∈ u.ownBlock.toList, w.heap.size ≤ b := fun b hb => (hrow3.lt b (by simpa using hb)).1
  have hlB : ∀ b ∈ u.ownBlock.toList, B ≤ b := fun b hb => Nat.le_trans hB (hl3 b hb)
  have htk : (out.map E.tun).take (i + 1) = (out.map E.tun).take i ++ [⟨E.call, true, (out[i]'hil).1, ha, ak, (out[i]'hil).2⟩] := by
    rw [List.take_add_one, List.getElem?_map, List.getElem?_eq_getElem hil]
    have e : E.tun (out[i]'hil) = (⟨E.call, true, (out[i]'hil).1, ha, ak, (out[i]'hil).2⟩ : Tun (List Int)) := by
      rw [End.ack_r k1] at hack
      unfold End.tun
      unfold End.ack at hack ⊢
      by_cases hz : E.r.nx = 0
      · rw [if_pos hz] at hack ⊢
        simp only [Tun.mk.injEq] at hack ⊢
        exact ⟨trivial, trivial, trivial, hack.2.2.2.1, hack.2.2.2.2.1, trivial⟩
      · rw [if_neg hz] at hack ⊢
        simp only [Tun.mk.injEq] at hack ⊢
        exact ⟨trivial, trivial, trivial, hack.2.2.2.1, hack.2.2.2.2.1, trivial⟩
    rw [Option.map_some, e]; rfl
  rw [htk, ← k3]
  refine ⟨hr4.chg (Chg.refl [] w4) (by simp) (fun u e hb => hb.kept hcc hlB), hseq3.chg hcc hlB (fun x hx hT => (ht x hx).ne hT (by decide) rfl),
    hE3.chg hcc (fun b hb hm => ?_) hlB, hch3.trans' hcc (fun b hb => Or.inr (hl3 b hb))⟩
  rcases hE3.kind b hm with k | k | k | k | k | k <;> exact (ht b hb).ne k (by decide) rfl
theorem tun_s (E : End) (s : Snd (List Int)) : (End.tun { E with s := s } : Int × List Int → Tun (List Int)) = E.tun := rfl

def PumpRE (B q p : Nat) (vw va : Value) (rq : Nat) (v : Value) (E : End) (now : Int) (w : World) (e : Ending) (w' : World) : Prop :=
  ∃ o vw' va', e = .returned o ∧ RowT (BytS (· < B) w') w' w.heap.size o (E.pumped now).2 ∧ REAt w' B q p vw' va' rq v (E.pumped now).1 ∧ Chg [q, p] w w' ∧ From vw' vw w.heap.size ∧ From va' va w.heap.size
set_option maxRecDepth 100000 in
set_option maxHeartbeats 2000000 in
theorem re_pump (w : World) (B q p : Nat) (vw va : Value) (rq : Nat) (v : Value) (E : End) (now : Int) (h : REAt w B q p vw va rq v E) (hB : B ≤ w.heap.size) (ok : E.s.Ok) (h0 : 0 ≤ E.r.nx) (h1 : E.r.nx < 4294967296) :
    Calls Try.prog 102 #[.pointer (some ⟨q, 0, none⟩), .int .i64 now] w (PumpRE B q p vw va rq v E now w) := by
  have H := Lib.hid h
  have hlen := Snd.pump_len ok now
  have CP := Lib.hid (rsi_pump w B p vw va E.s now h.snd h.hp ok)
  obtain ⟨c0, c1, _⟩ := h.str.five
  clear h ok
  go_enter Try.func102, Try.ntmps102
  go_wp2_with fail
  refine CP.out.mono ?_
  rintro e w1 ⟨o, rfl, hO, hPost⟩
  obtain ⟨vw', va', hE1, hc1, hw1, hv1⟩ := H.out.snd_to hPost
  obtain ⟨out, hout⟩ : ∃ out, out = (E.s.pump now).2 := ⟨_, rfl⟩
  rw [← hout] at hO hlen
  obtain ⟨a, c, rfl⟩ := hO.slice
  obtain ⟨E1, hE1e⟩ : ∃ E1 : End, E1 = { E with s := (E.s.pump now).1 } := ⟨_, rfl⟩
  rw [← hE1e] at hE1
  have hr1 : E1.r = E.r := by rw [hE1e]
  have hk1 : E1.call = E.call := by rw [hE1e]
  have hpd : E.pumped now = (E1.paidN out.length, out.map E1.tun) := by rw [hE1e, hout]; rfl
  rw [← hr1] at h0 h1
  have hB1 : B ≤ w1.heap.size := Nat.le_trans hB hc1.size
  have HO := Lib.hid hO
  have HE1 := Lib.hid hE1
  have HC1 := Lib.hid hc1
  have HFR := Lib.hid (And.intro hw1 hv1)
  have HPD := Lib.hid hpd
  clear hO hPost hE1 hc1 hw1 hv1 hout hE1e hpd CP c0 c1 hk1 hr1
  go_wp2_with fail
  go_loopg [5, 7] out.length (fun q' s5 s7 wr => ∃ i, q' = out.length - i ∧ i ≤ out.length ∧ s7 = .int .i64 i ∧ RowT (BytS (· < B) wr) wr w1.heap.size s5 ((out.map E1.tun).take i) ∧ OutR wr B w.heap.size (.slice a out.length c) out ∧ REAt wr B q p vw' va' rq v (E1.paidN i) ∧ Chg [q] w1 wr)
  case atStart => exact ⟨0, rfl, by omega, rfl, RowT.nil _ _ _, HO.out, HE1.out, Chg.refl _ _⟩
  case round =>
    obtain ⟨w9, hw9⟩ : ∃ w9, w9 = wr := ⟨_, rfl⟩
    subst hw9
    obtain ⟨i, rfl, hi, rfl, hrow, hseq, hend, hch⟩ := hrel
    by_cases hil : i < out.length
    · obtain ⟨g9, A, m, mc, rfl, hg, _, hgT, e0, e1, hb⟩ := hseq.at hil
      have hi0 : (0 : Int) ≤ (i : Int) := by omega
      have hi1 : (i : Int) < (out.length : Int) := by omega
      obtain ⟨k1, k2, k3⟩ := E1.paidN_r i
      have hgq : q ≠ g9 := hend.str.isT.ne hgT (by decide)
      have hcall : w9.drew.cell? ⟨q, 0, none⟩ = some (.int .u16 E1.call) := by have h := hend.str.five.1; rw [k2] at h; exact h
      have CT := Lib.hid (re_ack w9.drew B q p vw' va' rq v (E1.paidN i) E1.call true (out[i]'hil).1 false 0 A m mc (hend.keep (Chg.refl [] w9).drew) (Nat.le_trans hB1 hch.size) (by rw [k1]; exact h0) (by rw [k1]; exact h1))
      have y0 : w9.drew.cell? ⟨g9, i * 2, none⟩ = some (.int .u32 (out[i]'hil).1) := e0
      have y1 : w9.drew.cell? ⟨g9, i * 2 + 1, none⟩ = some (.slice A m mc) := e1
      have HRY := Lib.hid hrow
      have HSY := Lib.hid hseq
      have HBY := Lib.hid hb
      have HCY := Lib.hid hch
      have HEY := Lib.hid hend
      clear hrow hseq hch hb hend k1 k2 k3 e0 e1 hgT
      go_upto_region 6 with (fail)
      refine wp_region_phase 19 (fun w' => w'.cell? ⟨q, 0, none⟩ = some (.int .u16 E1.call) ∧ w'.cell? ⟨g9, i * 2, none⟩ = some (.int .u32 (out[i]'hil).1) ∧ w'.cell? ⟨g9, i * 2 + 1, none⟩ = some (.slice A m mc)) (by kernel_rfl) ?_
      refine wpAnyP_with (by exact ⟨hcall, y0, y1⟩) (fun hSw => ?_)
      refine wpAnyP_take 0 [] (v := ?_) rfl (by kernel_rfl) (fun _ _ _ h => h) (by assumption) (Or.inl ⟨by rfl, ?_⟩) ?_
      rotate_left
      · (intro w hSw; (try dsimp only at hSw); obtain ⟨s0, s1, s2⟩ := hSw; go_simp; try with_reducible rfl)
      simp only [List.getElem_toArray, List.getElem_cons_succ, List.getElem_cons_zero, Act.put, List.setIfInBounds_toArray, List.set_cons_zero, List.set_cons_succ]
      refine wpAnyP_take 1 [17] (v := ?_) rfl (by kernel_rfl) (fun _ _ _ h => h) (by assumption) (Or.inl ⟨by rfl, ?_⟩) ?_
      rotate_left
      · (intro w hSw; (try dsimp only at hSw); obtain ⟨s0, s1, s2⟩ := hSw; go_simp; try with_reducible rfl)
      simp only [List.getElem_toArray, List.getElem_cons_succ, List.getElem_cons_zero, Act.put, List.setIfInBounds_toArray, List.set_cons_zero, List.set_cons_succ]
      refine wpAnyP_take 2 [17, 16, 5, 4, 3] (v := ?_) rfl (by kernel_rfl) (fun _ _ _ h => h) (by assumption) (Or.inl ⟨by rfl, ?_⟩) ?_
      rotate_left
      · (intro w hSw; (try dsimp only at hSw); obtain ⟨s0, s1, s2⟩ := hSw; go_simp; try with_reducible rfl)
      simp only [List.getElem_toArray, List.getElem_cons_succ, List.getElem_cons_zero, Act.put, List.setIfInBounds_toArray, List.set_cons_zero, List.set_cons_succ]
      refine wpAnyP_take 3 [17, 16, 5, 4] (v := ?_) rfl (by kernel_rfl) (fun _ _ _ h => h) (by assumption) (Or.inl ⟨by rfl, ?_⟩) ?_
      rotate_left
      · (intro w hSw; (try dsimp only at hSw); obtain ⟨s0, s1, s2⟩ := hSw; go_simp; try with_reducible rfl)
      simp only [List.getElem_toArray, List.getElem_cons_succ, List.getElem_cons_zero, Act.put, List.setIfInBounds_toArray, List.set_cons_zero, List.set_cons_succ]
      refine wpAnyP_take 4 [17, 16, 5] (v := ?_) rfl (by kernel_rfl) (fun _ _ _ h => h) (by assumption) (Or.inl ⟨by rfl, ?_⟩) ?_
      rotate_left
      · (intro w hSw; (try dsimp only at hSw); obtain ⟨s0, s1, s2⟩ := hSw; go_simp; try with_reducible rfl)
      simp only [List.getElem_toArray, List.getElem_cons_succ, List.getElem_cons_zero, Act.put, List.setIfInBounds_toArray, List.set_cons_zero, List.set_cons_succ]
      refine wpAnyP_take 5 [17, 16] (v := ?_) rfl (by kernel_rfl) (fun _ _ _ h => h) (by assumption) (Or.inl ⟨by rfl, ?_⟩) ?_
      rotate_left
      · (intro w hSw; (try dsimp only at hSw); obtain ⟨s0, s1, s2⟩ := hSw; go_simp; try with_reducible rfl)
      simp only [List.getElem_toArray, List.getElem_cons_succ, List.getElem_cons_zero, Act.put, List.setIfInBounds_toArray, List.set_cons_zero, List.set_cons_succ]
      refine wpAnyP_take 6 [17, 16, 10, 9, 8] (v := ?_) rfl (by kernel_rfl) (fun _ _ _ h => h) (by assumption) (Or.inl ⟨by rfl, ?_⟩) ?_
      rotate_left
      · (intro w hSw; (try dsimp only at hSw); obtain ⟨s0, s1, s2⟩ := hSw; go_simp; try with_reducible rfl)
      simp only [List.getElem_toArray, List.getElem_cons_succ, List.getElem_cons_zero, Act.put, List.setIfInBounds_toArray, List.set_cons_zero, List.set_cons_succ]
      refine wpAnyP_take 7 [17, 16, 10, 9, 8] (v := ?_) rfl (by kernel_rfl) (fun _ _ _ h => h) (by assumption) (Or.inl ⟨by rfl, ?_⟩) ?_
      rotate_left
      · (intro w hSw; (try dsimp only at hSw); obtain ⟨s0, s1, s2⟩ := hSw; go_simp; try with_reducible rfl)
      simp only [List.getElem_toArray, List.getElem_cons_succ, List.getElem_cons_zero, Act.put, List.setIfInBounds_toArray, List.set_cons_zero, List.set_cons_succ]
      refine wpAnyP_take 8 [17, 16, 10, 9] (v := ?_) rfl (by kernel_rfl) (fun _ _ _ h => h) (by assumption) (Or.inl ⟨by rfl, ?_⟩) ?_
      rotate_left
      · (intro w hSw; (try dsimp only at hSw); obtain ⟨s0, s1, s2⟩ := hSw; go_simp; try with_reducible rfl)
      simp only [List.getElem_toArray, List.getElem_cons_succ, List.getElem_cons_zero, Act.put, List.setIfInBounds_toArray, List.set_cons_zero, List.set_cons_succ]
      refine wpAnyP_take 9 [17, 16, 10] (v := ?_) rfl (by kernel_rfl) (fun _ _ _ h => h) (by assumption) (Or.inl ⟨by rfl, ?_⟩) ?_
      rotate_left
      · (intro w hSw; (try dsimp only at hSw); obtain ⟨s0, s1, s2⟩ := hSw; go_simp; try with_reducible rfl)
      simp only [List.getElem_toArray, List.getElem_cons_succ, List.getElem_cons_zero, Act.put, List.setIfInBounds_toArray, List.set_cons_zero, List.set_cons_succ]
      refine wpAnyP_take 10 [17, 16] (v := ?_) rfl (by kernel_rfl) (fun _ _ _ h => h) (by assumption) (Or.inl ⟨by rfl, ?_⟩) ?_
      rotate_left
      · (intro w hSw; (try dsimp only at hSw); obtain ⟨s0, s1, s2⟩ := hSw; go_simp; try with_reducible rfl)
      simp only [List.getElem_toArray, List.getElem_cons_succ, List.getElem_cons_zero, Act.put, List.setIfInBounds_toArray, List.set_cons_zero, List.set_cons_succ]
      refine wpAnyP_take 11 [17, 16, 15, 14, 13] (v := ?_) rfl (by kernel_rfl) (fun _ _ _ h => h) (by assumption) (Or.inl ⟨by rfl, ?_⟩) ?_
      rotate_left
      · (intro w hSw; (try dsimp only at hSw); obtain ⟨s0, s1, s2⟩ := hSw; go_simp; try with_reducible rfl)
      simp only [List.getElem_toArray, List.getElem_cons_succ, List.getElem_cons_zero, Act.put, List.setIfInBounds_toArray, List.set_cons_zero, List.set_cons_succ]
      refine wpAnyP_take 12 [17, 16, 15, 14, 13] (v := ?_) rfl (by kernel_rfl) (fun _ _ _ h => h) (by assumption) (Or.inl ⟨by rfl, ?_⟩) ?_
      rotate_left
      · (intro w hSw; (try dsimp only at hSw); obtain ⟨s0, s1, s2⟩ := hSw; go_simp; try with_reducible rfl)
      simp only [List.getElem_toArray, List.getElem_cons_succ, List.getElem_cons_zero, Act.put, List.setIfInBounds_toArray, List.set_cons_zero, List.set_cons_succ]
      refine wpAnyP_take 13 [17, 16, 15, 14] (v := ?_) rfl (by kernel_rfl) (fun _ _ _ h => h) (by assumption) (Or.inl ⟨by rfl, ?_⟩) ?_
      rotate_left
      · (intro w hSw; (try dsimp only at hSw); obtain ⟨s0, s1, s2⟩ := hSw; go_simp; try with_reducible rfl)
      simp only [List.getElem_toArray, List.getElem_cons_succ, List.getElem_cons_zero, Act.put, List.setIfInBounds_toArray, List.set_cons_zero, List.set_cons_succ]
      refine wpAnyP_take 14 [17, 16, 15] (v := ?_) rfl (by kernel_rfl) (fun _ _ _ h => h) (by assumption) (Or.inl ⟨by rfl, ?_⟩) ?_
      rotate_left
      · (intro w hSw; (try dsimp only at hSw); obtain ⟨s0, s1, s2⟩ := hSw; go_simp; try with_reducible rfl)
      simp only [List.getElem_toArray, List.getElem_cons_succ, List.getElem_cons_zero, Act.put, List.setIfInBounds_toArray, List.set_cons_zero, List.set_cons_succ]
      refine wpAnyP_take 15 [17, 16] (v := ?_) rfl (by kernel_rfl) (fun _ _ _ h => h) (by assumption) (Or.inl ⟨by rfl, ?_⟩) ?_
      rotate_left
      · (intro w hSw; (try dsimp only at hSw); obtain ⟨s0, s1, s2⟩ := hSw; go_simp; try with_reducible rfl)
      simp only [List.getElem_toArray, List.getElem_cons_succ, List.getElem_cons_zero, Act.put, List.setIfInBounds_toArray, List.set_cons_zero, List.set_cons_succ]
      refine wpAnyP_take 16 [17] (v := ?_) rfl (by kernel_rfl) (fun _ _ _ h => h) (by assumption) (Or.inl ⟨by rfl, ?_⟩) ?_
      rotate_left
      · (intro w hSw; (try dsimp only at hSw); obtain ⟨s0, s1, s2⟩ := hSw; go_simp; try with_reducible rfl)
      simp only [List.getElem_toArray, List.getElem_cons_succ, List.getElem_cons_zero, Act.put, List.setIfInBounds_toArray, List.set_cons_zero, List.set_cons_succ]
      refine wpAnyP_one 17 rfl (by kernel_rfl) (fun K hK => ?_)
      rw [if_pos (by rfl)]
      go_wp2_with ((refine CT.out.mono ?_; rintro e w3 ⟨ha, ak, rfl, hack, hE3, hc3⟩; have hnq : g9 ∉ [q] := (by simp; exact fun e => hgq e.symm); have z0 : w3.cell? ⟨q, 0, none⟩ = some (.int .u16 E1.call) := (by have h := hE3.str.five.1; rw [(E1.paidN_r i).2.2, (E1.paidN_r (i + 1)).2.1] at h; exact h); have z1 : w3.cell? ⟨g9, i * 2, none⟩ = some (.int .u32 (out[i]'hil).1) := (hc3.cell (p := ⟨g9, i * 2, none⟩) hg hnq).trans y0; have z2 : w3.cell? ⟨g9, i * 2 + 1, none⟩ = some (.slice A m mc) := (hc3.cell (p := ⟨g9, i * 2 + 1, none⟩) hg hnq).trans y1; have hg3 : g9 < w3.heap.size := Nat.lt_of_lt_of_le hg hc3.size; obtain ⟨v', w4, happ, hfin⟩ := rpack_step hil (by omega) hB1 HRY.out HSY.out HCY.out HBY.out HEY.out hack hE3 hc3; have HAP := Lib.hid happ; have HF := Lib.hid hfin; have KK : Hid (∀ o, (w3.alloc o).cell? ⟨q, 0, none⟩ = some (.int .u16 E1.call) ∧ (w3.alloc o).cell? ⟨g9, i * 2, none⟩ = some (.int .u32 (out[i]'hil).1) ∧ (w3.alloc o).cell? ⟨g9, i * 2 + 1, none⟩ = some (.slice A m mc)) := Lib.hid (fun o => ⟨(((Chg.refl [] w3).alloc o).cell (p := ⟨q, 0, none⟩) hE3.str.lt (by simp)).trans z0, (((Chg.refl [] w3).alloc o).cell (p := ⟨g9, i * 2, none⟩) hg3 (by simp)).trans z1, (((Chg.refl [] w3).alloc o).cell (p := ⟨g9, i * 2 + 1, none⟩) hg3 (by simp)).trans z2⟩); clear hack hE3 hc3 happ hfin hnq hg3))
      refine hold_with (by (try dsimp only at hSw); exact ⟨z0, z1, z2⟩) (fun hSn => ?_)
      clear hSw; have hSw := hSn; clear hSn
      refine wpAnyP_one 18 rfl (by kernel_rfl) (fun K hK => ?_)
      rw [if_pos (by rfl)]
      go_wp2_with (fail)
      refine hold_with (by (try dsimp only at hSw); exact KK.out _) (fun hSn => ?_)
      clear hSw; have hSw := hSn; clear hSn
      refine wpAnyP_one 19 rfl (by kernel_rfl) (fun K hK => ?_)
      rw [if_pos (by rfl)]
      simp only [List.getElem_toArray, List.getElem_cons_succ, List.getElem_cons_zero, Act.put, List.setIfInBounds_toArray, List.set_cons_zero, List.set_cons_succ]
      (refine wp_app_eq _ _ 78 rfl rfl rfl HAP.out ?_; go_wp2_with (fail))
      refine ⟨fun hz => (by simp at hz), ?_⟩
      refine wpAnyP_one 20 rfl (by kernel_rfl) (fun K hK => ?_)
      rw [if_pos (by rfl)]
      go_wp2_with (fail)
      refine ⟨fun hz => (by simp at hz), ?_⟩
      refine wpAnyP_done (by kernel_rfl) ?_ _
      skip
      clear hSw z0 z1 z2 y0 y1 hcall
      go_wp2_with fail
      go_roundg (out.length - (i + 1))
      case measure => omega
      case rel => exact ⟨i + 1, rfl, by omega, rfl, HF.out⟩
    · obtain rfl : i = out.length := by omega
      have hrow' : RowT (BytS (· < B) w9) w9 w1.heap.size u5 (out.map E1.tun) := by
        rw [List.take_of_length_le (by simp)] at hrow; exact hrow
      have hfin : PumpRE B q p vw va rq v E now w (.returned u5) w9 := by
        obtain ⟨l, r1, r2⟩ := hrow'
        refine ⟨u5, vw', va', rfl, ?_, ?_, (HC1.out.mono (F' := [q, p]) (by simp)).trans' hch (by simp), HFR.out.1, HFR.out.2⟩
        · rw [HPD.out]; exact ⟨l, r1.mono HC1.out.size, r2⟩
        · rw [HPD.out]; exact hend
      have HF := Lib.hid hfin
      clear hrow hrow' hseq hch hend hfin
      go_wp2_with fail
      go_ret
      exact HF.out
end Go.Proofs.Ytkmjpphmciaklaa
namespace Go.Proofs.Ytkmjpphmciaklaa
open Go.RowKit
set_option linter.unusedVariables false
set_option linter.unusedSimpArgs false
attribute [local go_sem ↓] Go.wp_at_zero Go.wp_at_succ

/-- The reference's end lies at q; F are its blocks. -/
def REOf (w : World) (B q : Nat) (F : List Nat) (E : End) : Prop := ∃ p vw va rq v, F = reF q p vw va rq v ∧ REAt w B q p vw va rq v E
def MovedRE (B q : Nat) (F : List Nat) (E' : End) (w w' : World) : Prop := ∃ F', REOf w' B q F' E' ∧ Chg F w w' ∧ ∀ b ∈ F', b ∈ F ∨ w.heap.size ≤ b ∨ IsT w' b 31
theorem mem_reF {q p rq b : Nat} {vw va v : Value} : b ∈ reF q p vw va rq v ↔ b = q ∨ b = rq ∨ v.ownBlock = some b ∨ b = p ∨ vw.ownBlock = some b ∨ va.ownBlock = some b := by
  simp [reF, refF, rsF]
theorem From.trans {v v1 v2 : Value} {n m : Nat} (h : From v1 v n) (k : From v2 v1 m) (hm : n ≤ m) : From v2 v n := fun b hb => by
  rcases k b hb with h1 | h1
  · exact h b h1
  · exact .inr (Nat.le_trans hm h1)
theorem REAt.moved {w w' : World} {B q p rq : Nat} {vw va v vw' va' v' : Value} {E' : End} (h : REAt w' B q p vw' va' rq v' E') {G : List Nat} (c : Chg G w w') (hG : ∀ b ∈ G, b ∈ reF q p vw va rq v ∨ w.heap.size ≤ b) (hw : From vw' vw w.heap.size) (ha : From va' va w.heap.size) :
    MovedRE B q (reF q p vw va rq v) E' w w' := by
  refine ⟨_, ⟨p, vw', va', rq, v', rfl, h⟩, c.mono hG, fun b hb => ?_⟩
  rw [mem_reF] at hb
  rw [mem_reF]
  rcases hb with k | k | k | k | k | k
  · exact .inl (.inl k)
  · exact .inl (.inr (.inl k))
  · obtain ⟨r, h1, _⟩ := h.rcv
    exact .inr (.inr (h1.2.1.isT k))
  · exact .inl (.inr (.inr (.inr (.inl k))))
  · rcases hw b k with k | k
    · exact .inl (.inr (.inr (.inr (.inr (.inl k)))))
    · exact .inr (.inl k)
  · rcases ha b k with k | k
    · exact .inl (.inr (.inr (.inr (.inr (.inr k)))))
    · exact .inr (.inl k)

def SendRE (B q : Nat) (F : List Nat) (r : End × List (Tun (List Int)) × Bool) (w : World) (e : Ending) (w' : World) : Prop :=
  ∃ o, e = .returned (.tuple #[o, .bool r.2.2]) ∧ RowT (BytS (· < B) w') w' w.heap.size o r.2.1 ∧ MovedRE B q F r.1 w w'
set_option maxRecDepth 100000 in
set_option maxHeartbeats 1000000 in
theorem re_send (w : World) (B q p : Nat) (vw va : Value) (rq : Nat) (v : Value) (E : End) (now : Int) (a : Option Addr) (c : Nat) (d : List Int) (h : REAt w B q p vw va rq v E) (hB : B ≤ w.heap.size) (ok : E.Ok) (hd : BytS (· < B) w (.slice a d.length c) d) :
    Calls Try.prog 83 #[.pointer (some ⟨q, 0, none⟩), .int .i64 now, .slice a d.length c] w (SendRE B q (reF q p vw va rq v) (E.send now d) w) := by
  have H := Lib.hid h
  have OK := Lib.hid ok
  have CT0 := rsi_push w B p vw va E.s (.slice a d.length c) d h.snd h.hp ok.s hd
  have hno : ∀ w', Chg [] w w' → (d.length < 1 ∨ 1600 < d.length ∨ 16 ≤ E.s.wait.length) → SendRE B q (reF q p vw va rq v) (E.send now d) w (.returned (.tuple #[.slice none 0 0, .bool false])) w' := fun w' hc hx => by
    unfold End.send
    rw [if_pos hx]
    exact ⟨_, rfl, RowT.nil _ _ _, (h.keep hc).moved hc (by simp) (From.refl _ _) (From.refl _ _)⟩
  have HNO := Lib.hid hno
  obtain ⟨c0, c1, _⟩ := h.str.five
  clear h ok hd hno
  by_cases h1 : d.length < 1
  · have h1' : ((d.length : Nat) : Int) < 1 := by omega
    clear CT0
    go_enter Try.func83, Try.ntmps83
    go_wp2_with fail
    go_ret2
    exact HNO.out _ (Chg.refl _ _) (.inl h1)
  by_cases h2 : 1600 < d.length
  · have h1' : ¬ ((d.length : Nat) : Int) < 1 := by omega
    have h2' : (1600 : Int) < (d.length : Nat) := by omega
    clear CT0
    go_enter Try.func83, Try.ntmps83
    go_wp2_with fail
    go_ret2
    exact HNO.out _ (Chg.refl _ _) (.inr (.inl h2))
  have h1' : ¬ ((d.length : Nat) : Int) < 1 := by omega
  have h2' : ¬ (1600 : Int) < (d.length : Nat) := by omega
  by_cases hlt : E.s.wait.length < 16
  · rw [decide_eq_true hlt] at CT0
    have CT := Lib.hid CT0
    clear CT0
    go_enter Try.func83, Try.ntmps83
    go_wp2_with fail
    refine CT.out.mono ?_
    rintro e w1 ⟨rfl, hP1⟩
    obtain ⟨vw1, va1, hE1, hc1, hw1, hv1⟩ := H.out.snd_to hP1
    have CP := Lib.hid (re_pump w1 B q p vw1 va1 rq v { E with s := E.s.push d } now hE1 (Nat.le_trans hB hc1.size) (Snd.push_ok OK.out.s d) OK.out.r.nx0 OK.out.r.nx1)
    have HP := Lib.hid (And.intro hc1 (And.intro hw1 hv1))
    clear hP1 hE1 hc1 hw1 hv1 CT
    go_wp2_with fail
    refine CP.out.mono ?_
    rintro e w2 ⟨o, vw2, va2, rfl, hT, hE2, hc2, hw2, hv2⟩
    have hfin : SendRE B q (reF q p vw va rq v) (E.send now d) w (.returned (.tuple #[o, .bool true])) w2 := by
      have hs1 := HP.out.1.size
      unfold End.send
      rw [if_neg (by omega)]
      obtain ⟨l, r1, r2⟩ := hT
      refine ⟨o, rfl, ⟨l, r1.mono hs1, r2⟩, ?_⟩
      exact hE2.moved (G := [q, p]) ((HP.out.1.mono (F' := [q, p]) (by simp)).trans hc2) (fun b hb => .inl (by rw [mem_reF]; simp at hb; rcases hb with rfl | rfl <;> simp)) (HP.out.2.1.trans hw2 hs1) (HP.out.2.2.trans hv2 hs1)
    have HF := Lib.hid hfin
    clear hT hE2 hc2 hw2 hv2 hfin CP
    go_wp2_with fail
    go_ret2
    exact HF.out
  · rw [decide_eq_false hlt] at CT0
    have CT := Lib.hid CT0
    clear CT0
    go_enter Try.func83, Try.ntmps83
    go_wp2_with fail
    refine CT.out.mono ?_
    rintro e w1 ⟨rfl, hP1⟩
    obtain ⟨vw1, va1, hE1, hc1, hw1, hv1⟩ := H.out.snd_to hP1
    have hfin : SendRE B q (reF q p vw va rq v) (E.send now d) w (.returned (.tuple #[.slice none 0 0, .bool false])) w1 := by
      have hpe : ({ E with s := E.s.push d } : End) = E := by unfold Snd.push; rw [if_neg hlt]
      rw [hpe] at hE1
      unfold End.send
      rw [if_pos (by omega)]
      exact ⟨_, rfl, RowT.nil _ _ _, hE1.moved (G := [p]) hc1 (fun b hb => .inl (by rw [mem_reF]; simp at hb; subst hb; simp)) hw1 hv1⟩
    have HF := Lib.hid hfin
    clear hfin hP1 hE1 hc1 hw1 hv1 CT
    go_wp2_with fail
    go_ret2
    exact HF.out

set_option maxRecDepth 100000 in
set_option maxHeartbeats 400000 in
theorem re_clear (w : World) (B q p : Nat) (vw va : Value) (rq : Nat) (v : Value) (E : End) (h : REAt w B q p vw va rq v E) :
    Calls Try.prog 78 #[.pointer (some ⟨q, 0, none⟩)] w fun e w' => e = .returned (.int .i64 E.s.wait.length) ∧ MovedRE B q (reF q p vw va rq v) { E with s := { E.s with wait := [] } } w w' := by
  have H := Lib.hid h
  have CT := Lib.hid (rsi_clear w B p vw va E.s h.snd)
  obtain ⟨c0, c1, _⟩ := h.str.five
  clear h
  go_enter Try.func78, Try.ntmps78
  go_wp2_with fail
  refine CT.out.mono ?_
  rintro e w1 ⟨rfl, hP1⟩
  obtain ⟨vw1, va1, hE1, hc1, hw1, hv1⟩ := H.out.snd_to hP1
  have HF := Lib.hid (hE1.moved (v := v) (G := [p]) hc1 (fun b hb => .inl (by rw [mem_reF]; simp at hb; subst hb; simp)) hw1 hv1)
  clear hP1 hE1 hc1 hw1 hv1 CT
  go_wp2_with fail
  go_ret
  exact ⟨rfl, HF.out⟩
end Go.Proofs.Ytkmjpphmciaklaa
