/- The reference's sender (catwalkref30): Ack. SendOnce: what is sent goes behind the row of what was sent. -/
import Derived.Test.YtkmjpphmciaklaaJ18
import Derived.Test.YtkmjpphmciaklaaJ16
namespace Go.Proofs.Ytkmjpphmciaklaa
open Go.RowKit
set_option linter.unusedVariables false
set_option linter.unusedSimpArgs false
attribute [local go_sem ↓] Go.wp_at_zero Go.wp_at_succ

def AckRS (q : Nat) (vw va : Value) (x : Snd Value) (now seq : Int) (w : World) (e : Ending) (w' : World) : Prop :=
  e = .returned (.int .i64 (x.ack now seq).2) ∧ ∃ va', RSAt w' q vw va' (x.ack now seq).1 ∧ Chg [q] w w' ∧ From va' va w.heap.size
set_option maxRecDepth 100000 in
set_option maxHeartbeats 2000000 in
theorem rs_ack (w : World) (q : Nat) (vw va : Value) (x : Snd Value) (now seq : Int) (h : RSAt w q vw va x) (ok : x.Ok) (hn0 : -1000000000 ≤ now) (hn1 : now ≤ 1000000000) (hs0 : 0 ≤ seq) (hs1 : seq < 4294967296) :
    Calls Try.prog 99 #[.pointer (some ⟨q, 0, none⟩), .int .i64 now, .int .u32 seq] w (AckRS q vw va x now seq w) := by
  obtain ⟨A, vc, rfl, hvc, _⟩ := h.air.form
  rw [fl_len] at h hvc
  rw [fl_len]
  have H := Lib.hid h
  have OK := Lib.hid ok
  have hA := h.str
  obtain ⟨N, hN⟩ : ∃ N, N = ackN seq x.nx x.air := ⟨_, rfl⟩
  have hNl : N ≤ x.air.length := by rw [hN]; exact ackN_le _ _ _
  have hcell : ∀ k (hk : k < x.air.length), ∃ ga oa, A = some ⟨ga, oa, none⟩ ∧ IsT w ga 166 ∧ w.cell? ⟨ga, oa + k * 2, none⟩ = some (.int .u32 (x.air[k]'hk).1) ∧ w.cell? ⟨ga, oa + k * 2 + 1, none⟩ = some (.int .i64 (x.air[k]'hk).2) := fun k hk => by
    obtain ⟨ga, oa, e, hT, hc⟩ := h.air.cells (by rw [fl_len]; omega)
    have hk' := fl_at (List.getElem?_eq_getElem hk)
    exact ⟨ga, oa, e, hT, hc _ _ ((fl_flat x.air).at (j := 0) hk' rfl), by rw [Nat.add_assoc]; exact hc _ _ ((fl_flat x.air).at (j := 1) hk' rfl)⟩
  have ha16 := ok.air
  have hkeys := ok.keys
  have hx0 := ok.nx0
  have hx1 := ok.nx1
  have HA := Lib.hid hA
  have HN := Lib.hid hN
  have HCELL := Lib.hid hcell
  have HKEYS := Lib.hid hkeys
  obtain ⟨c0, c1, c2, c3, c4, c5, c6, c7, c8⟩ := hA.nine
  clear h ok hA hN hcell hkeys
  rcases Bool.eq_false_or_eq_true (lessB seq x.nx) with hL | hL
  case inr =>
    have h0 : N = 0 := by rw [HN.out]; unfold ackN; rw [hL]; rfl
    have hak : x.ack now seq = (x, 0) := by unfold Snd.ack; rw [← HN.out, if_pos h0]
    have hfin : AckRS q vw (.slice A x.air.length vc) x now seq w (.returned (.int .i64 0)) w := by
      refine ⟨by rw [hak]; rfl, _, ?_, Chg.refl _ _, From.refl _ _⟩
      rw [hak]; exact H.out
    have HF := Lib.hid hfin
    have FL := Lib.hid hL
    clear hak hfin hL
    go_enter Try.func99, Try.ntmps99
    go_wp2_with fail
    refine (less02_any _ _ _ hs0 hs1 hx0 hx1).mono ?_; rintro e' w' ⟨rfl, rfl⟩
    simp only [FL.out]
    go_wp2_with fail
    go_ret
    exact HF.out
  case inl =>
    have hNT : N = ackT seq x.air := by rw [HN.out]; unfold ackN; rw [hL]; rfl
    have HNT := Lib.hid hNT
    have FL := Lib.hid hL
    clear hL hNT
    go_enter Try.func99, Try.ntmps99
    go_wp2_with (fail)
    refine (less02_any _ _ _ hs0 hs1 hx0 hx1).mono ?_; rintro e' w' ⟨rfl, rfl⟩
    simp only [FL.out]
    go_upto_block 0 with (fail)
    go_cut [7] (fun s7 wx => s7 = .int .i64 N ∧ wx = w)
    case first =>
      go_wp2_with fail
      go_loopg [7] (x.air.length - 0) (fun g s7 wr => ∃ k : Nat, k ≤ N ∧ g = x.air.length - k ∧ s7 = .int .i64 k ∧ wr = w)
      case atStart => exact ⟨0, by omega, rfl, rfl, rfl⟩
      case round =>
        obtain ⟨k, hk, rfl, rfl, hwr⟩ := hrel
        subst hwr
        by_cases hkl : k < x.air.length
        · obtain ⟨ga, oa, rfl, hgT, d0, d1⟩ := HCELL.out k hkl
          obtain ⟨fs, hfs⟩ : ∃ fs, fs = (x.air[k]'hkl).1 := ⟨_, rfl⟩
          have hget : ∃ fa, x.air[k]? = some (fs, fa) := ⟨(x.air[k]'hkl).2, by rw [List.getElem?_eq_getElem hkl, hfs]⟩
          have hkey := HKEYS.out _ (List.getElem_mem hkl)
          rw [← hfs] at d0 hkey
          obtain ⟨fa, hget⟩ := hget
          have hkl' : ((k : Nat) : Int) < (x.air.length : Nat) := by omega
          have hk0 : (0 : Int) ≤ (k : Nat) := by omega
          have b1 := hkey.1
          have b2 := hkey.2
          by_cases hkN : k < N
          · have hin := ackT_in seq (by rw [HNT.out] at hkN; exact hkN) hget
            have F1 := Lib.hid hin
            clear hfs hget hin hkey d1 hgT
            go_wp2_with fail
            refine (less02_any _ _ _ hs0 hs1 b1 b2).mono ?_; rintro e' w' ⟨rfl, rfl⟩
            simp only [F1.out]
            go_wp2_with fail
            go_roundg (x.air.length - (k + 1))
            case measure => omega
            case rel => exact ⟨k + 1, by omega, rfl, rfl, rfl⟩
          · have hkN' : k = N := by omega
            have hget' : x.air[ackT seq x.air]? = some (fs, fa) := by rw [← HNT.out, ← hkN']; exact hget
            have HK := Lib.hid hkN'
            have F1 := Lib.hid (ackT_out seq hget')
            clear hfs hget hget' hkey d1 hgT hkN' hkN
            go_wp2_with fail
            refine (less02_any _ _ _ hs0 hs1 b1 b2).mono ?_; rintro e' w' ⟨rfl, rfl⟩
            simp only [F1.out]
            go_wp2_with fail
            go_meet
            exact ⟨by rw [HK.out], rfl⟩
        · have hkN' : k = N := by omega
          have HK := Lib.hid hkN'
          clear hkN'
          go_wp2_with fail
          go_meet
          exact ⟨by rw [HK.out], rfl⟩
    case rest =>
      obtain ⟨rfl, hwc⟩ := hcut
      subst hwc
      have hm0 := OK.out.m0
      have hm1 := OK.out.m1
      have hd0 := OK.out.d0
      have hd1 := OK.out.d1
      by_cases h0 : N = 0
      · have hak : x.ack now seq = (x, 0) := by unfold Snd.ack; rw [← HN.out, if_pos h0]
        have hfin : AckRS q vw (.slice A x.air.length vc) x now seq wc (.returned (.int .i64 0)) wc := by
          refine ⟨by rw [hak]; rfl, _, ?_, Chg.refl _ _, From.refl _ _⟩
          rw [hak]; exact H.out
        have HF := Lib.hid hfin
        subst h0
        clear hak hfin
        go_wp2_with fail
        go_ret
        exact HF.out
      · obtain ⟨k1, hk1⟩ : ∃ k1, N = k1 + 1 := ⟨N - 1, by omega⟩
        obtain ⟨ga, oa, rfl, hgT, e0, d1⟩ := HCELL.out k1 (by omega)
        obtain ⟨fa, hfa⟩ : ∃ fa, fa = (x.air[k1]'(by omega)).2 := ⟨_, rfl⟩
        have hats := OK.out.ats _ (List.getElem_mem (show k1 < x.air.length by omega))
        rw [← hfa] at d1 hats
        obtain ⟨t, ht⟩ : ∃ t, t = tookF x.air now N := ⟨_, rfl⟩
        have ht2 : t = max (now - fa) 0 := by
          have hN1 : N - 1 = k1 := by omega
          have hget : x.air.getD k1 (0, 0) = x.air[k1]'(by omega) := by rw [List.getD_eq_getElem?_getD, List.getElem?_eq_getElem (by omega)]; rfl
          rw [ht, hfa, ← hget, ← hN1]
          rfl
        have HT := Lib.hid ht
        have HT2 := Lib.hid ht2
        have hw1 : IntKind.i64.wrap (now - fa) = now - fa := IntWalk.i64_in _ (by omega)
        have hw2 : IntKind.i64.wrap ((N : Nat) - 1 : Int) = (k1 : Nat) := by rw [IntKind.wrap_i64]; omega
        have hb0 : (0 : Int) ≤ (k1 : Nat) := by omega
        have hb1 : ((k1 : Nat) : Int) < (x.air.length : Nat) := by omega
        have hn0' : (((N : Nat) : Int) == 0) = false := beq_eq_false_iff_ne.2 (by omega)
        have hNp : 0 < N := by omega
        clear e0 hfa hats ht ht2 h0 hk1
        go_upto_if 52 with (fail)
        go_cut [8] (fun s8 wx => s8 = .int .i64 t ∧ wx = wc)
        case first =>
          by_cases hneg : now - fa < 0
          · have hte : t = 0 := by have := HT2.out; omega
            have HTE := Lib.hid hte
            clear hte
            go_wp2_with fail
            go_meet
            exact ⟨by rw [HTE.out], rfl⟩
          · have hte : t = now - fa := by have := HT2.out; omega
            have HTE := Lib.hid hte
            clear hte
            go_wp2_with fail
            go_meet
            exact ⟨by rw [HTE.out], rfl⟩
        case rest =>
          obtain ⟨rfl, hwq⟩ := hcut
          subst hwq
          obtain ⟨w0, hw0⟩ : ∃ z, z = wc := ⟨_, rfl⟩
          subst hw0
          clear hw1 hw2 hb0 hb1 d1
          have CW := Lib.hid OK.out.win
          have hlo : 0 ≤ t := by have := HT2.out; omega
          go_wp2_with fail
          refine (rrtt_sample x.m x.d t _ hm0 hm1 hd0 hd1).mono ?_
          rintro e w1 ⟨rfl, hc1⟩
          have hA1 := HA.out.chg hc1 (by simp)
          have HC1 := Lib.hid (hc1.mono (F' := [q]) (by simp))
          have k6 := hA1.frozen 6
          have k7 := hA1.frozen 7
          clear c0 c1 c2 c3 c4 c5 c6 c7 c8 hc1
          obtain ⟨c0, c1, c2, c3, c4, c5, c6, c7, c8⟩ := hA1.nine
          have HA1 := Lib.hid hA1
          clear hA1
          go_upto_region 11 with (fail)
          obtain ⟨w2, hw2⟩ : ∃ w2, w2 = (w1.setCell ⟨q, 6, none⟩ (.int .i64 (rm x.m t))).setCell ⟨q, 7, none⟩ (.int .i64 (rd x.m x.d t)) := ⟨_, rfl⟩
          rw [← hw2]
          have hA2 := (HA1.out.set 6 (.int .i64 (rm x.m t))).set 7 (.int .i64 (rd x.m x.d t))
          rw [← hw2] at hA2
          have hC2 : Chg [q] w0 w2 := by rw [hw2]; exact (HC1.out.set (by simp) _).set (by simp) _
          have hA2' : At w2 q 153 [.int .u32 x.nx, vw, .slice (some ⟨ga, oa, none⟩) x.air.length vc, .int .i64 x.s, .int .i64 x.a, .int .i64 x.mo, .int .i64 (rm x.m t), .int .i64 (rd x.m x.d t), .int .i64 x.lost] := hA2
          clear hw2 c0 c1 c2 c3 c4 c5 c6 c7 c8 k6 k7 hA2
          obtain ⟨c0, c1, c2, c3, c4, c5, c6, c7, c8⟩ := hA2'.nine
          have HA2 := Lib.hid hA2'
          have HC2 := Lib.hid hC2
          clear hA2' hC2
          go_wp2_with fail
          refine (rw_acked x.s x.a x.mo (N : Int) _ CW.out).mono ?_
          obtain ⟨s', hs'⟩ : ∃ s', s' = (wit x.mo (cutZ (N : Nat) 0 16).toNat (x.s, x.a)).1 := ⟨_, rfl⟩
          obtain ⟨a', ha'⟩ : ∃ a', a' = (wit x.mo (cutZ (N : Nat) 0 16).toNat (x.s, x.a)).2 := ⟨_, rfl⟩
          rw [← hs', ← ha']
          rintro e w3 ⟨rfl, hc3⟩
          have hA3 := HA2.out.chg hc3 (by simp)
          have HC3 := Lib.hid (HC2.out.trans (hc3.mono (F' := [q]) (by simp)))
          have k3 := hA3.frozen 3
          have k4 := hA3.frozen 4
          have k5 := hA3.frozen 5
          clear c0 c1 c2 c3 c4 c5 c6 c7 c8 hc3
          obtain ⟨c0, c1, c2, c3, c4, c5, c6, c7, c8⟩ := hA3.nine
          have HA3 := Lib.hid hA3
          have HS' := Lib.hid hs'
          have HA' := Lib.hid ha'
          clear hA3 hs' ha'
          go_upto_region 12 with (fail)
          obtain ⟨w4, hw4⟩ : ∃ w4, w4 = ((w3.setCell ⟨q, 3, none⟩ (.int .i64 s')).setCell ⟨q, 4, none⟩ (.int .i64 a')).setCell ⟨q, 5, none⟩ (.int .i64 x.mo) := ⟨_, rfl⟩
          rw [← hw4]
          have hA4 : At w4 q 153 [.int .u32 x.nx, vw, .slice (some ⟨ga, oa, none⟩) x.air.length vc, .int .i64 s', .int .i64 a', .int .i64 x.mo, .int .i64 (rm x.m t), .int .i64 (rd x.m x.d t), .int .i64 x.lost] := by
            rw [hw4]; exact ((HA3.out.set 3 _).set 4 _).set 5 _
          have hC4 : Chg [q] w0 w4 := by rw [hw4]; exact ((HC3.out.set (by simp) _).set (by simp) _).set (by simp) _
          clear hw4 c0 c1 c2 c3 c4 c5 c6 c7 c8 k3 k4 k5
          obtain ⟨c0, c1, c2, c3, c4, c5, c6, c7, c8⟩ := hA4.nine
          have k2 := hA4.frozen 2
          obtain ⟨A', hA'⟩ : ∃ A', A' = (if vc = N then some ⟨ga, oa, none⟩ else some ⟨ga, oa + N * 2, none⟩ : Option Addr) := ⟨_, rfl⟩
          have hak : x.ack now seq = ({ x with air := x.air.drop N, m := rm x.m t, d := rd x.m x.d t, s := s', a := a' }, N) := by
            unfold Snd.ack
            rw [← HN.out, if_neg (by omega), ← HT.out, HS'.out, HA'.out]
          have hfin : AckRS q vw (.slice (some ⟨ga, oa, none⟩) x.air.length vc) x now seq w0 (.returned (.int .i64 (N : Nat))) (w4.setCell ⟨q, 2, none⟩ (.slice A' (x.air.length - N) (vc - N))) := by
            have hcs : Chg [q] w4 (w4.setCell ⟨q, 2, none⟩ (.slice A' (x.air.length - N) (vc - N))) := (Chg.refl _ _).set (by simp) _
            have hne := H.out.air.ne H.out.str (by decide)
            have hdr : View 166 2 w0 (.slice A' (x.air.length - N) (vc - N)) (fl (x.air.drop N)) := by
              have h := H.out.air.drop (k := N) (by rw [fl_len]; exact hNl)
              rw [hA']
              simpa [fl] using h
            refine ⟨by rw [hak], .slice A' (x.air.length - N) (vc - N), ?_, hC4.trans hcs, fun b hb => .inl ?_⟩
            · rw [hak]
              refine ⟨hA4.set 2 _, H.out.wait.chg (hC4.trans hcs) (by simp; exact H.out.wait.ne H.out.str (by decide)), hdr.chg (hC4.trans hcs) (by simp; exact hdr.ne H.out.str (by decide))⟩
            · rw [hA'] at hb
              split at hb <;> exact hb
          have HF := Lib.hid hfin
          have hif := hA'.symm
          have hap1 : (N : Int) ≤ (x.air.length : Nat) := by omega
          have hap0 : (0 : Int) ≤ (N : Nat) := by omega
          have hap2 : (x.air.length : Int) ≤ (vc : Nat) := by omega
          clear hfin hak hA' hA4 hC4
          go_wp2_with fail
          go_ret
          exact HF.out
end Go.Proofs.Ytkmjpphmciaklaa
namespace Go.Proofs.Ytkmjpphmciaklaa
open Go.RowKit
set_option linter.unusedVariables false
set_option linter.unusedSimpArgs false

/-- A row of packets of the sender's own. -/
def SeqT (w : World) (v : Value) (out : List (Int × List Int)) : Prop :=
  ∃ a c, v = .slice a out.length c ∧ ∀ k (hk : k < out.length), ∃ g d, a = some ⟨g, 0, none⟩ ∧ IsT w g 31 ∧ w.cell? ⟨g, k * 2, none⟩ = some (.int .u32 (out[k]'hk).1) ∧ w.cell? ⟨g, k * 2 + 1, none⟩ = some d ∧ Bytes w d (out[k]'hk).2
theorem OutIs.seqT {w : World} {base : Nat} {v : Value} {out : List (Int × List Int)} (h : OutIs w base v out) : SeqT w v out := by
  obtain ⟨o, ⟨hl, ho⟩, hr⟩ := h
  have hlen := hr.len
  rcases ho with ⟨rfl, h0⟩ | ⟨g, cap, cur, rfl, hg, hb, hn, hcap, hsz, htk⟩
  · exact ⟨none, 0, by rw [← hlen, h0], fun k hk => by omega⟩
  · refine ⟨_, _, by rw [hlen], fun k hk => ?_⟩
    have hk' : k < o.length := by omega
    obtain ⟨e1, e2⟩ := cellsOf_at hk'
    obtain ⟨r1, r2⟩ := hr.at hk' hk
    rw [← htk] at e1 e2
    rw [List.getElem?_take_of_lt (by omega)] at e1 e2
    refine ⟨g, o[k].2, rfl, ⟨_, _, hb⟩, ?_, ?_, r2⟩
    · rw [← r1]; simpa [World.cell?, hb] using e1
    · simpa [World.cell?, hb] using e2
theorem SeqT.chg {F : List Nat} {w w' : World} {v : Value} {out : List (Int × List Int)} (h : SeqT w v out) (c : Chg F w w') (hF : ∀ x ∈ F, IsT w x 29) : SeqT w' v out := by
  obtain ⟨a, n, hv, hk⟩ := h
  refine ⟨a, n, hv, fun k hl => ?_⟩
  obtain ⟨g, d, h1, ht, h2, h3, h4⟩ := hk k hl
  have hb := World.block_lt_of_cell? w _ h2
  have hg : g ∉ F := fun hm => (hF g hm).ne ht (by decide) rfl
  obtain ⟨cs, fz, e⟩ := ht
  exact ⟨g, d, h1, ⟨cs, fz, (c.block g hb hg).trans e⟩, (c.cell (p := ⟨g, k * 2, none⟩) hb hg).trans h2, (c.cell (p := ⟨g, k * 2 + 1, none⟩) hb hg).trans h3, h4.chg c (fun b hb => (hF b hb).noB (by decide))⟩

/-- i of what was sent are behind the row. -/
structure PumpMid (p pr g : Nat) (P : List (List Int)) (n : Nat) (out : List (Int × List Int)) (o : Value) (i : Nat) (v6 v7 : Value) (a : Snd (List Int)) (w wr : World) : Prop where
  row6 : RowS (BytS (· < w.heap.size) wr) wr w.heap.size v6 P
  row7 : RowS (Bytes wr) wr w.heap.size v7 (P.take (n + i))
  sep : ∀ b, v6.ownBlock = some b → v7.ownBlock ≠ some b
  sep6 : v6.ownBlock ≠ some g
  sep7 : v7.ownBlock ≠ some g
  snd : ∃ va fr, SndIs wr w.heap.size p pr g va fr a
  seq : SeqT wr o out
  chg : Chg [] w wr

/-- What is sent: of the numbers behind the last one, and of what waited. -/
structure Sends (first : Int) (P : List (List Int)) (n : Nat) (out : List (Int × List Int)) (a' : Snd (List Int)) : Prop where
  all : n + out.length ≤ P.length
  at_ : ∀ j (hj : j < out.length), (out[j]'hj).1 = numK first (n + j) ∧ P[n + j]? = some (out[j]'hj).2
  nx : a'.nx = numK first (n + out.length)
  wait : P.drop (n + out.length) = a'.wait
  airs : (a'.air.length : Int) ≤ a'.s

theorem OnceSt.sends {first : Int} {p pr g k n : Nat} {now now' : Int} {P : List (List Int)} {v6 v7 : Value} {a : Snd (List Int)} {w wr : World} (h : OnceSt first p pr g k now P n v6 v7 a w wr) (hk : k ≤ 1000) : Sends first P n (a.pump now').2 (a.pump now').1 := by
  have hp := h.plen
  have hw := h.wait
  have hwl : a.wait.length = P.length - n := by rw [← hw, List.length_drop]
  obtain ⟨m, h1, h2, h3, h4, h5, h6⟩ := pumpF_spec a.s now' a.wait a.nx a.air h.ok.nx0 h.ok.nx1 h.airs (by omega)
  have hn := h.nown
  have e : (a.pump now').2 = (pumpF a.s now' a.nx a.air a.wait).1 := rfl
  have el : (a.pump now').2.length = m := by rw [e]; exact h2
  refine ⟨by rw [el]; omega, fun j hj => ?_, ?_, ?_, h6⟩
  · rw [el] at hj
    have hj' : j < a.wait.length := by omega
    have h7 := h3 j (a.wait[j]'hj') hj (List.getElem?_eq_getElem hj')
    have h8 : (a.pump now').2[j]? = some (numK a.nx j, a.wait[j]'hj') := h7
    have h9 := (List.getElem?_eq_some_iff.1 h8).2
    rw [h9]
    refine ⟨?_, ?_⟩
    · show numK a.nx j = _
      rw [h.nx]; unfold numK; omega
    · show P[n + j]? = some (a.wait[j]'hj')
      rw [← List.getElem?_eq_getElem hj', ← hw, List.getElem?_drop]
  · show (pumpF a.s now' a.nx a.air a.wait).2.1 = _
    rw [h4, el, h.nx]; unfold numK; omega
  · show P.drop _ = (pumpF a.s now' a.nx a.air a.wait).2.2.2
    rw [h5, el, ← hw, List.drop_drop]

theorem OnceSt.mid {first : Int} {p pr g k n fr fr' base : Nat} {now : Int} {P : List (List Int)} {v6 v7 va va' o : Value} {a a' : Snd (List Int)} {out : List (Int × List Int)} {w wr w' : World} (h : OnceSt first p pr g k now P n v6 v7 a w wr) (hS : SndIs wr w.heap.size p pr g va fr a)
    (hS' : SndIs w' w.heap.size p pr g va' fr' a') (c : Chg (sndF p pr g va) wr w') (ho : OutIs w' base o out) : PumpMid p pr g P n out o 0 v6 v7 a' w w' := by
  obtain ⟨r6, r7, hc⟩ := h.rows hS c
  exact ⟨r6, r7, h.sep, h.sep6, h.sep7, ⟨va', fr', hS'⟩, ho.seqT, hc⟩

theorem PumpMid.push {first : Int} {p pr g n i : Nat} {P : List (List Int)} {out : List (Int × List Int)} {o v6 v7 : Value} {a : Snd (List Int)} {w w2 : World} (h : PumpMid p pr g P n out o i v6 v7 a w w2) (hs : Sends first P n out a) (hP : P.length ≤ 1000) (hi : i < out.length) :
    ∃ gb A dl dc oc, o = .slice (some ⟨gb, 0, none⟩) out.length oc ∧ w2.cell? ⟨gb, i * 2, none⟩ = some (.int .u32 (numK first (n + i))) ∧ w2.cell? ⟨gb, i * 2 + 1, none⟩ = some (.slice A dl dc) ∧
    ∃ v' w', (Builtin.append_ #[63, 63] 63 #[v7, .slice (some ⟨w2.heap.size, 0, none⟩) 1 1]).run Try.prog (w2.alloc (.cells #[.slice A dl dc] 29)) = .ok v' w' ∧ PumpMid p pr g P n out o (i + 1) v6 v' a w w' := by
  obtain ⟨oa, oc, ho, hat⟩ := h.seq
  obtain ⟨gb, dv, rfl, ht, e0, e1, hb⟩ := hat i hi
  obtain ⟨f0, f1⟩ := hs.at_ i hi
  rw [f0] at e0
  obtain ⟨A, dl, dc, rfl⟩ := hb.slice
  have hall := hs.all
  refine ⟨gb, A, dl, dc, oc, ho, e0, e1, ?_⟩
  have hl7 : ∀ b ∈ v7.ownBlock.toList, w.heap.size ≤ b := fun b hb => (h.row7.lt b (by simpa using hb)).1
  have ht7 : ∀ b ∈ v7.ownBlock.toList, IsT w2 b 29 := fun b hb => h.row7.isT (by simpa using hb)
  have hnb : ∀ b ∈ v7.ownBlock.toList, NoB w2 b := fun b hb => (ht7 b hb).noB (by decide)
  obtain ⟨v', w', r, r7', cc, hob⟩ := rowS_push (R' := Bytes w2) h.row7 h.chg.size (a := A) (n := dl) (c := dc) (d := (out[i]'hi).2) (by rw [List.length_take]; omega) (fun _ _ _ _ h => h) (fun _ _ => hb)
  refine ⟨v', w', r, ?_⟩
  obtain ⟨va, fr, l2, hA2, hl2⟩ := h.snd
  have hn7 : ∀ b ∈ v7.ownBlock.toList, b ∉ sndF p pr g va := by
    intro b hb hm
    have e : v7.ownBlock = some b := by simpa using hb
    have ht := h.row7.isT e
    simp only [sndF, List.mem_cons] at hm
    rcases hm with rfl | rfl | rfl | hm
    · exact ht.ne hA2.str.isT (by decide) rfl
    · exact ht.ne hA2.ring.isT.1 (by decide) rfl
    · exact h.sep7 e
    · exact ht.ne (hA2.air.isT (by simpa using hm)) (by decide) rfl
  have htk : P.take (n + (i + 1)) = P.take (n + i) ++ [(out[i]'hi).2] := by
    rw [show n + (i + 1) = (n + i) + 1 from by omega, List.take_add_one, f1]; rfl
  refine ⟨h.row6.chg cc (fun b hb e => h.sep b e (by simpa using hb)) (fun u e hb => hb.chg cc (fun b _ hs hm => by have := hl7 b hm; omega)), ?_, fun b hb e => ?_, h.sep6, fun e => ?_, ⟨va, fr, l2, hA2.chg cc hn7, hl2.mono fun _ _ hb => hb.chg cc hnb⟩, h.seq.chg cc ht7, h.chg.trans' cc (fun b hb => Or.inr (hl7 b hb))⟩
  · rw [htk]
    exact r7'.chg (Chg.refl [] w') (by simp) (fun u e hb => hb.chg cc hnb)
  · rcases hob b e with h' | h'
    · exact h.sep b hb h'
    · have := (h.row6.lt b hb).2; omega
  · rcases hob g e with h' | h'
    · exact h.sep7 h'
    · have := hA2.ring.lt.2; omega

theorem PumpMid.done {first : Int} {p pr g k n : Nat} {now now' : Int} {P : List (List Int)} {out : List (Int × List Int)} {o v6 v7 v6' v7' : Value} {a a' : Snd (List Int)} {w w2 wr : World} (h : PumpMid p pr g P n out o out.length v6 v7 a' w w2) (h0 : OnceSt first p pr g k now P n v6' v7' a w wr) (hs : Sends first P n out a') (ok : a'.Ok) (hl : a'.lost = a.lost)
    (hn0 : now - 10 ≤ now') (hn1 : now' ≤ now + 100) : OnceSt first p pr g (k + 1) now' P (n + out.length) v6 v7 a' w w2 := by
  have h2 := h0.lost
  have h3 := h0.now0
  have h4 := h0.now1
  have h5 := h0.plen
  exact ⟨ok, hs.all, hs.wait, hs.nx, hs.airs, by rw [hl]; push_cast; omega, by push_cast; omega, by push_cast; omega, by omega, h0.data, h.row6, h.row7, h.sep, h.sep6, h.sep7, h.snd, h.chg⟩
theorem PumpMid.keep {p pr g n i : Nat} {P : List (List Int)} {out : List (Int × List Int)} {o v6 v7 : Value} {a : Snd (List Int)} {w w2 w' : World} (h : PumpMid p pr g P n out o i v6 v7 a w w2) (c : Chg [] w2 w') : PumpMid p pr g P n out o i v6 v7 a w w' := by
  obtain ⟨va, fr, hS⟩ := h.snd
  exact ⟨h.row6.chg c (by simp) (fun u d hb => hb.chg c (by simp)), h.row7.chg c (by simp) (fun u d hb => hb.chg c (by simp)), h.sep, h.sep6, h.sep7, ⟨va, fr, hS.keep c⟩, h.seq.chg c (by simp), h.chg.trans c⟩
end Go.Proofs.Ytkmjpphmciaklaa
