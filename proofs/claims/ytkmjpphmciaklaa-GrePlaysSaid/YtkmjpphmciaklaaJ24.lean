/- An end of a call: Tick. The reference's sender (catwalkref30): whole calls, of bytes. -/
import Derived.Test.YtkmjpphmciaklaaJ23
import Derived.Test.YtkmjpphmciaklaaJ19
namespace Go.Proofs.Ytkmjpphmciaklaa
open Go.RowKit
set_option linter.unusedVariables false
set_option linter.unusedSimpArgs false
attribute [local go_sem ↓] Go.wp_at_zero Go.wp_at_succ

def End.ticked (E : End) (now : Int) : End × List (Int × List Int) :=
  (⟨E.call, (E.s.late now).1, (E.r.tick now).1, decide (0 < (E.r.tick now).2.length) || E.owes, if decide (0 < (E.r.tick now).2.length) && !E.owes then now else E.since⟩, (E.r.tick now).2)
def End.due (E : End) (now : Int) : Bool := E.owes && decide (2 ≤ now - E.since) && E.r.nx != 0
/-- What is sent at a tick. -/
def End.tells (E : End) (now : Int) : End × List (Tun (List Int)) :=
  if (E.pumped now).1.due now then ((E.pumped now).1.paid, (E.pumped now).2 ++ [(E.pumped now).1.ack ⟨E.call, false, 0, false, 0, []⟩]) else E.pumped now

theorem tick_fin {w wq w7 : World} {B q : Nat} {F0 F2 : List Nat} {E3 : End} {o1 o2 : Value} {ds : List (List Int)} {ts : List (Tun (List Int))} (hc : Chg F0 w wq) (hT : RowT (Bytes wq) wq w.heap.size o2 ts) (hE : EndOf wq B q F2 E3) (hF2 : ∀ b ∈ F2, b ∈ F0 ∨ w.heap.size ≤ b)
    (hF0 : ∀ b ∈ F0, b < w.heap.size) (hrow : RowS (Bytes w7) w7 wq.heap.size o1 ds) (hc7 : Chg [] wq w7) : GivesPost B q F0 E3 ds ts w (.returned (.tuple #[o1, o2])) w7 := by
  have s1 := hc.size
  have s2 := hc7.size
  refine ⟨o1, o2, rfl, ?_, hT.keep hc7, fun b h1 h2 => ?_, fun b hb e => ?_, F2, hE.keep hc7, hc.trans' hc7 (by simp), hF2⟩
  · obtain ⟨l, r1, r2⟩ := hrow
    exact ⟨l, r1.mono s1, r2⟩
  · have k1 := (hrow.lt b h1).1
    have k2 := (hT.lt b h2).2
    omega
  · have k1 := (hrow.lt b e).1
    have k2 := hF0 b hb
    omega
/-- The bare ack goes behind what is sent. -/
theorem tell_step {w w5 w6 : World} {B q : Nat} {F0 F2 : List Nat} {E3 : End} {v u : Value} {out : List (Int × List Int)} {ts : List (Tun (List Int))} {call : Int} {ha : Bool} {ak : Int} (hc : Chg F0 w w5) (hT : RowT (Bytes w5) w5 w.heap.size u ts) (htl : ts.length ≤ 10000) (hE : EndOf w5 B q F2 E3) (hq : q ∈ F0) (hQ : SeqT w5 v out)
    (hack : E3.ack ⟨call, false, 0, false, 0, Value.slice none 0 0⟩ = ⟨call, false, 0, ha, ak, Value.slice none 0 0⟩) (hE6 : EndOf w6 B q F2 E3.paid) (hc6 : Chg [q] w5 w6) :
    ∃ v' w7, (Builtin.append_ #[78, 78] 78 #[u, .slice (some ⟨w6.heap.size, 0, none⟩) 1 1]).run Try.prog (w6.alloc (.cells #[.int .u16 call, .bool false, .int .u32 0, .bool ha, .int .u32 ak, .slice none 0 0] 138)) = .ok v' w7 ∧
      RowT (Bytes w7) w7 w.heap.size v' (ts ++ [E3.ack ⟨call, false, 0, false, 0, []⟩]) ∧ EndOf w7 B q F2 E3.paid ∧ SeqT w7 v out ∧ Chg F0 w w7 := by
  have hqk := hE.kind q hE.q_mem
  have hqB : ∀ b ∈ [q], NoB w5 b := by simpa using hqk.2.2.1
  have hT6 : RowT (Bytes w6) w6 w.heap.size u ts := hT.chg hc6 (by
    intro b hb e
    simp at hb
    subst hb
    exact hqk.2.2.2.2.1 (hT.isT e)) (fun _ _ hb => hb.chg hc6 hqB)
  have hQ6 : SeqT w6 v out := hQ.chg2 hc6 (by simpa using ⟨hqk.2.2.2.1, hqk.2.2.1⟩)
  have hcw : Chg F0 w w6 := hc.trans' hc6 (fun b hb => by simp at hb; subst hb; exact .inl hq)
  obtain ⟨v', w7, happ, hr7, hcc, hob⟩ := rowT_push (R' := Bytes w6) hT6 hcw.size call false 0 ha ak (a := none) (n := 0) (c := 0) (d := []) (by omega) (fun _ _ _ _ h => h) (fun _ _ => Bytes.nil _)
  refine ⟨v', w7, happ, ?_⟩
  have ht : ∀ b ∈ u.ownBlock.toList, IsT w6 b 138 := fun b hb => hT6.isT (by simpa using hb)
  have hnb : ∀ b ∈ u.ownBlock.toList, NoB w6 b := fun b hb => (ht b hb).noB (by decide)
  have hl3 : ∀ b ∈ u.ownBlock.toList, w.heap.size ≤ b := fun b hb => (hT6.lt b (by simpa using hb)).1
  have e : E3.ack (⟨call, false, 0, false, 0, []⟩ : Tun (List Int)) = ⟨call, false, 0, ha, ak, []⟩ := by
    unfold End.ack at hack ⊢
    by_cases hz : E3.r.nx = 0
    · rw [if_pos hz] at hack ⊢
      simp only [Tun.mk.injEq] at hack ⊢
      exact ⟨trivial, trivial, trivial, hack.2.2.2.1, hack.2.2.2.2.1, trivial⟩
    · rw [if_neg hz] at hack ⊢
      simp only [Tun.mk.injEq] at hack ⊢
      exact ⟨trivial, trivial, trivial, hack.2.2.2.1, hack.2.2.2.2.1, trivial⟩
  rw [e]
  exact ⟨hr7.chg (Chg.refl [] w7) (by simp) (fun u e hb => hb.chg hcc hnb), hE6.chg hcc (fun b hb hm => (hE6.kind b hm).2.2.2.2.1 (ht b hb)) hnb, hQ6.chg2 hcc (fun x hx => ⟨fun hT => (ht x hx).ne hT (by decide) rfl, hnb x hx⟩), hcw.trans' hcc (fun b hb => Or.inr (hl3 b hb))⟩

set_option maxRecDepth 100000 in
set_option maxHeartbeats 2000000 in
theorem tick_end (w : World) (B q : Nat) (F : List Nat) (E : End) (now : Int) (h : EndOf w B q F E) (ok : E.Ok) (hB : B ≤ w.heap.size) (hn0 : 0 ≤ now) (hn1 : now ≤ 100000000) (hlost : E.s.lost ≤ 999999000) :
    Calls Try.prog 72 #[.pointer (some ⟨q, 0, none⟩), .int .i64 now] w
      (GivesPost B q F ((E.ticked now).1.tells now).1 ((E.ticked now).2.map (·.2)) ((E.ticked now).1.tells now).2 w) := by
  have hFl : ∀ b ∈ F, b < w.heap.size := fun b hb => (h.kind b hb).2.1
  obtain ⟨p, pr, g, va, fr, rp, m, rfl, hE⟩ := h.at
  have OK := Lib.hid ok
  have HE := Lib.hid hE
  have CT := Lib.hid (late_is w B p pr g va fr E.s now hE.snd ok.s (by omega) (by omega))
  obtain ⟨c0, c1, c2, c3, c4, _⟩ := hE.str.five
  have HFL := Lib.hid hFl
  clear h ok hE hFl
  go_enter Try.func72, Try.ntmps72
  go_wp2_with fail
  refine CT.out.mono ?_
  rintro e w1 ⟨va1, rfl, hS1, hc1, hva1⟩
  have hE1 := HE.out.snd_to hS1 hc1
  have HS1k := Lib.hid (Snd.late_ok OK.out.s now hlost).1
  obtain ⟨d0, d1, d2, d3, d4, _⟩ := hE1.str.five
  have C2 := Lib.hid (tick_is rp m E.r now w1 hE1.rcv OK.out.r (by have := OK.out.rl; omega) hn0 (by omega) OK.out.rs0 (by have := OK.out.rs1; omega))
  have HE1 := Lib.hid hE1
  have HC1 := Lib.hid hc1
  have HV1 := Lib.hid hva1
  clear hS1 hc1 hva1 hE1 CT c0 c1 c2 c3 c4
  go_wp2_with fail
  refine C2.out.mono ?_
  rintro e w2 ⟨o, rfl, hO, hR2, hc2⟩
  have hE2 := HE1.out.rcv_to hR2 hc2
  have hQ := hO.seqT
  obtain ⟨oa, oc, hv⟩ := hQ.slice
  subst hv
  obtain ⟨out, hout⟩ : ∃ out, out = (E.r.tick now).2 := ⟨_, rfl⟩
  rw [← hout] at hQ ⊢
  have hol : out.length ≤ 9 := by
    have h1 := Rcv.tick_out (r := E.r) (now := now)
    have h2 := OK.out.rl
    rw [hout]; omega
  have HOUT := Lib.hid hout
  have HE2 := Lib.hid hE2
  have HC2 := Lib.hid hc2
  have HQ := Lib.hid hQ
  obtain ⟨d0, d1, d2, d3, d4, fz⟩ := hE2.str.five
  simp only at d3 d4
  have f3 := fz 3
  have f4 := fz 4
  clear hO hR2 hc2 hE2 hQ hout fz C2
  go_upto_region 3 with (fail)
  go_cut [29] (fun s29 wq => s29 = .bool (decide (0 < out.length) && !E.owes) ∧ wq = w2)
  case first =>
    by_cases hl : 0 < out.length
    · have hl' : (0 : Int) < (out.length : Int) := by omega
      have hb : decide (0 < out.length) = true := decide_eq_true hl
      go_wp2_with fail
      go_meet
      exact ⟨by rw [hb]; rfl, rfl⟩
    · have hl' : ¬ (0 : Int) < (out.length : Int) := by omega
      have hb : decide (0 < out.length) = false := decide_eq_false hl
      go_wp2_with fail
      go_meet
      exact ⟨by rw [hb]; rfl, rfl⟩
  case rest =>
    obtain ⟨rfl, rfl⟩ := hcut
    obtain ⟨w2', hw2'⟩ : ∃ z, z = wc := ⟨_, rfl⟩
    subst hw2'
    go_upto_if 29 with (fail)
    go_cut [] (fun wq => EndAt wq B q p pr g va1 fr rp m (E.ticked now).1 ∧ SeqT wq (.slice oa out.length oc) out ∧ Chg [q] w2' wq)
    case first =>
      cases hbb : (decide (0 < out.length) && !E.owes) with
      | false =>
        go_wp2_with fail
        go_meet
        have e : (E.ticked now).1 = ⟨E.call, (E.s.late now).1, (E.r.tick now).1, E.owes, E.since⟩ := by
          unfold End.ticked
          rw [← HOUT.out, hbb]
          cases how : E.owes <;> simp [how] at hbb ⊢
          exact hbb
        rw [e]
        exact ⟨HE2.out, HQ.out, Chg.refl _ _⟩
      | true =>
        go_wp2_with fail
        go_meet
        have e : (E.ticked now).1 = ⟨E.call, (E.s.late now).1, (E.r.tick now).1, true, now⟩ := by
          unfold End.ticked
          rw [← HOUT.out, hbb]
          simp at hbb
          simp [hbb.1]
        have hcs : Chg [q] w2' ((w2'.setCell ⟨q, 3, none⟩ (.bool true)).setCell ⟨q, 4, none⟩ (.int .i64 now)) := ((Chg.refl [q] w2').set (by simp) _).set (by simp) _
        have hA2 := HE2.out.str
        have h := HE2.out.own_to (w' := (w2'.setCell ⟨q, 3, none⟩ (.bool true)).setCell ⟨q, 4, none⟩ (.int .i64 now)) (ow := true) (si := now) ((hA2.set 3 _).set 4 _) hcs
        rw [e]
        exact ⟨h, HQ.out.chg2 hcs (by
          intro x hx
          simp at hx
          subst hx
          exact ⟨fun hT => hA2.isT.ne hT (by decide) rfl, hA2.noB (by decide)⟩), hcs⟩
    case rest =>
      obtain ⟨hE3, hQ3, hc3⟩ := hcut
      obtain ⟨w3, hw3⟩ : ∃ z, z = wc := ⟨_, rfl⟩
      subst hw3
      obtain ⟨E1, hE1⟩ : ∃ E1, E1 = (E.ticked now).1 := ⟨_, rfl⟩
      rw [← hE1] at hE3
      have hs1k : E1.s.Ok := by rw [hE1]; exact HS1k.out
      have hnx : 0 ≤ E1.r.nx ∧ E1.r.nx < 4294967296 := by
        rw [hE1]
        have h := Rcv.tick_ok (now := now) OK.out.r
        exact ⟨h.nx0, h.nx1⟩
      have hsi : 0 ≤ E1.since ∧ E1.since ≤ 100000000 := by
        rw [hE1]
        have k0 := OK.out.si0
        have k1 := OK.out.si1
        unfold End.ticked
        simp only
        split
        · exact ⟨hn0, hn1⟩
        · exact ⟨k0, k1⟩
      have hF : ∀ b ∈ endF q p pr g va1 rp m, b ∈ endF q p pr g va rp m ∨ w.heap.size ≤ b := fun b hb => endF_va HV1.out b hb
      have hcw : Chg (endF q p pr g va rp m) w w3 :=
        (((HC1.out.mono (fun b hb => by left; simp [endF, hb])).trans' HC2.out (fun b hb => by simp at hb; left; simp [endF]; rcases hb with rfl | rfl <;> simp))).trans' hc3 (fun b hb => by simp at hb; subst hb; left; simp [endF])
      have hB3 : B ≤ w3.heap.size := Nat.le_trans hB hcw.size
      have HFN : Hid (∀ e w', GivesPost B q (endF q p pr g va rp m) (E1.tells now).1 (out.map (·.2)) (E1.tells now).2 w e w' → GivesPost B q (endF q p pr g va rp m) ((E.ticked now).1.tells now).1 ((E.ticked now).2.map (·.2)) ((E.ticked now).1.tells now).2 w e w') := Lib.hid (fun e w' h => by
        rw [hE1, HOUT.out] at h; exact h)
      obtain ⟨y0, y1, y2, y3, y4, _⟩ := hE3.str.five
      have CP := Lib.hid (pump_is w3 B p pr g va1 fr E1.s now hE3.snd hB3 hs1k)
      have hlen := Snd.pump_len hs1k now
      have HE3 := Lib.hid hE3
      have HQ3 := Lib.hid hQ3
      have HF := Lib.hid hF
      have HCW := Lib.hid hcw
      clear hE3 hQ3 hc3 hF hcw hE1 HE1 HE2 HC1 HC2 HQ d0 d1 d2 d3 d4 f3 f4
      go_wp2_with fail
      refine CP.out.mono ?_
      rintro e w4 ⟨o, va2, fr2, rfl, hO, hS4, hc4, hva2⟩
      have hE4 := HE3.out.snd_to hS4 hc4
      have CK := Lib.hid (pack_any w4 B q _ _ o _ hE4.is hO.seqT (by omega) (Nat.le_trans hB3 hc4.size) hnx.1 hnx.2)
      obtain ⟨pa, pc, rfl, _⟩ := hO.seqT
      have hQ4 := HQ3.out.chg2 hc4 (fun x hx => ⟨(HE3.out.is.kind x (by simp [endF, hx])).2.2.2.1, (HE3.out.is.kind x (by simp [endF, hx])).2.2.1⟩)
      have hcw4 : Chg (endF q p pr g va rp m) w w4 := HCW.out.trans' hc4 (fun b hb => HF.out b (by simp [endF, hb]))
      have hF2 : ∀ b ∈ endF q p pr g va2 rp m, b ∈ endF q p pr g va rp m ∨ w.heap.size ≤ b := fun b hb => by
        rcases endF_va hva2 b hb with h' | h'
        · exact HF.out b h'
        · have := HCW.out.size; right; omega
      have hqk := hE4.is.kind q (by simp [endF])
      have HQ4 := Lib.hid hQ4
      have HCW4 := Lib.hid hcw4
      have HF2 := Lib.hid hF2
      have HQK := Lib.hid hqk
      clear hO hS4 hc4 hva2 hE4 hQ4 hcw4 hF2 hqk CP y0 y1 y2 y3 y4
      go_wp2_with fail
      refine CK.out.mono ?_
      rintro e w5 ⟨o3, rfl, hT, hE5, hc5⟩
      obtain ⟨E2, hE2⟩ : ∃ E2, E2 = (E1.pumped now).1 := ⟨_, rfl⟩
      obtain ⟨ts, hts⟩ : ∃ ts, ts = (E1.pumped now).2 := ⟨_, rfl⟩
      have hE5' : EndOf w5 B q (endF q p pr g va2 rp m) E2 := by rw [hE2]; exact hE5
      have hT' : RowT (Bytes w5) w5 w.heap.size o3 ts := by
        rw [hts]
        obtain ⟨l, r1, r2⟩ := hT
        exact ⟨l, r1.mono HCW4.out.size, r2⟩
      have htl : ts.length ≤ 16 := by rw [hts]; unfold End.pumped; simpa using hlen
      have hQ5 : SeqT w5 (.slice oa out.length oc) out := HQ4.out.chg2 hc5 (by
        intro x hx
        simp at hx
        subst hx
        exact ⟨HQK.out.2.2.2.1, HQK.out.2.2.1⟩)
      have hcw5 : Chg (endF q p pr g va rp m) w w5 := HCW4.out.trans' hc5 (fun b hb => by simp at hb; subst hb; left; simp [endF])
      have hpr : E2.r = E1.r ∧ E2.call = E1.call ∧ E2.since = E1.since := by
        rw [hE2]
        unfold End.pumped End.paidN
        simp only
        split
        · exact ⟨rfl, rfl, rfl⟩
        · have h := End.paid_r { E1 with s := (E1.s.pump now).1 }
          exact ⟨h.1, h.2.1, h.2.2.2.1⟩
      obtain ⟨p', pr', g', va', fr', rp', m', hF', hE5a⟩ := hE5'.at
      obtain ⟨y0, y1, y2, y3, y4, _⟩ := hE5a.str.five
      obtain ⟨r, hr, hrel⟩ := hE5a.rcv
      have CN : ∀ w', Chg [] w5 w' → Calls Try.prog 27 #[.pointer (some ⟨rp', 0, none⟩)] w' fun e w'' => e = .returned (.int .u32 E2.r.nx) ∧ w' = w'' := fun w' c => by
        have h := next_any rp' m' r w' (hr.chg c (by simp) (by simp))
        rw [hrel.1] at h
        exact h
      have hs2 : 0 ≤ E2.since ∧ E2.since ≤ 100000000 := by rw [hpr.2.2]; exact hsi
      have hn2 : 0 ≤ E2.r.nx ∧ E2.r.nx < 4294967296 := by rw [hpr.1]; exact hnx
      have HCN := Lib.hid CN
      have HT := Lib.hid hT'
      have HE5 := Lib.hid hE5'
      have HQ5 := Lib.hid hQ5
      have HCW5 := Lib.hid hcw5
      have HP := Lib.hid (And.intro hE2 (And.intro hts hpr))
      obtain ⟨ta, tc, htv⟩ := hT'.slice
      subst htv
      clear hT hE5 hc5 hE2 hts hE5' hT' hQ5 hcw5 hpr hF' hE5a hr hrel CN CK
      go_upto_region 6 with (fail)
      go_cut [65] (fun s65 wq => s65 = .bool (E2.due now) ∧ wq = w5)
      case first =>
        cases how : E2.owes with
        | false =>
          rw [how] at y3
          go_wp2_with fail
          go_meet
          exact ⟨by unfold End.due; rw [how]; rfl, rfl⟩
        | true =>
          rw [how] at y3
          by_cases h2 : 2 ≤ now - E2.since
          · have h2b : decide (2 ≤ now - E2.since) = true := decide_eq_true h2
            go_wp2_with fail
            refine (HCN.out _ (Chg.refl _ _)).mono ?_
            rintro e w' ⟨rfl, rfl⟩
            go_wp2_with fail
            go_meet
            exact ⟨by unfold End.due; rw [how, h2b]; rfl, rfl⟩
          · have h2b : decide (2 ≤ now - E2.since) = false := decide_eq_false h2
            go_wp2_with fail
            go_meet
            exact ⟨by unfold End.due; rw [how, h2b]; rfl, rfl⟩
      case rest =>
        obtain ⟨rfl, rfl⟩ := hcut
        obtain ⟨w5', hw5'⟩ : ∃ z, z = wc := ⟨_, rfl⟩
        subst hw5'
        go_upto_if 65 with (fail)
        go_cut [7] (fun s7 wq => RowT (Bytes wq) wq w.heap.size s7 (E1.tells now).2 ∧ EndOf wq B q (endF q p pr g va2 rp m) (E1.tells now).1 ∧ SeqT wq (.slice oa out.length oc) out ∧ Chg (endF q p pr g va rp m) w wq)
        case first =>
          cases hdue : E2.due now with
          | false =>
            go_wp2_with fail
            go_meet
            have e : E1.tells now = (E2, ts) := by
              unfold End.tells
              rw [← HP.out.1, hdue]
              rw [HP.out.1, HP.out.2.1]
              rfl
            rw [e]
            exact ⟨HT.out, HE5.out, HQ5.out, HCW5.out⟩
          | true =>
            have CA := Lib.hid (ack_end w5' B q _ E2 E1.call false 0 false 0 none 0 0 HE5.out hn2.1 hn2.2)
            have hcall : w5'.cell? ⟨q, 0, none⟩ = some (.int .u16 E1.call) := by rw [y0, HP.out.2.2.2.1]
            clear y0
            go_wp2_with fail
            refine CA.out.mono ?_
            rintro e w6 ⟨ha, ak, rfl, hack, hE6, hc6⟩
            obtain ⟨v', w7, happ, hfin⟩ := tell_step HCW5.out HT.out (by omega) HE5.out (by simp [endF]) HQ5.out hack hE6 hc6
            have HFI := Lib.hid hfin
            clear hack hE6 hc6 hfin CA hcall y1 y2 y3 y4
            go_wp2_with (at_builtin; refine wpList_app_eq rfl _ _ 78 rfl rfl rfl happ ?_)
            clear happ
            go_meet
            have e : E1.tells now = (E2.paid, ts ++ [E2.ack ⟨E1.call, false, 0, false, 0, []⟩]) := by
              unfold End.tells
              rw [← HP.out.1, hdue, ← HP.out.2.1]
              rfl
            rw [e]
            exact HFI.out
        case rest =>
          obtain ⟨hT7, hE7, hQ7, hc7⟩ := hcut
          have CD := Lib.hid (data_any wc _ out hQ7 (by omega))
          have HT7 := Lib.hid hT7
          have HE7 := Lib.hid hE7
          have HC7 := Lib.hid hc7
          obtain ⟨sa, sc, hv7⟩ := hT7.slice
          clear hT7 hE7 hQ7 hc7 y0 y1 y2 y3 y4
          go_wp2_with fail
          refine CD.out.mono ?_
          rintro e w8 ⟨o1, rfl, hrow, hc8⟩
          have hfin := tick_fin HC7.out HT7.out HE7.out HF2.out HFL.out hrow hc8
          have HFI := Lib.hid (HFN.out _ _ hfin)
          clear hrow hc8 hfin CD hv7
          go_wp2_with fail
          go_ret2
          exact HFI.out
end Go.Proofs.Ytkmjpphmciaklaa
namespace Go.Proofs.Ytkmjpphmciaklaa
open Go.RowKit
set_option linter.unusedVariables false
set_option linter.unusedSimpArgs false
attribute [local go_sem ↓] Go.wp_at_zero Go.wp_at_succ

theorem RelV.forms {S : Nat → Prop} {w : World} : ∀ {l : List Value} {m : List (List Int)}, RelV (BytS S w) l m → ∀ u ∈ l, ∃ a n c, u = .slice a n c
  | [], [], _, u, h => by cases h
  | x :: l, y :: m, hr, u, h => by
    rcases List.mem_cons.1 h with rfl | h
    · exact hr.1.slice
    · exact RelV.forms hr.2 u h
  | [], _ :: _, hr, _, _ => hr.elim
  | _ :: _, [], hr, _, _ => hr.elim
theorem BytS.kept {B : Nat} {F : List Nat} {w w' : World} {v : Value} {d : List Int} (h : BytS (· < B) w v d) (c : Chg F w w') (hF : ∀ b ∈ F, B ≤ b) : BytS (· < B) w' v d :=
  h.chg c (fun g _ hs hm => by have := hF g hm; omega)
/-- The reference's sender holds a. -/
def RSIs (w : World) (B p : Nat) (vw va : Value) (a : Snd (List Int)) : Prop := ∃ l, RSAt w p vw va (a.at l) ∧ RelV (BytS (· < B) w) l a.wait
section
variable {w w' : World} {B p : Nat} {vw va : Value} {a : Snd (List Int)}
theorem RSIs.chg {F : List Nat} (h : RSIs w B p vw va a) (c : Chg F w w') (hF : ∀ b ∈ F, b ∉ rsF p vw va) (hB : ∀ b ∈ F, B ≤ b) : RSIs w' B p vw va a := by
  obtain ⟨l, h1, h2⟩ := h
  exact ⟨l, h1.chg c hF, h2.mono fun _ _ hb => hb.kept c hB⟩
theorem RSIs.keep (h : RSIs w B p vw va a) (c : Chg [] w w') : RSIs w' B p vw va a := h.chg c (by simp) (by simp)
theorem RSIs.kind (h : RSIs w B p vw va a) : ∀ b ∈ rsF p vw va, IsT w b 153 ∨ IsT w b 29 ∨ IsT w b 166 := by
  obtain ⟨l, h1, _⟩ := h
  exact h1.kind
end
/-- What a call of the reference's sender leaves. -/
def RSPost (B p : Nat) (vw va : Value) (a' : Snd (List Int)) (w w' : World) : Prop := ∃ vw' va', RSIs w' B p vw' va' a' ∧ Chg [p] w w' ∧ From vw' vw w.heap.size ∧ From va' va w.heap.size
theorem rsi_push (w : World) (B p : Nat) (vw va : Value) (a : Snd (List Int)) (v : Value) (d : List Int) (h : RSIs w B p vw va a) (hp : B ≤ p) (ok : a.Ok) (hv : BytS (· < B) w v d) :
    Calls Try.prog 105 #[.pointer (some ⟨p, 0, none⟩), v] w fun e w' => e = .returned (.bool (decide (a.wait.length < 16))) ∧ RSPost B p vw va (a.push d) w w' := by
  obtain ⟨l, h1, h2⟩ := h
  obtain ⟨x, n, c, rfl⟩ := hv.slice
  have hlen := h2.len
  have hll : (a.at l).wait.length = a.wait.length := hlen
  refine (rs_push w p vw va (a.at l) x n c h1 (by rw [hll]; exact ok.wait)).mono ?_
  rintro e w' ⟨rfl, vw', hS, hC, hw⟩
  have hFB : ∀ b ∈ [p], B ≤ b := fun b hb => by simp at hb; subst hb; exact hp
  have hw2 : RelV (BytS (· < B) w') l a.wait := h2.mono fun _ _ hb => hb.kept hC hFB
  refine ⟨by rw [hll], vw', va, ?_, hC, fun b hb => ?_, From.refl _ _⟩
  · unfold Snd.push at hS ⊢
    by_cases hlt : a.wait.length < 16
    · rw [if_pos (by rw [hll]; exact hlt)] at hS
      rw [if_pos hlt]
      exact ⟨l ++ [Value.slice x n c], hS, hw2.snoc (hv.kept hC hFB)⟩
    · rw [if_neg (by rw [hll]; exact hlt)] at hS
      rw [if_neg hlt]
      exact ⟨l, hS, hw2⟩
  · rcases hw with rfl | hw
    · exact .inl hb
    · exact .inr (hw b hb)
theorem rsi_pump (w : World) (B p : Nat) (vw va : Value) (a : Snd (List Int)) (now : Int) (h : RSIs w B p vw va a) (hp : B ≤ p) (ok : a.Ok) :
    Calls Try.prog 112 #[.pointer (some ⟨p, 0, none⟩), .int .i64 now] w fun e w' => ∃ o, e = .returned o ∧ OutR w' B w.heap.size o (a.pump now).2 ∧ RSPost B p vw va (a.pump now).1 w w' := by
  obtain ⟨l, h1, h2⟩ := h
  refine (rs_pump w p vw va (a.at l) now h1 (ok.at h2.len) h2.forms).mono ?_
  rintro e w' ⟨o, vw', va', rfl, hO, hS, hC, hw, hv⟩
  have hFB : ∀ b ∈ [p], B ≤ b := fun b hb => by simp at hb; subst hb; exact hp
  have hw2 : RelV (BytS (· < B) w') l a.wait := h2.mono fun _ _ hb => hb.kept hC hFB
  obtain ⟨r1, r2, r3, r4⟩ := pumpF_rel a.s now a.nx a.air hw2
  refine ⟨o, rfl, ⟨_, hO, r1⟩, vw', va', ⟨(pumpF a.s now a.nx a.air l).2.2.2, ?_, r4⟩, hC, hw, hv⟩
  have e : (Snd.at (a.pump now).1 (pumpF a.s now a.nx a.air l).2.2.2) = ((a.at l).pump now).1 := by
    show (⟨(pumpF a.s now a.nx a.air a.wait).2.1, (pumpF a.s now a.nx a.air a.wait).2.2.1, _, a.s, a.a, a.mo, a.m, a.d, a.lost⟩ : Snd Value) = ⟨(pumpF a.s now a.nx a.air l).2.1, (pumpF a.s now a.nx a.air l).2.2.1, _, a.s, a.a, a.mo, a.m, a.d, a.lost⟩
    rw [r2, r3]
    rfl
  rw [e]; exact hS
theorem rsi_ack (w : World) (B p : Nat) (vw va : Value) (a : Snd (List Int)) (now seq : Int) (h : RSIs w B p vw va a) (hp : B ≤ p) (ok : a.Ok) (hn0 : -1000000000 ≤ now) (hn1 : now ≤ 1000000000) (hs0 : 0 ≤ seq) (hs1 : seq < 4294967296) :
    Calls Try.prog 99 #[.pointer (some ⟨p, 0, none⟩), .int .i64 now, .int .u32 seq] w fun e w' => e = .returned (.int .i64 (a.ack now seq).2) ∧ RSPost B p vw va (a.ack now seq).1 w w' := by
  obtain ⟨l, h1, h2⟩ := h
  refine (rs_ack w p vw va (a.at l) now seq h1 (ok.at h2.len) hn0 hn1 hs0 hs1).mono ?_
  rintro e w' ⟨rfl, va', hS, hC, hv⟩
  have hFB : ∀ b ∈ [p], B ≤ b := fun b hb => by simp at hb; subst hb; exact hp
  have hwt : (a.ack now seq).1.wait = a.wait := by unfold Snd.ack; split <;> rfl
  rw [ack_at] at hS ⊢
  exact ⟨rfl, vw, va', ⟨l, hS, by rw [hwt]; exact h2.mono fun _ _ hb => hb.kept hC hFB⟩, hC, From.refl _ _, hv⟩
theorem rsi_late (w : World) (B p : Nat) (vw va : Value) (a : Snd (List Int)) (now : Int) (h : RSIs w B p vw va a) (hp : B ≤ p) (ok : a.Ok) (hn0 : -1000000000 ≤ now) (hn1 : now ≤ 1000000000) :
    Calls Try.prog 103 #[.pointer (some ⟨p, 0, none⟩), .int .i64 now] w fun e w' => e = .returned (.int .i64 (a.late now).2) ∧ RSPost B p vw va (a.late now).1 w w' := by
  obtain ⟨l, h1, h2⟩ := h
  refine (rs_late w p vw va (a.at l) now h1 (ok.at h2.len) hn0 hn1).mono ?_
  rintro e w' ⟨rfl, va', hS, hC, hv⟩
  have hFB : ∀ b ∈ [p], B ≤ b := fun b hb => by simp at hb; subst hb; exact hp
  have hwt : (a.late now).1.wait = a.wait := by
    unfold Snd.late
    split
    · rfl
    · split <;> rfl
  rw [late_at] at hS ⊢
  refine ⟨rfl, vw, va', ⟨l, hS, by rw [hwt]; exact h2.mono fun _ _ hb => hb.kept hC hFB⟩, hC, From.refl _ _, fun b hb => ?_⟩
  rcases hv with rfl | rfl
  · exact .inl hb
  · simp [Value.ownBlock] at hb
theorem rsi_clear (w : World) (B p : Nat) (vw va : Value) (a : Snd (List Int)) (h : RSIs w B p vw va a) :
    Calls Try.prog 98 #[.pointer (some ⟨p, 0, none⟩)] w fun e w' => e = .returned (.int .i64 a.wait.length) ∧ RSPost B p vw va { a with wait := [] } w w' := by
  obtain ⟨l, h1, h2⟩ := h
  have hll : (a.at l).wait.length = a.wait.length := h2.len
  refine (rs_clear w p vw va (a.at l) h1).mono ?_
  rintro e w' ⟨rfl, hS, hC⟩
  exact ⟨by rw [hll], .slice none 0 0, va, ⟨[], hS, trivial⟩, hC, fun b hb => by simp [Value.ownBlock] at hb, From.refl _ _⟩

/-- The reference's end lies at q; F are the blocks that it reads and writes. -/
structure REAt (w : World) (B q p : Nat) (vw va : Value) (rq : Nat) (v : Value) (E : End) : Prop where
  str : At w q 142 [.int .u16 E.call, .pointer (some ⟨p, 0, none⟩), .pointer (some ⟨rq, 0, none⟩), .bool E.owes, .int .i64 E.since]
  snd : RSIs w B p vw va E.s
  rcv : RefIs w B rq v E.r
  hq : B ≤ q
  hp : B ≤ p
  hr : B ≤ rq
def reF (q p : Nat) (vw va : Value) (rq : Nat) (v : Value) : List Nat := q :: (refF rq v ++ rsF p vw va)
section
variable {w w' : World} {B q p rq : Nat} {vw va v : Value} {E : End}
theorem RefIs.kind' (h : RefIs w B rq v E.r) : ∀ x ∈ refF rq v, IsT w x 55 ∨ IsT w x 31 := by
  obtain ⟨r, h1, _⟩ := h
  intro x hx
  rcases List.mem_cons.1 hx with rfl | hx
  · exact .inl h1.1.isT
  · exact .inr (h1.2.1.isT (by simpa using hx))
theorem REAt.chg {F : List Nat} (h : REAt w B q p vw va rq v E) (c : Chg F w w') (hF : ∀ b ∈ F, b ∉ reF q p vw va rq v) (hB : ∀ b ∈ F, B ≤ b) : REAt w' B q p vw va rq v E := by
  refine ⟨h.str.chg c (fun hm => hF q hm (by simp [reF])), h.snd.chg c (fun b hb hm => hF b hb (by simp [reF, hm])) hB, ?_, h.hq, h.hp, h.hr⟩
  obtain ⟨r, h1, h2⟩ := h.rcv
  exact ⟨r, h1.chg c (fun hm => hF rq hm (by simp [reF, refF])) (fun x hx e => hF x hx (by simp [reF, refF, e])), h2.mono fun _ _ hb => hb.kept c hB⟩
theorem REAt.keep (h : REAt w B q p vw va rq v E) (c : Chg [] w w') : REAt w' B q p vw va rq v E := h.chg c (by simp) (by simp)
theorem REAt.kind (h : REAt w B q p vw va rq v E) : ∀ b ∈ reF q p vw va rq v, IsT w b 142 ∨ IsT w b 55 ∨ IsT w b 31 ∨ IsT w b 153 ∨ IsT w b 29 ∨ IsT w b 166 := fun b hb => by
  rcases List.mem_cons.1 hb with rfl | hb
  · exact .inl h.str.isT
  rcases List.mem_append.1 hb with hb | hb
  · rcases h.rcv.kind' b hb with k | k
    · exact .inr (.inl k)
    · exact .inr (.inr (.inl k))
  · rcases h.snd.kind b hb with k | k | k
    · exact .inr (.inr (.inr (.inl k)))
    · exact .inr (.inr (.inr (.inr (.inl k))))
    · exact .inr (.inr (.inr (.inr (.inr k))))
/-- The sender's part has been called. -/
theorem REAt.snd_to (h : REAt w B q p vw va rq v E) {a' : Snd (List Int)} (k : RSPost B p vw va a' w w') : ∃ vw' va', REAt w' B q p vw' va' rq v { E with s := a' } ∧ Chg [p] w w' ∧ From vw' vw w.heap.size ∧ From va' va w.heap.size := by
  obtain ⟨vw', va', h1, h2, h3, h4⟩ := k
  have hpT : IsT w p 153 := by
    obtain ⟨l, h1, _⟩ := h.snd
    exact h1.str.isT
  have hFB : ∀ b ∈ [p], B ≤ b := fun b hb => by simp at hb; subst hb; exact h.hp
  refine ⟨vw', va', ⟨h.str.chg h2 (by simp; exact fun e => h.str.isT.ne hpT (by decide) e), h1, ?_, h.hq, h.hp, h.hr⟩, h2, h3, h4⟩
  obtain ⟨r, k1, k2⟩ := h.rcv
  exact ⟨r, k1.chg h2 (by simp; exact fun e => k1.1.isT.ne hpT (by decide) e) (fun x hx e => by simp at hx; subst hx; exact (k1.2.1.isT e).ne hpT (by decide) rfl), k2.mono fun _ _ hb => hb.kept h2 hFB⟩
end
end Go.Proofs.Ytkmjpphmciaklaa
