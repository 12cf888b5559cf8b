/- The reference's end (catwalkref32): Tick. GrePlays: an end's Clear, Air, Waiting, Lost. GrePlays: an end's Waiting, Lost. -/
import Derived.Test.YtkmjpphmciaklaaJ27
import Derived.Test.YtkmjpphmciaklaaJ24
import Derived.Deep.LoopGhost
import Derived.Deep.DeepCutAuto
import Derived.Deep.CutBlock
namespace Go.Proofs.Ytkmjpphmciaklaa
open Go.RowKit
set_option linter.unusedVariables false
set_option linter.unusedSimpArgs false
attribute [local go_sem ↓] Go.wp_at_zero Go.wp_at_succ

theorem rtell_step {w w5 w6 : World} {B q p rq : Nat} {vw va v lv u : Value} {F0 : List Nat} {E3 : End} {out : List (Int × List Int)} {ts : List (Tun (List Int))} {call : Int} {ha : Bool} {ak : Int} (hB : B ≤ w.heap.size) (hc : Chg F0 w w5)
    (hT : RowT (BytS (· < B) w5) w5 w.heap.size u ts) (htl : ts.length ≤ 1000) (hE : REAt w5 B q p vw va rq v E3) (hq : q ∈ F0) (hQ : OutR w5 B B lv out)
    (hack : E3.ack (⟨call, false, 0, false, 0, .slice none 0 0⟩ : Tun Value) = ⟨call, false, 0, ha, ak, .slice none 0 0⟩) (hE6 : REAt w6 B q p vw va rq v E3.paid) (hc6 : Chg [q] w5 w6) :
    ∃ v' w7, (Builtin.append_ #[78, 78] 78 #[u, .slice (some ⟨w6.heap.size, 0, none⟩) 1 1]).run Try.prog (w6.alloc (.cells #[.int .u16 call, .bool false, .int .u32 0, .bool ha, .int .u32 ak, .slice none 0 0] 138)) = .ok v' w7 ∧
      RowT (BytS (· < B) w7) w7 w.heap.size v' (ts ++ [E3.ack ⟨call, false, 0, false, 0, []⟩]) ∧ REAt w7 B q p vw va rq v E3.paid ∧ OutR w7 B B lv out ∧ Chg F0 w w7 := by
  have hqT := hE.str.isT
  have hqB : ∀ b ∈ [q], B ≤ b := fun b hb => by simp at hb; subst hb; exact hE.hq
  have hT6 : RowT (BytS (· < B) w6) w6 w.heap.size u ts := hT.chg hc6 (by
    intro b hb e
    simp at hb
    subst hb
    exact hqT.ne (hT.isT e) (by decide) rfl) (fun _ _ hb => hb.kept hc6 hqB)
  have hQ6 : OutR w6 B B lv out := hQ.chg hc6 hqB (fun b hb hT => by simp at hb; subst hb; exact hqT.ne hT (by decide) rfl)
  have hcw : Chg F0 w w6 := hc.trans' hc6 (fun b hb => by simp at hb; subst hb; exact .inl hq)
  obtain ⟨v', w7, happ, hr7, hcc, hob⟩ := rowT_push (R' := BytS (· < B) w6) hT6 hcw.size call false 0 ha ak (a := none) (n := 0) (c := 0) (d := []) (by omega) (fun _ _ _ _ h => h) (fun _ _ => ⟨none, 0, rfl, fun h => absurd rfl h⟩)
  refine ⟨v', w7, happ, ?_⟩
  have ht : ∀ b ∈ u.ownBlock.toList, IsT w6 b 138 := fun b hb => hT6.isT (by simpa using hb)
  have hl3 : ∀ b ∈ u.ownBlock.toList, w.heap.size ≤ b := fun b hb => (hT6.lt b (by simpa using hb)).1
  have hlB : ∀ b ∈ u.ownBlock.toList, B ≤ b := fun b hb => Nat.le_trans hB (hl3 b hb)
  have e : E3.ack (⟨call, false, 0, false, 0, []⟩ : Tun (List Int)) = ⟨call, false, 0, ha, ak, []⟩ := by
    unfold End.ack at hack ⊢
    by_cases hz : E3.r.nx = 0
    · rw [if_pos hz] at hack ⊢
      simp only [Tun.mk.injEq] at hack ⊢
      exact ⟨trivial, trivial, trivial, hack.2.2.2.1, hack.2.2.2.2.1, trivial⟩
    · rw [if_neg hz] at hack ⊢
      simp only [Tun.mk.injEq] at hack ⊢
      exact ⟨trivial, trivial, trivial, hack.2.2.2.1, hack.2.2.2.2.1, trivial⟩
  rw [e]
  refine ⟨hr7.chg (Chg.refl [] w7) (by simp) (fun u e hb => hb.kept hcc hlB), hE6.chg hcc (fun b hb hm => ?_) hlB, hQ6.chg hcc hlB (fun x hx hT => (ht x hx).ne hT (by decide) rfl), hcw.trans' hcc (fun b hb => Or.inr (hl3 b hb))⟩
  rcases hE6.kind b hm with k | k | k | k | k | k <;> exact (ht b hb).ne k (by decide) rfl

set_option maxRecDepth 100000 in
set_option maxHeartbeats 2000000 in
theorem re_tick (w : World) (B q p : Nat) (vw va : Value) (rq : Nat) (v : Value) (E : End) (now : Int) (h : REAt w B q p vw va rq v E) (ok : E.Ok) (hl : E.s.lost ≤ 900000000) (hB : B ≤ w.heap.size) (hn0 : 0 ≤ now) (hn1 : now ≤ 100000000) :
    Calls Try.prog 82 #[.pointer (some ⟨q, 0, none⟩), .int .i64 now] w
      (GivesRE B q (reF q p vw va rq v) ((E.ticked now).1.tells now).1 ((E.ticked now).2.map (·.2)) ((E.ticked now).1.tells now).2 w) := by
  have H := Lib.hid h
  have OK := Lib.hid ok
  have CT1 := Lib.hid (rsi_late w B p vw va E.s now h.snd h.hp ok.s (by omega) (by omega))
  have LOK := Lib.hid (Snd.late_ok ok.s now (by omega)).1
  obtain ⟨c0, c1, c2, c3, c4, _⟩ := h.str.five
  clear h ok
  go_enter Try.func82, Try.ntmps82
  go_wp2_with fail
  refine CT1.out.mono ?_
  rintro e w1 ⟨rfl, hP⟩
  obtain ⟨vw1, va1, hE1, hc1, hw1, hv1⟩ := H.out.snd_to hP
  have CT2 := Lib.hid (rtick_is B rq v E.r now w1 hE1.rcv (Nat.le_trans hB hc1.size) hE1.hr OK.out.r (by have := OK.out.rl; omega) hn0 (by omega) OK.out.rs0 (by have := OK.out.rs1; omega))
  obtain ⟨d0, d1, d2, _⟩ := hE1.str.five
  have HE1 := Lib.hid hE1
  have HC1 := Lib.hid hc1
  have HV1 := Lib.hid (And.intro hw1 hv1)
  clear hP hE1 hc1 hw1 hv1 CT1 c0 c1 c2 c3 c4
  go_wp2_with fail
  refine CT2.out.mono ?_
  rintro e w2 ⟨o, v2, rfl, hO, hR2, hc2⟩
  have hE2 := HE1.out.rcv_to hR2 hc2
  obtain ⟨out, hout⟩ : ∃ out, out = (E.r.tick now).2 := ⟨_, rfl⟩
  have hol : out.length ≤ 10000 := by
    rw [hout]
    have h1 := Rcv.tick_out (r := E.r) (now := now)
    have h2 := OK.out.rl
    omega
  rw [← hout] at hO
  obtain ⟨oa, oc, rfl⟩ := hO.slice
  have hQ : OutR w2 B B (.slice oa out.length oc) out := by
    obtain ⟨ol, r1, r2⟩ := hO
    exact ⟨ol, r1.mono (Nat.le_trans hB HC1.out.size), r2⟩
  have HE2 := Lib.hid hE2
  have HQ := Lib.hid hQ
  have HOUT := Lib.hid hout
  have HCW := Lib.hid (show Chg (reF q p vw va rq v) w w2 from (HC1.out.mono (fun b hb => by simp at hb; subst hb; left; rw [mem_reF]; simp)).trans (hc2.mono (fun b hb => by left; exact List.mem_cons_of_mem _ (List.mem_append_left _ hb))))
  clear hO hR2 hc2 hE2 hQ hout CT2 d0 d1 d2
  go_upto_if 22 with (fail)
  go_cut [] (fun wq => REAt wq B q p vw1 va1 rq v2 (E.ticked now).1 ∧ OutR wq B B (.slice oa out.length oc) out ∧ Chg [q] w2 wq)
  case first =>
    by_cases hpos : 0 < out.length
    · have CO := Lib.hid (re_owe w2 B q p vw1 va1 rq v2 _ now HE2.out)
      go_wp2_with fail
      refine CO.out.mono ?_
      rintro e w3 ⟨⟨u, rfl⟩, hE3, hc3⟩
      have hO3 : OutR w3 B B (.slice oa out.length oc) out := HQ.out.chg hc3 (fun b hb => by simp at hb; subst hb; exact HE2.out.hq) (fun b hb hT => by simp at hb; subst hb; exact HE2.out.str.isT.ne hT (by decide) rfl)
      have hfin : REAt w3 B q p vw1 va1 rq v2 (E.ticked now).1 := by
        have e1 : (E.ticked now).1 = ⟨E.call, (E.s.late now).1, (E.r.tick now).1, true, if E.owes then E.since else now⟩ := by
          unfold End.ticked
          rw [← HOUT.out, decide_eq_true hpos]
          cases how : E.owes <;> rfl
        rw [e1]
        exact hE3
      have HF := Lib.hid (And.intro hfin (And.intro hO3 hc3))
      clear hE3 hc3 hO3 hfin CO
      go_wp2_with fail
      go_meet
      exact HF.out
    · go_wp2_with fail
      go_meet
      refine ⟨?_, HQ.out, Chg.refl _ _⟩
      have e1 : (E.ticked now).1 = ⟨E.call, (E.s.late now).1, (E.r.tick now).1, E.owes, E.since⟩ := by
        unfold End.ticked
        rw [← HOUT.out, decide_eq_false hpos]
        rfl
      rw [e1]
      exact HE2.out
  case rest =>
    obtain ⟨hE3, hQ3, hc3⟩ := hcut
    obtain ⟨E1, hE1⟩ : ∃ E1, E1 = (E.ticked now).1 := ⟨_, rfl⟩
    rw [← hE1] at hE3
    have hnx : 0 ≤ E1.r.nx ∧ E1.r.nx < 4294967296 := by
      rw [hE1]
      have h := Rcv.tick_ok (now := now) OK.out.r
      exact ⟨h.nx0, h.nx1⟩
    have hsk : E1.s.Ok := by rw [hE1]; exact LOK.out
    have hsi : 0 ≤ E1.since ∧ E1.since ≤ 100000000 := by
      rw [hE1]
      unfold End.ticked
      have h1 := OK.out.si0
      have h2 := OK.out.si1
      simp only
      split <;> omega
    have hcw : Chg (reF q p vw va rq v) w wc := HCW.out.trans (hc3.mono (fun b hb => by simp at hb; subst hb; left; rw [mem_reF]; simp))
    have hBc : B ≤ wc.heap.size := Nat.le_trans hB hcw.size
    have hlen := Snd.pump_len hsk now
    have CP := Lib.hid (re_pump wc B q p vw1 va1 rq v2 E1 now hE3 hBc hsk hnx.1 hnx.2)
    have HE3 := Lib.hid hE3
    have HQ3 := Lib.hid hQ3
    have HCW3 := Lib.hid hcw
    have HEQ := Lib.hid hE1
    have HBC := Lib.hid hBc
    clear hE3 hQ3 hc3 hE1 hcw hBc HE2 HQ HCW
    go_wp2_with fail
    refine CP.out.mono ?_
    rintro e w5 ⟨o3, vw2, va2, rfl, hT, hE5, hc5, hw5, hv5⟩
    obtain ⟨E2, hE2⟩ : ∃ E2, E2 = (E1.pumped now).1 := ⟨_, rfl⟩
    obtain ⟨ts, hts⟩ : ∃ ts, ts = (E1.pumped now).2 := ⟨_, rfl⟩
    rw [← hE2] at hE5
    rw [← hts] at hT
    have hT' : RowT (BytS (· < B) w5) w5 w.heap.size o3 ts := by
      obtain ⟨l, r1, r2⟩ := hT
      exact ⟨l, r1.mono HCW3.out.size, r2⟩
    have htl : ts.length ≤ 16 := by rw [hts]; unfold End.pumped; simpa using hlen
    have hqp : ∀ b ∈ [q, p], B ≤ b := fun b hb => by simp at hb; rcases hb with rfl | rfl; exact hE5.hq; exact hE5.hp
    have hQ5 : OutR w5 B B (.slice oa out.length oc) out := HQ3.out.chg hc5 hqp (fun b hb hT => by
      simp at hb
      rcases hb with rfl | rfl
      · exact HE3.out.str.isT.ne hT (by decide) rfl
      · exact HE3.out.p_at.ne hT (by decide) rfl)
    have hcw5 : Chg (reF q p vw va rq v) w w5 := HCW3.out.trans (hc5.mono (fun b hb => by left; rw [mem_reF]; simp at hb; rcases hb with rfl | rfl <;> simp))
    have hfr : From vw2 vw w.heap.size ∧ From va2 va w.heap.size := ⟨HV1.out.1.trans hw5 HCW3.out.size, HV1.out.2.trans hv5 HCW3.out.size⟩
    have hpr : E2.r = E1.r ∧ E2.call = E1.call ∧ E2.since = E1.since := by
      rw [hE2]
      unfold End.pumped End.paidN
      simp only
      split
      · exact ⟨rfl, rfl, rfl⟩
      · have h := End.paid_r { E1 with s := (E1.s.pump now).1 }
        exact ⟨h.1, h.2.1, h.2.2.2.1⟩
    obtain ⟨y0, y1, y2, y3, y4, _⟩ := hE5.str.five
    have yn := hE5.nx_at.2
    have hs2 : 0 ≤ E2.since ∧ E2.since ≤ 100000000 := by rw [hpr.2.2]; exact hsi
    have hn2 : 0 ≤ E2.r.nx ∧ E2.r.nx < 4294967296 := by rw [hpr.1]; exact hnx
    have HT := Lib.hid hT'
    have HE5 := Lib.hid hE5
    have HQ5 := Lib.hid hQ5
    have HCW5 := Lib.hid hcw5
    have HFR := Lib.hid hfr
    have HP := Lib.hid (And.intro hE2 (And.intro hts hpr))
    obtain ⟨ta, tc, htv⟩ := hT'.slice
    subst htv
    have hwr : IntKind.i64.wrap (now - E2.since) = now - E2.since := IntWalk.i64_in _ (by omega)
    clear hT hE5 hc5 hw5 hv5 hE2 hts hT' hqp hQ5 hcw5 hfr hpr CP HE3 HQ3
    go_upto_region 6 with (fail)
    go_cut [51] (fun s51 wq => s51 = .bool (E2.due now) ∧ wq = w5)
    case first =>
      cases how : E2.owes with
      | false =>
        rw [how] at y3
        go_wp2_with fail
        go_meet
        exact ⟨by unfold End.due; rw [how]; rfl, rfl⟩
      | true =>
        rw [how] at y3
        by_cases h2 : 2 ≤ now - E2.since
        · have h2b : decide (2 ≤ now - E2.since) = true := decide_eq_true h2
          go_wp2_with fail
          go_meet
          exact ⟨by unfold End.due; rw [how, h2b]; rfl, rfl⟩
        · have h2b : decide (2 ≤ now - E2.since) = false := decide_eq_false h2
          go_wp2_with fail
          go_meet
          exact ⟨by unfold End.due; rw [how, h2b]; rfl, rfl⟩
    case rest =>
      obtain ⟨rfl, rfl⟩ := hcut
      obtain ⟨w5', hw5'⟩ : ∃ z, z = wc := ⟨_, rfl⟩
      subst hw5'
      go_upto_if 51 with (fail)
      go_cut [7] (fun s7 wq => RowT (BytS (· < B) wq) wq w.heap.size s7 (E1.tells now).2 ∧ REAt wq B q p vw2 va2 rq v2 (E1.tells now).1 ∧ OutR wq B B (.slice oa out.length oc) out ∧ Chg (reF q p vw va rq v) w wq)
      case first =>
        cases hdue : E2.due now with
        | false =>
          go_wp2_with fail
          go_meet
          have e : E1.tells now = (E2, ts) := by
            unfold End.tells
            rw [← HP.out.1, hdue]
            rw [HP.out.1, HP.out.2.1]
            rfl
          rw [e]
          exact ⟨HT.out, HE5.out, HQ5.out, HCW5.out⟩
        | true =>
          have CA := Lib.hid (re_ack w5' B q p vw2 va2 rq v2 E2 E1.call false 0 false 0 none 0 0 HE5.out (Nat.le_trans hB HCW5.out.size) hn2.1 hn2.2)
          have hcall : w5'.cell? ⟨q, 0, none⟩ = some (.int .u16 E1.call) := by rw [y0, HP.out.2.2.2.1]
          clear y0
          go_wp2_with fail
          refine CA.out.mono ?_
          rintro e w6 ⟨ha, ak, rfl, hack, hE6, hc6⟩
          obtain ⟨v', w7, happ, hfin⟩ := rtell_step hB HCW5.out HT.out (by omega) HE5.out (by rw [mem_reF]; simp) HQ5.out hack hE6 hc6
          have HFI := Lib.hid hfin
          clear hack hE6 hc6 hfin CA hcall y1 y2 y3 y4 yn
          go_wp2_with (at_builtin; refine wpList_app_eq rfl _ _ 78 rfl rfl rfl happ ?_)
          clear happ
          go_meet
          have e : E1.tells now = (E2.paid, ts ++ [E2.ack ⟨E1.call, false, 0, false, 0, []⟩]) := by
            unfold End.tells
            rw [← HP.out.1, hdue, ← HP.out.2.1]
            rfl
          rw [e]
          exact HFI.out
      case rest =>
        obtain ⟨hT7, hE7, hQ7, hc7⟩ := hcut
        have CD := Lib.hid (re_data wc B B _ out hQ7 (Nat.le_trans hB hc7.size) (by omega))
        have HT7 := Lib.hid hT7
        have HE7 := Lib.hid hE7
        have HC7 := Lib.hid hc7
        obtain ⟨sa, sc, hv7⟩ := hT7.slice
        clear hT7 hE7 hQ7 hc7 y0 y1 y2 y3 y4 yn
        go_wp2_with fail
        refine CD.out.mono ?_
        rintro e w8 ⟨o1, rfl, hrow, hc8⟩
        have hfin : GivesRE B q (reF q p vw va rq v) (E1.tells now).1 (out.map (·.2)) (E1.tells now).2 w (.returned (.tuple #[o1, u7])) w8 := by
          obtain ⟨l, r1, r2⟩ := hrow
          refine ⟨o1, u7, rfl, ⟨l, r1.mono HC7.out.size, r2⟩, HT7.out.chg hc8 (by simp) (fun u d hb => hb.kept hc8 (by simp)), ?_⟩
          exact (HE7.out.keep hc8).moved (v := v) (HC7.out.trans' hc8 (by simp)) (fun b hb => .inl hb) HFR.out.1 HFR.out.2
        rw [HEQ.out, HOUT.out] at hfin
        have HFI := Lib.hid hfin
        clear hrow hc8 hfin CD hv7
        go_wp2_with fail
        go_ret2
        exact HFI.out
end Go.Proofs.Ytkmjpphmciaklaa
namespace Go.Proofs.Ytkmjpphmciaklaa
open Go.RowKit
set_option linter.unusedVariables false
set_option linter.unusedSimpArgs false
attribute [local go_sem ↓] Go.wp_at_zero Go.wp_at_succ

set_option maxRecDepth 100000 in
set_option maxHeartbeats 1000000 in
theorem rb_clear (w : World) (p g N fr : Nat) (l : List Value) (h : RB.Ring w p g N fr l) :
    Calls Try.prog 109 #[.pointer (some ⟨p, 0, none⟩)] w fun e w' => (∃ v, e = .returned v) ∧ (∃ fr', RB.Ring w' p g N fr' []) ∧ Chg [p, g] w w' := by
  have H := Lib.hid h
  clear h
  go_enter Try.func109, Try.ntmps109
  go_wp2_with fail
  go_loopg [] l.length (fun n wr => ∃ l' fr', n = l'.length ∧ RB.Ring wr p g N fr' l' ∧ Chg [p, g] w wr)
  case atStart => exact ⟨l, fr, rfl, H.out, Chg.refl _ _⟩
  case round =>
    obtain ⟨w9, hw9⟩ : ∃ w9, w9 = wr := ⟨_, rfl⟩
    subst hw9
    obtain ⟨l', fr', rfl, hr, hc⟩ := hrel
    obtain ⟨c0, c1, c2, _⟩ := hr.str.three
    have HC := Lib.hid hc
    cases l' with
    | nil =>
      have HR := Lib.hid hr
      clear hr hc c0 c1
      simp only [List.length_nil] at c2
      go_wp2_with fail
      go_end0
      exact ⟨⟨_, rfl⟩, ⟨_, HR.out⟩, HC.out⟩
    | cons x l' =>
      have CT := Lib.hid (RB.pop_some w9 p g N fr' x l' hr)
      obtain ⟨xa, xn, xc, rfl⟩ := hr.form x (by simp)
      simp only [List.length_cons] at c2
      have hpos : (0 : Int) < ((l'.length + 1 : Nat) : Int) := by omega
      clear hr hc c0 c1
      go_wp2_with fail
      refine CT.out.mono ?_
      rintro e w2 ⟨rfl, hr2, hc2⟩
      have HF := Lib.hid (And.intro hr2 (HC.out.trans hc2))
      clear hr2 hc2 c2 CT
      go_wp2_with fail
      go_roundg l'.length
      case measure => simp
      case rel => exact ⟨l', _, rfl, HF.out⟩

def ClearSnd (B p pr g : Nat) (va : Value) (a : Snd (List Int)) (w : World) (e : Ending) (w' : World) : Prop :=
  ∃ fr, e = .returned (.int .i64 a.wait.length) ∧ SndIs w' B p pr g va fr { a with wait := [] } ∧ Chg (sndF p pr g va) w w'
set_option maxRecDepth 100000 in
set_option maxHeartbeats 1000000 in
theorem snd_clear (w : World) (B p pr g : Nat) (va : Value) (fr : Nat) (a : Snd (List Int)) (h : SndIs w B p pr g va fr a) :
    Calls Try.prog 97 #[.pointer (some ⟨p, 0, none⟩)] w (ClearSnd B p pr g va a w) := by
  obtain ⟨l, h1, h2⟩ := h
  have hll : (l.length : Int) = (a.wait.length : Int) := by rw [h2.len]
  have C1 := RB.len_any w pr g 16 fr l h1.ring
  rw [hll] at C1
  have HC1 := Lib.hid C1
  have HC2 := Lib.hid (rb_clear w pr g 16 fr l h1.ring)
  have H := Lib.hid h1
  obtain ⟨c0, c1, c2, _⟩ := h1.str.nine
  clear h1 h2 hll C1
  go_enter Try.func97, Try.ntmps97
  go_wp2_with fail
  refine HC1.out.mono ?_
  rintro e w1 ⟨rfl, rfl⟩
  go_wp2_with fail
  refine HC2.out.mono ?_
  rintro e w2 ⟨⟨u, rfl⟩, ⟨fr', hR⟩, hc⟩
  have hne := H.out.pr_ne
  have hfin : ClearSnd B p pr g va a w (.returned (.int .i64 a.wait.length)) w2 := by
    refine ⟨fr', rfl, ⟨[], ⟨H.out.str.chg hc (by simp; exact ⟨hne.1, hne.2.1⟩), H.out.air.chg hc (fun b hb => by
      simp at hb
      rcases hb with rfl | rfl
      · exact hne.2.2.2.2.1
      · exact hne.2.2.2.2.2), hR, H.out.hp, H.out.hpr, H.out.hg⟩, trivial⟩, hc.mono (fun b hb => by simp at hb; left; simp [sndF]; rcases hb with rfl | rfl <;> simp)⟩
  have HF := Lib.hid hfin
  clear hR hc hne hfin
  go_wp2_with fail
  go_ret
  exact HF.out

set_option maxRecDepth 100000 in
set_option maxHeartbeats 400000 in
theorem end_clear (w : World) (B q : Nat) (F : List Nat) (E : End) (h : EndOf w B q F E) :
    Calls Try.prog 77 #[.pointer (some ⟨q, 0, none⟩)] w fun e w' => e = .returned (.int .i64 E.s.wait.length) ∧ Moved B q F { E with s := { E.s with wait := [] } } w w' := by
  obtain ⟨p, pr, g, va, fr, rp, m, rfl, hE⟩ := h.at
  have CT := Lib.hid (snd_clear w B p pr g va fr E.s hE.snd)
  obtain ⟨c0, c1, _⟩ := hE.str.five
  have HE := Lib.hid hE
  clear h hE
  go_enter Try.func77, Try.ntmps77
  go_wp2_with fail
  refine CT.out.mono ?_
  rintro e w1 ⟨fr', rfl, hS, hc⟩
  have HF : Hid (Moved B q (endF q p pr g va rp m) { E with s := { E.s with wait := [] } } w w1) := Lib.hid ⟨_, (HE.out.snd_to hS hc).is, hc.mono (fun b hb => by left; simp [endF, hb]), fun b hb => .inl hb⟩
  clear hS hc CT
  go_wp2_with fail
  go_ret
  exact ⟨rfl, HF.out⟩

set_option maxRecDepth 100000 in
set_option maxHeartbeats 400000 in
theorem lost_any (w : World) (B p pr g : Nat) (va : Value) (fr : Nat) (x : Snd Value) (h : SndAt w B p pr g va fr x) :
    Calls Try.prog 106 #[.pointer (some ⟨p, 0, none⟩)] w fun e w' => e = .returned (.int .i64 x.lost) ∧ w = w' := by
  obtain ⟨c0, c1, c2, c3, c4, c5, c6, c7, c8⟩ := h.str.nine
  clear h
  go_enter Try.func106, Try.ntmps106
  go_wp2
  go_ret
  exact ⟨rfl, rfl⟩

set_option maxRecDepth 100000 in
set_option maxHeartbeats 400000 in
theorem end_air (w : World) (B q : Nat) (F : List Nat) (E : End) (h : EndOf w B q F E) :
    Calls Try.prog 84 #[.pointer (some ⟨q, 0, none⟩)] w fun e w' => e = .returned (.tuple #[.int .i64 E.s.air.length, .int .i64 E.s.s, .int .i64 E.s.mo]) ∧ Chg [] w w' := by
  obtain ⟨p, pr, g, va, fr, rp, m, rfl, hE⟩ := h.at
  obtain ⟨l, hS, _⟩ := hE.snd
  have CT := Lib.hid (window_any w B p pr g va fr _ hS)
  obtain ⟨c0, c1, _⟩ := hE.str.five
  have HE := Lib.hid hE
  have HS := Lib.hid hS
  clear h hE hS
  go_enter Try.func84, Try.ntmps84
  go_wp2_with fail
  refine CT.out.mono ?_
  rintro e w1 ⟨rfl, hc⟩
  have CA := Lib.hid (air_any w1 B p pr g va fr _ (HS.out.keep hc))
  have d1 := (HE.out.keep hc).str.five.2.1
  have HC := Lib.hid hc
  clear hc c0 c1 CT
  go_wp2_with fail
  refine CA.out.mono ?_
  rintro e w2 ⟨rfl, rfl⟩
  go_wp2_with fail
  refine bodyPost_ret (v := .tuple #[.int .i64 E.s.air.length, .int .i64 E.s.s, .int .i64 E.s.mo]) ?_ rfl ⟨rfl, HC.out⟩
  simp [results, Try.results84, go_sem, Snd.at]
end Go.Proofs.Ytkmjpphmciaklaa
namespace Go.Proofs.Ytkmjpphmciaklaa
open Go.RowKit
set_option linter.unusedVariables false
set_option linter.unusedSimpArgs false
attribute [local go_sem ↓] Go.wp_at_zero Go.wp_at_succ

theorem quietL {P : Program} {f : Nat} {args : Array Value} {w : World} {n : Nat} {u : Value} (h : Calls P f args (w.drewN n) fun e w' => e = .returned u ∧ w.drewN n = w') :
    Calls P f args (w.drewN n) fun e w' => e = .returned u ∧ ∃ m, w' = (w.drewN n).drewN m :=
  h.mono fun e w' ⟨he, hw⟩ => ⟨he, 0, by rw [World.drewN_zero]; exact hw.symm⟩

set_option maxRecDepth 100000 in
set_option maxHeartbeats 400000 in
theorem end_waiting (w : World) (B q : Nat) (F : List Nat) (E : End) (h : EndOf w B q F E) :
    Calls Try.prog 85 #[.pointer (some ⟨q, 0, none⟩)] w fun e w' => e = .returned (.tuple #[.int .i64 E.s.wait.length, .int .i64 E.r.l.length]) ∧ Chg [] w w' := by
  obtain ⟨p, pr, g, va, fr, rp, m, rfl, hE⟩ := h.at
  obtain ⟨l, hS, hrl⟩ := hE.snd
  obtain ⟨r, hR, hrr⟩ := hE.rcv
  have C1 : ∀ n, Calls Try.prog 37 #[.pointer (some ⟨p, 0, none⟩)] (w.drewN n) fun e w' => e = .returned (.int .i64 E.s.wait.length) ∧ ∃ m, w' = (w.drewN n).drewN m := fun n => by
    have h := waiting_any (w.drewN n) B p pr g va fr _ (hS.keep ((Chg.refl [] w).drewN n))
    rw [show (E.s.at l).wait.length = E.s.wait.length from hrl.len] at h
    exact quietL h
  have C2 : ∀ n, Calls Try.prog 28 #[.pointer (some ⟨rp, 0, none⟩)] (w.drewN n) fun e w' => e = .returned (.int .i64 E.r.l.length) ∧ ∃ m, w' = (w.drewN n).drewN m := fun n => by
    have h := early_any rp m r (w.drewN n) (hR.chg ((Chg.refl [] w).drewN n) (by simp) (by simp))
    rw [hrr.2.1.len] at h
    exact quietL h
  obtain ⟨c0, c1, c2, _⟩ := hE.str.five
  have HC1 := Lib.hid C1
  have HC2 := Lib.hid C2
  clear h hE hS hR C1 C2 hrl hrr
  go_enter Try.func85, Try.ntmps85
  go_upto_region 1 with (fail)
  go_quiet ((first | (go_at_call 37; exact Calls.quiet_of (HC1.out _)) | (go_at_call 28; exact Calls.quiet_of (HC2.out _))))
  go_wp2_with fail
  refine bodyPost_ret (v := .tuple #[.int .i64 E.s.wait.length, .int .i64 E.r.l.length]) ?_ rfl ⟨rfl, (Chg.refl _ _).drewN _⟩
  simp [results, Try.results85, go_sem]

set_option maxRecDepth 100000 in
set_option maxHeartbeats 400000 in
theorem end_lost (w : World) (B q : Nat) (F : List Nat) (E : End) (h : EndOf w B q F E) :
    Calls Try.prog 86 #[.pointer (some ⟨q, 0, none⟩)] w fun e w' => e = .returned (.tuple #[.int .i64 E.s.lost, .int .i64 E.r.twice]) ∧ Chg [] w w' := by
  obtain ⟨p, pr, g, va, fr, rp, m, rfl, hE⟩ := h.at
  obtain ⟨l, hS, hrl⟩ := hE.snd
  obtain ⟨r, hR, hrr⟩ := hE.rcv
  have C1 : ∀ n, Calls Try.prog 106 #[.pointer (some ⟨p, 0, none⟩)] (w.drewN n) fun e w' => e = .returned (.int .i64 E.s.lost) ∧ ∃ m, w' = (w.drewN n).drewN m := fun n =>
    quietL (lost_any (w.drewN n) B p pr g va fr _ (hS.keep ((Chg.refl [] w).drewN n)))
  have C2 : ∀ n, Calls Try.prog 29 #[.pointer (some ⟨rp, 0, none⟩)] (w.drewN n) fun e w' => e = .returned (.int .i64 E.r.twice) ∧ ∃ m, w' = (w.drewN n).drewN m := fun n => by
    have h := twice_any rp m r (w.drewN n) (hR.chg ((Chg.refl [] w).drewN n) (by simp) (by simp))
    rw [hrr.2.2.2] at h
    exact quietL h
  obtain ⟨c0, c1, c2, _⟩ := hE.str.five
  have HC1 := Lib.hid C1
  have HC2 := Lib.hid C2
  clear h hE hS hR C1 C2 hrl hrr
  go_enter Try.func86, Try.ntmps86
  go_upto_region 1 with (fail)
  go_quiet ((first | (go_at_call 106; exact Calls.quiet_of (HC1.out _)) | (go_at_call 29; exact Calls.quiet_of (HC2.out _))))
  go_wp2_with fail
  refine bodyPost_ret (v := .tuple #[.int .i64 E.s.lost, .int .i64 E.r.twice]) ?_ rfl ⟨rfl, (Chg.refl _ _).drewN _⟩
  simp [results, Try.results86, go_sem]
end Go.Proofs.Ytkmjpphmciaklaa
