/- Proved: for every catwalklaw30.Start and every slice of catwalklaw30.Op the Go law catwalklaw30.SendOnce returns true, and its arguments read behind the call as they read before. Conditions: none.
The frame of this text follows the kit's own shell of a law's proof; the walk and its lemmas are ours. -/
import Derived.Test.YtkmjpphmciaklaaOnce2
import Derived.Test.YtkmjpphmciaklaaOpsB
import Derived.Test.YtkmjpphmciaklaaPhase2
import Derived.Deep.LoopGhost
import Derived.Deep.DeepCutAuto
import Derived.Deep.CutBlock
import Derived.WalkKit
import Derived.ProofKit
import Derived.OpenShut
import Derived.ShutString
import Derived.ChangeOld
import Derived.Below
import Derived.Lib.SmallJoins
namespace Go.Proofs.Ytkmjpphmciaklaa.sendOnce
open Go.ChangeShapes Go.WideShapes Go.ChangeAt Go.RowKit Go.Joins
open Go.ChangeMaps (open_string shut_string)
set_option linter.unusedVariables false
set_option linter.unusedSimpArgs false
attribute [local go_sem ↓] Go.wp_at_zero Go.wp_at_succ

theorem own : ownKnob Try.prog.godebug = none := by kernel_rfl
theorem laidOut : laidOutB Try.prog = true := by kernel_rfl

def IsRow (k : IntKind) (w : World) (a : Option Addr) (len cap : Nat) (zs : List Int) : Prop :=
  (a = none ∧ len = 0 ∧ cap = 0 ∧ zs = []) ∨
  ∃ x, a = some x ∧ len ≤ cap ∧ cap ≤ maxLen ∧ zs.length = cap ∧ (∀ i, i < zs.length → w.cell? (x.add i) = some (.int k (zs.getD i 0))) ∧ ∀ n ∈ zs, (Lit.int k n).wf = true

set_option maxRecDepth 100000 in
set_option maxHeartbeats 4000000 in
theorem walk (a0_0 : Int) (a0_1 : Int) (a0_2 : Int) (a1 : Option Addr) (len1 cap1 : Nat) (w : World) (w0_0 : (Lit.int .u32 a0_0).wf = true) (w0_1 : (Lit.int .i64 a0_1).wf = true) (w0_2 : (Lit.int .i64 a0_2).wf = true) (w1 : OpsB w a1 len1) :
    Calls Try.prog 7 #[.agg #[.int .u32 a0_0, .int .i64 a0_1, .int .i64 a0_2], .slice a1 len1 cap1] w fun e w' => e = .returned (.bool true) ∧ Below w.heap.size w w' := by
  obtain ⟨ha0, ha0'⟩ := bounds_u32 w0_0
  by_cases hlong : 150 < len1
  · clear w1
    go_enter Try.func7, Try.ntmps7
    go_wp2
    go_ret
    exact ⟨rfl, (Below.refl _ _).alloc (Nat.le_refl _) _⟩
  have hlen : len1 ≤ 150 := by omega
  clear hlong w0_0 w0_1 w0_2
  have HW1 := Lib.hid w1
  clear w1
  go_enter Try.func7, Try.ntmps7
  go_wp2_with fail
  refine (send_new _ _ _ _).mono ?_
  rintro e wa ⟨p, pr, g, rfl, hS, hch⟩
  obtain ⟨w1, hw1⟩ : ∃ w1, w1 = w.alloc (.cells #[.int .u32 a0_0, .int .i64 a0_1, .int .i64 a0_2] 59) := ⟨_, rfl⟩
  have hcw : Chg [] w w1 := by rw [hw1]; exact (Chg.refl _ _).alloc _
  have hA1 : At w1 w.heap.size 59 [.int .u32 a0_0, .int .i64 a0_1, .int .i64 a0_2] := by rw [hw1]; exact At.new w 59 [_, _, _]
  rw [← hw1] at hS hch
  obtain ⟨x0, x1, x2, _⟩ := (hA1.chg hch (by simp)).three
  have hn0 : numK a0_0 0 = a0_0 := by unfold numK; omega
  have hok : (⟨a0_0, [], [], (cutZ a0_1 1 16 + 1) / 2, 0, cutZ a0_1 1 16, 8 * cutZ a0_2 1 64, 0, 0⟩ : Snd (List Int)).Ok :=
    ⟨ha0, by show a0_0 < 4294967296; omega, by simp, by simp, win_new _, by show 8 ≤ 8 * _; unfold cutZ; omega, by show 8 * _ ≤ 512; unfold cutZ; omega, by show (0 : Int) ≤ 0; decide, by show (0 : Int) ≤ 259; decide, by simp, by simp, by show (0 : Int) ≤ 0; decide, by show (0 : Int) ≤ 1000000000; decide⟩
  have st : OnceSt a0_0 p pr g 0 0 [] 0 (.slice none 0 0) (.slice none 0 0) ⟨a0_0, [], [], (cutZ a0_1 1 16 + 1) / 2, 0, cutZ a0_1 1 16, 8 * cutZ a0_2 1 64, 0, 0⟩ w1 wa :=
    ⟨hok, by simp, rfl, hn0.symm, by show ((0 : Nat) : Int) ≤ (cutZ a0_1 1 16 + 1) / 2; unfold cutZ; omega, by simp, by simp, by simp, by simp, by simp, RowS.nil _ _ _, RowS.nil _ _ _, by simp [Value.ownBlock], by simp [Value.ownBlock], by simp [Value.ownBlock], ⟨_, _, [], hS, trivial⟩, hch⟩
  have ST := Lib.hid st
  have HCW := Lib.hid hcw
  have HW2 : Hid (OpsB w1 a1 len1) := Lib.hid (fun i hi => by
    obtain ⟨b, off, k, n, t, v, d, h1, h2, h3, h4, h5, h6, h7, h8⟩ := HW1.out i hi
    exact ⟨b, off, k, n, t, v, d, h1, Nat.lt_of_lt_of_le h2 hcw.size, (hcw.cell h2 (by simp)).trans h3, (hcw.cell h2 (by simp)).trans h4, (hcw.cell h2 (by simp)).trans h5, (hcw.cell h2 (by simp)).trans h6, (h7.chg hcw (by simp)).mono (fun g hg hs => hg), h8⟩)
  clear st hS hch hw1 hA1 hcw hn0 hok HW1
  go_wp2_with fail
  go_quiet (fail)
  clear x0 x1 x2
  have ST2 : Hid (OnceSt a0_0 p pr g 0 0 [] 0 (.slice none 0 0) (.slice none 0 0) ⟨a0_0, [], [], (cutZ a0_1 1 16 + 1) / 2, 0, cutZ a0_1 1 16, 8 * cutZ a0_2 1 64, 0, 0⟩ w1 (wa.drewN nq)) := Lib.hid (ST.out.keep ((Chg.refl _ _).drewN _))
  go_wp2_with fail
  go_loopg [6, 7, 8, 9, 10] len1 (fun q s6 s7 s8 s9 s10 wr => ∃ (k : Nat) (now : Int) (P : List (List Int)) (n : Nat) (a : Snd (List Int)), q = len1 - k ∧ k ≤ len1 ∧ s8 = .int .i64 now ∧ s9 = .int .u32 a.nx ∧ s10 = .int .i64 k ∧ OnceSt a0_0 p pr g k now P n s6 s7 a w1 wr)
  case atStart => exact ⟨0, 0, [], 0, _, rfl, by omega, rfl, rfl, rfl, ST2.out⟩
  case round =>
    obtain ⟨w9, hw9⟩ : ∃ w9, w9 = wr := ⟨_, rfl⟩
    subst hw9
    obtain ⟨k, now, P, n, a, rfl, hk, rfl, rfl, rfl, hst⟩ := hrel
    have HX := Lib.hid hst
    have hnow0 := hst.now0
    have hnow1 := hst.now1
    by_cases hkl : k < len1
    · obtain ⟨b, off, kd, nn, tk, vB, d, rfl, hbl, hc0, hc1, hc2, hc3, hd, ⟨kd0, kd1⟩, ⟨n0, n1⟩, t0, t1⟩ := HW2.out k hkl
      obtain ⟨A, bc, rfl⟩ := hd.slice'
      have c0 : w9.cell? ⟨b, off + k * 4, none⟩ = some (.int .i64 kd) := by rw [hst.chg.cell hbl (by simp)]; exact hc0
      have c1 : w9.cell? ⟨b, off + k * 4 + 1, none⟩ = some (.int .i64 nn) := by rw [hst.chg.cell hbl (by simp)]; exact hc1
      have c2 : w9.cell? ⟨b, off + k * 4 + 2, none⟩ = some (.int .i64 tk) := by rw [hst.chg.cell hbl (by simp)]; exact hc2
      have c3 : w9.cell? ⟨b, off + k * 4 + 3, none⟩ = some (.slice A d.length bc) := by rw [hst.chg.cell hbl (by simp)]; exact hc3
      have HD := Lib.hid hd
      have hi0 : (0 : Int) ≤ (k : Int) := by omega
      have hi1 : (k : Int) < (len1 : Int) := by omega
      clear hc0 hc1 hc2 hc3 hd hst ST ST2
      go_upto_region 11 with (fail)
      by_cases q0 : kd < 0
      · go_wp2_with fail
        go_ret
        exact ⟨rfl, HX.out.below HCW.out⟩
      by_cases q1 : tk < -10
      · go_wp2_with fail
        go_ret
        exact ⟨rfl, HX.out.below HCW.out⟩
      by_cases q2 : 100 < tk
      · go_wp2_with fail
        go_ret
        exact ⟨rfl, HX.out.below HCW.out⟩
      by_cases q3 : 100 < d.length
      · have q3' : (100 : Int) < (d.length : Nat) := by omega
        go_wp2_with fail
        go_ret
        exact ⟨rfl, HX.out.below HCW.out⟩
      have q3' : ¬ (100 : Int) < (d.length : Nat) := by omega
      have q0' : 0 ≤ kd := by omega
      have q1' : -10 ≤ tk := by omega
      have q2' : tk ≤ 100 := by omega
      go_upto_block 2 with (fail)
      go_cut [6, 7, 9, 79, 95, 97, 125, 139] (fun s6 s7 s9 s79 s95 s97 s125 s139 wq => ∃ (P : List (List Int)) (n : Nat) (a : Snd (List Int)), s9 = .int .u32 a.nx ∧ OnceSt a0_0 p pr g (k + 1) (now + tk) P n s6 s7 a w1 wq)
      case first =>
        obtain ⟨va, fr, hS⟩ := HX.out.snd
        have hB : w1.heap.size ≤ w9.heap.size := HX.out.chg.size
        have HS := Lib.hid hS
        clear hS
        by_cases r6 : kd % 7 = 6
        · go_wp2_with fail
          go_ret
          exact ⟨rfl, HX.out.below HCW.out⟩
        by_cases r3 : kd % 7 = 3
        · have CT := Lib.hid (pump_is w9 w1.heap.size p pr g va fr a (now + tk) HS.out hB HX.out.ok)
          obtain ⟨z6, hz6⟩ : ∃ z, z = u6 := ⟨_, rfl⟩
          subst hz6
          obtain ⟨z7, hz7⟩ : ∃ z, z = u7 := ⟨_, rfl⟩
          subst hz7
          go_wp2_with fail
          refine CT.out.mono ?_
          rintro e w2 ⟨o, va', fr', rfl, hO, hS2, hch, hva⟩
          have hsd := HX.out.sends (now' := now + tk) (by omega)
          have hmid := HX.out.mid HS.out hS2 hch hO
          have hok := Snd.pump_ok HX.out.ok (now := now + tk) (by omega) (by omega)
          have hlost : (a.pump (now + tk)).1.lost = a.lost := rfl
          obtain ⟨oa, oc, rfl, _⟩ := hO.seqT
          obtain ⟨out, hout⟩ : ∃ out, out = (a.pump (now + tk)).2 := ⟨_, rfl⟩
          obtain ⟨a', ha'⟩ : ∃ a', a' = (a.pump (now + tk)).1 := ⟨_, rfl⟩
          rw [← hout] at hsd hmid ⊢
          rw [← ha'] at hsd hmid hok hlost
          have HN0 : Hid (a.nx = numK a0_0 (n + 0)) := Lib.hid HX.out.nx
          have hPl : P.length ≤ 1000 := by have := HX.out.plen; omega
          have hol : out.length ≤ 1000 := by have := hsd.all; omega
          have HSD := Lib.hid hsd
          have HM := Lib.hid hmid
          have HOK := Lib.hid hok
          have HL := Lib.hid hlost
          clear hO hS2 hch hva hsd hmid hok hlost hout ha' CT c0 c1 c2 c3
          go_wp2_with fail
          go_loopg [7, 9, 12] out.length (fun q s7 s9 s12 wr => ∃ i, q = out.length - i ∧ i ≤ out.length ∧ s9 = .int .u32 (numK a0_0 (n + i)) ∧ s12 = .int .i64 i ∧ PumpMid p pr g P n out (.slice oa out.length oc) i z6 s7 a' w1 wr)
          case atStart => exact ⟨0, rfl, by omega, by rw [HN0.out], rfl, HM.out⟩
          case round =>
            obtain ⟨i, rfl, hi, rfl, rfl, hmid⟩ := hrel
            have HM2 := Lib.hid hmid
            by_cases hil : i < out.length
            · obtain ⟨gb, A', dl, dc, oc', ho, e0, e1, v', w', happ, hfin⟩ := hmid.push HSD.out hPl hil
              simp only [Value.slice.injEq] at ho
              obtain ⟨rfl, -, rfl⟩ := ho
              have HF := Lib.hid hfin
              have hi0 : (0 : Int) ≤ (i : Int) := by omega
              have hi1 : (i : Int) < (out.length : Int) := by omega
              have HNX : Hid ((numK a0_0 (n + i) + 1) % 4294967296 = numK a0_0 (n + (i + 1))) := Lib.hid (by unfold numK; omega)
              clear hfin hmid HM
              go_wp2_with (at_builtin; refine wpList_app_eq rfl _ _ 63 rfl rfl rfl happ ?_)
              clear happ e0 e1
              rw [HNX.out]
              go_roundg (out.length - (i + 1))
              case measure => omega
              case rel => exact ⟨i + 1, rfl, by omega, rfl, rfl, HF.out⟩
            · obtain rfl : i = out.length := by omega
              clear hmid
              go_wp2_with fail
              go_meet
              exact ⟨P, _, a', by rw [HSD.out.nx], HM2.out.done HX.out HSD.out HOK.out HL.out (by omega) (by omega)⟩
        by_cases r4 : kd % 7 = 4
        · have CT := fun seq => ack_is w9 w1.heap.size p pr g va fr a (now + tk) seq HS.out hB HX.out.ok (by omega) (by omega)
          have HCT := Lib.hid CT
          clear CT
          go_wp2_with fail
          refine (HCT.out _).mono ?_
          rintro e w2 ⟨va', rfl, hS2, hch, hva⟩
          have hr := HX.out.rows HS.out hch
          have hs := ack_same a (now + tk)
          have hfin := fun seq (h : SndIs w2 w1.heap.size p pr g va' fr (a.ack (now + tk) seq).1) => HX.out.step HS.out h hch hr (Snd.ack_ok HX.out.ok _ _) (hs seq).1 (hs seq).2.1 (ack_airs HX.out.ok HX.out.airs _ _) (by rw [(hs seq).2.2]; omega) (now' := now + tk) (by omega) (by omega)
          have HF := Lib.hid (hfin _ hS2)
          have HN : Hid (∀ seq, (a.ack (now + tk) seq).1.nx = a.nx) := Lib.hid (fun seq => (hs seq).2.1)
          clear hS2 hch hva hr hs hfin
          go_wp2_with fail
          go_meet
          exact ⟨P, n, _, by rw [HN.out _], HF.out⟩
        by_cases r5 : kd % 7 = 5
        · have CT := Lib.hid (late_is w9 w1.heap.size p pr g va fr a (now + tk) HS.out HX.out.ok (by omega) (by omega))
          go_wp2_with fail
          refine CT.out.mono ?_
          rintro e w2 ⟨va', rfl, hS2, hch, hva⟩
          have hl := Snd.late_ok HX.out.ok (now + tk) (by have := HX.out.lost; omega)
          have hr := HX.out.rows HS.out hch
          have hs := late_same a (now + tk)
          have HF := Lib.hid (HX.out.step HS.out hS2 hch hr hl.1 hs.1 hs.2 (late_airs HX.out.ok HX.out.airs _) hl.2 (now' := now + tk) (by omega) (by omega))
          have HN := Lib.hid hs.2
          clear hS2 hch hva hr hs hl CT
          go_wp2_with fail
          go_meet
          exact ⟨P, n, _, by rw [HN.out], HF.out⟩
        have hBy := HD.out.chg HX.out.chg (by simp)
        have hpx : (a.push d).nx = a.nx := by unfold Snd.push; split <;> rfl
        have HPX := Lib.hid hpx
        have hd1 : d.length ≤ 100 := by omega
        have CT := Lib.hid (push_is w9 w1.heap.size p pr g va fr a (.slice A d.length bc) d HS.out hBy (by omega))
        clear hBy hpx
        go_wp2_with fail
        refine CT.out.mono ?_
        rintro e w2 ⟨rfl, hS2, hch⟩
        clear CT
        by_cases hlt : a.wait.length < 16
        · rw [decide_eq_true hlt]
          obtain ⟨v', w3, happ, hfin⟩ := HX.out.pushed (now' := now + tk) (by omega) HS.out hS2 hch hlt HD.out hd1 (by omega) (by omega)
          have hbn : b ∉ sndF p pr g va := fun hm => by have := (HS.out.kind b hm).1; omega
          have hb9 : b < w9.heap.size := by omega
          have e3 : w2.cell? ⟨b, off + k * 4 + 3, none⟩ = some (.slice A d.length bc) := (hch.cell (p := ⟨b, off + k * 4 + 3, none⟩) hb9 hbn).trans c3
          have HF := Lib.hid hfin
          clear hS2 hch hfin hbn hb9 hlt c0 c1 c2 c3
          go_wp2_with (at_builtin; refine wpList_app_eq rfl _ _ 63 rfl rfl rfl happ ?_)
          clear happ
          go_meet
          exact ⟨P ++ [d], n, _, by rw [HPX.out], HF.out⟩
        · rw [decide_eq_false hlt]
          have hsame : a.push d = a := by unfold Snd.push; rw [if_neg hlt]
          rw [hsame] at hS2
          have hr := HX.out.rows HS.out hch
          have HF := Lib.hid (HX.out.step HS.out hS2 hch hr HX.out.ok rfl rfl HX.out.airs (by omega) (now' := now + tk) (by omega) (by omega))
          clear hS2 hch hsame hr hlt
          go_wp2_with fail
          go_meet
          exact ⟨P, n, a, rfl, HF.out⟩
      case rest =>
        obtain ⟨P', n', a', rfl, hst⟩ := hcut
        have HX2 := Lib.hid hst
        obtain ⟨va, fr, l, hA, hl⟩ := hst.snd
        have hwin := hst.ok.win
        unfold Win at hwin
        have hair := hst.airs
        have b0 : ¬ a'.s < (a'.air.length : Int) := by omega
        have b1 : ¬ a'.mo < a'.s := by omega
        have b2 : ¬ a'.s < 1 := by omega
        have b3 : ¬ 16 < a'.mo := by omega
        have CW : Hid (Calls Try.prog 35 #[.pointer (some ⟨p, 0, none⟩)] wc (WindowPost a'.s a'.mo wc)) := Lib.hid (window_any wc w1.heap.size p pr g va fr (a'.at l) hA)
        have HA := Lib.hid hA
        clear hst hl hA hwin hair HX HD c0 c1 c2 c3
        go_wp2_with fail
        refine CW.out.mono ?_
        rintro e w3 ⟨rfl, hc3⟩
        have CA : Hid (Calls Try.prog 36 #[.pointer (some ⟨p, 0, none⟩)] w3 fun e w' => e = .returned (.int .i64 a'.air.length) ∧ w3 = w') := Lib.hid (air_any w3 w1.heap.size p pr g va fr (a'.at l) (HA.out.keep hc3))
        have HF := Lib.hid (HX2.out.keep hc3)
        clear hc3 HA CW
        go_wp2_with fail
        refine CA.out.mono ?_
        rintro e w4 ⟨rfl, rfl⟩
        go_wp2_with fail
        go_roundg (len1 - (k + 1))
        case measure => omega
        case rel => exact ⟨k + 1, now + tk, P', n', a', rfl, by omega, rfl, rfl, rfl, HF.out⟩
    · obtain rfl : k = len1 := by omega
      obtain ⟨va, fr, l, hA, hl⟩ := hst.snd
      have hll := hl.len
      have CW : Hid (Calls Try.prog 37 #[.pointer (some ⟨p, 0, none⟩)] w9 fun e w' => e = .returned (.int .i64 a.wait.length) ∧ w9 = w') := Lib.hid (by
        have h := waiting_any w9 w1.heap.size p pr g va fr (a.at l) hA
        rw [show (a.at l).wait.length = a.wait.length from hll] at h
        exact h)
      have hno := hst.nown
      have hpl := hst.plen
      have hdr : a.wait.length = P.length - n := by rw [← hst.wait, List.length_drop]
      have htk : (P.take n).length = n := by rw [List.length_take]; omega
      obtain ⟨a6, k6, e6⟩ := hst.row6.slice
      obtain ⟨a7, k7, e7⟩ := hst.row7.slice
      rw [htk] at e7
      subst e6 e7
      have hsum : ((n : Int) + (a.wait.length : Int) != (P.length : Int)) = false := by simp; omega
      have hw16 := hst.ok.wait
      clear hst hdr htk hA hl hll ST ST2
      go_wp2_with fail
      refine CW.out.mono ?_
      rintro e w4 ⟨rfl, rfl⟩
      clear CW
      go_wp2_with fail
      clear hsum
      go_loopg [15] n (fun q s15 wr => ∃ i, q = n - i ∧ i ≤ n ∧ s15 = .int .i64 i ∧ OnceSt a0_0 p pr g k now P n (.slice a6 P.length k6) (.slice a7 n k7) a w1 wr)
      case atStart => exact ⟨0, rfl, by omega, rfl, HX.out⟩
      case round =>
        obtain ⟨wy, hwy⟩ : ∃ wy, wy = wr := ⟨_, rfl⟩
        subst hwy
        obtain ⟨i, rfl, hi, rfl, hst⟩ := hrel
        have HX2 := Lib.hid hst
        by_cases hil : i < n
        · have hiP : i < P.length := by omega
          have hP6 : P[i]? = some (P[i]'hiP) := List.getElem?_eq_getElem hiP
          have hP7 : (P.take n)[i]? = some (P[i]'hiP) := by rw [List.getElem?_take_of_lt hil]; exact hP6
          obtain ⟨g6, u6, rfl, _, e6, hb6⟩ := hst.row6.cell rfl hP6
          obtain ⟨g7, u7, rfl, _, e7, hb7⟩ := hst.row7.cell rfl hP7
          have hdl := hst.data _ (List.getElem_mem hiP)
          have CE : Hid (∀ m, Calls Try.prog 14 #[u7, u6] (wy.drewN m) fun e w' => e = .returned (.bool true) ∧ ∃ m', w' = (wy.drewN m).drewN m') := Lib.hid (fun m => by
            have h := equal_q u7 u6 _ _ (wy.drewN m) (hb7.wide.chg ((Chg.refl [] _).drewN m) (by simp)) (hb6.chg ((Chg.refl [] _).drewN m) (by simp)) (by omega) (by omega)
            rw [decide_eq_true rfl] at h
            exact h)
          have hi0 : (0 : Int) ≤ (i : Int) := by omega
          have hi1 : (i : Int) < (n : Int) := by omega
          have hi2 : (i : Int) < (P.length : Int) := by omega
          clear hst hP6 hP7 hb6 hb7 hdl HX
          go_wp2_with fail
          go_quiet ((go_at_call 14; exact Calls.quiet_of (CE.out _)))
          clear e6 e7
          go_wp2_with fail
          go_roundg (n - (i + 1))
          case measure => omega
          case rel => exact ⟨i + 1, rfl, by omega, rfl, HX2.out.keep ((Chg.refl [] _).drewN _)⟩
        · obtain rfl : i = n := by omega
          have HB := Lib.hid (hst.below HCW.out)
          clear hst
          go_wp2_with fail
          refine (alive30_any _).mono ?_
          rintro e w5 ⟨rfl, hch5⟩
          have HC5 := Lib.hid (HB.out.trans (hch5.below HB.out.size (by simp)))
          clear hch5
          go_wp2_with fail
          go_ret
          exact ⟨rfl, HC5.out⟩

/-! ### The row's step -/
set_option maxRecDepth 100000 in
theorem lifted (os : Os) (started : os.Started) (H : Type) (enc : TypeId × Value → H) :
    ReturnsInHanded {} Try.checked os 7 .any (Rows.sendOnceSpec.pre6 enc Try.prog Try.f7 Rows.sendOnceRow.domain false) (Rows.sendOnceSpec.post enc Try.prog Try.f7 false true false false) := by
  refine returnsInHanded_of_change (C := Try.checked) own started (by kernel_rfl) Try.func7
    (ChangeSpec.witness6 (enc := enc) (C := Try.checked) false ⟨#[], #[.agg #[.int .u32 0, .int .i64 0, .int .i64 0], .slice none 0 0], []⟩ 8 (by kernel_rfl) (by kernel_rfl) (by kernel_rfl) (by kernel_rfl)) ?_
  intro W base args ds gs before hval0 hW hcnd _
  have hval : ∀ (j : Nat) t v, Try.f7.params[j]? = some t → args[j]? = some v → Value.okWide Try.prog W .any base t v := hval0
  have hW' := hW
  obtain ⟨p, q, hA0, hV, rfl, hfz, hnd⟩ := hW
  have hA : DataW.TrodAll enc Try.prog W 0 (fun _ => true) true Try.f7.params.toList args.toList ds p := hA0
  rw [Try.params7] at hA hval
  obtain ⟨v0, vs0, d0, ds0, p0, q0, hargs, rfl, rfl, h0, r0⟩ := trodAll_cons hA
  obtain ⟨v1, vs1, d1, ds1, p1, q1, rfl, rfl, rfl, h1, r1⟩ := trodAll_cons r0
  obtain ⟨rfl, rfl, rfl⟩ := trodAll_nil r1
  obtain rfl : args = #[v0, v1] := by cases args; simp_all
  obtain ⟨rfl, rfl⟩ := trodVars_none hV
  have k0 := h0
  have lt0 : ∀ x ∈ p0, x.block < W.heap.size := by obtain ⟨m, hm⟩ := k0; exact DataW.trod_lt m _ _ _ hm
  obtain ⟨c0_0, c0_1, c0_2, y0_0, y0_1, y0_2, m0, rfl, _, _, t0_0, t0_1, t0_2⟩ := open_agg3 Try.underlying59 (by kernel_rfl) (by kernel_rfl) (hval 0 59 v0 rfl rfl) h0
  obtain ⟨a0_0, e0_0, _, w0_0⟩ := DataW.trod_int Try.underlying22 t0_0
  simp at e0_0; subst e0_0
  obtain ⟨a0_1, e0_1, _, w0_1⟩ := DataW.trod_int Try.underlying3 t0_1
  simp at e0_1; subst e0_1
  obtain ⟨a0_2, e0_2, _, w0_2⟩ := DataW.trod_int Try.underlying3 t0_2
  simp at e0_2; subst e0_2
  have k1 := h1
  have lt1 : ∀ x ∈ p1, x.block < W.heap.size := by obtain ⟨m, hm⟩ := k1; exact DataW.trod_lt m _ _ _ hm
  obtain ⟨a1, len1, cap1, rfl⟩ := okWide_slice Try.underlying60 (hval 1 60 v1 rfl rfl)
  have w1 : OpsB W a1 len1 := by
    obtain ⟨fuel, hf⟩ := h1
    exact opsB_of Try.underlying60 Try.underlying64 (by kernel_rfl) (by kernel_rfl) Try.underlying3 Try.underlying3 Try.underlying3 Try.underlying29 Try.underlying5 (by kernel_rfl) hf
  clear hA0 hval0
  refine (walk a0_0 a0_1 a0_2 a1 len1 cap1 W w0_0 w0_1 w0_2 w1).mono fun e W' ⟨he, bel⟩ => ?_
  subst he
  exact ⟨_, rfl, _, _, _, [], _, [], hW', trodAll_mk1 (shut_bool Try.underlying4 _), (trodAll_cons_mk (Below.trod laidOut (by kernel_rfl) (of_decide_eq_true (by kernel_rfl)) k0 bel lt0) (trodAll_cons_mk (Below.trod laidOut (by kernel_rfl) (of_decide_eq_true (by kernel_rfl)) k1 bel lt1) trodAll_mk0)), rfl, bel.frame _, fun h => by cases h⟩

theorem over : Rows.sendOnceRow.holds Try.pinned (OpenSpec.ofChange Rows.sendOnceSpec) :=
  OpenClaim.holds_of_wide 7 Try.f7 rfl rfl rfl rfl rfl rfl rfl ⟨rfl, rfl, rfl, rfl, rfl⟩ rfl rfl rfl rfl rfl (by kernel_rfl) Try.func7 (by kernel_rfl)
    (of_decide_eq_true (by kernel_rfl)) (by unfold Func.isWrapper; first | (rw [if_pos (by decide +kernel)]; kernel_rfl) | (rw [if_neg (by decide +kernel)]; exact ⟨rfl, rfl⟩))
    (fun os started H enc _ => lifted os started H enc)

/-- The statement. -/
theorem proved : Rows.SendOnceSaid := over
#print axioms proved
end Go.Proofs.Ytkmjpphmciaklaa.sendOnce
