/- Proved: for every uint32 and every slice of catwalklaw31.Op the Go law catwalklaw31.RecvPlays returns true, and its arguments read behind the call as they read before. Conditions: none.
The frame of this text follows the kit's own shell of a law's proof; the walk and its lemmas are ours. -/
import Derived.Test.YtkmjpphmciaklaaRef6
import Derived.Test.YtkmjpphmciaklaaOpsB
import Derived.Test.YtkmjpphmciaklaaPhase
import Derived.Deep.LoopGhost
import Derived.Deep.DeepCutAuto
import Derived.WalkKit
import Derived.ProofKit
import Derived.OpenShut
import Derived.ShutString
import Derived.ChangeOld
import Derived.Below
import Derived.Lib.SmallJoins
namespace Go.Proofs.Ytkmjpphmciaklaa.recvPlays
open Go.ChangeShapes Go.WideShapes Go.ChangeAt Go.RowKit Go.Joins
open Go.ChangeMaps (open_string shut_string)
set_option linter.unusedVariables false
set_option linter.unusedSimpArgs false
attribute [local go_sem ↓] Go.wp_at_zero Go.wp_at_succ

theorem own : ownKnob Try.prog.godebug = none := by kernel_rfl
theorem laidOut : laidOutB Try.prog = true := by kernel_rfl

def IsRow (k : IntKind) (w : World) (a : Option Addr) (len cap : Nat) (zs : List Int) : Prop :=
  (a = none ∧ len = 0 ∧ cap = 0 ∧ zs = []) ∨
  ∃ x, a = some x ∧ len ≤ cap ∧ cap ≤ maxLen ∧ zs.length = cap ∧ (∀ i, i < zs.length → w.cell? (x.add i) = some (.int k (zs.getD i 0))) ∧ ∀ n ∈ zs, (Lit.int k n).wf = true

set_option maxRecDepth 100000 in
set_option maxHeartbeats 4000000 in
theorem walk (a0 : Int) (a1 : Option Addr) (len1 cap1 : Nat) (w : World) (w0 : (Lit.int .u32 a0).wf = true) (w1 : OpsB w a1 len1) :
    Calls Try.prog 6 #[.int .u32 a0, .slice a1 len1 cap1] w fun e w' => e = .returned (.bool true) ∧ Below w.heap.size w w' := by
  obtain ⟨ha0, ha0'⟩ := bounds_u32 w0
  by_cases hlong : 150 < len1
  · clear w1
    go_enter Try.func6, Try.ntmps6
    go_wp2
    go_ret
    exact ⟨rfl, Below.refl _ _⟩
  have hlen : len1 ≤ 150 := by omega
  clear hlong w0
  have HW1 := Lib.hid w1
  clear w1
  go_enter Try.func6, Try.ntmps6
  go_wp2_with fail
  refine (recv_new _ _).mono ?_
  rintro e wa ⟨p, m, rfl, hp, hm, hrc, hch⟩
  have hpl := hrc.1.lt
  have hml := hrc.2.lt
  obtain ⟨q, hq⟩ : ∃ q, q = wa.heap.size := ⟨_, rfl⟩
  have hcc : Chg [] wa (wa.alloc (.cells #[.int .u32 a0, .slice none 0 0, .int .i64 0, .int .i64 0] 55)) := (Chg.refl _ _).alloc _
  have h1 : RcvIs (wa.alloc (.cells #[.int .u32 a0, .slice none 0 0, .int .i64 0, .int .i64 0] 55)) p m ⟨a0, [], 0, 0⟩ := ⟨_, hrc.chg hcc (by simp) (by simp), rfl, trivial, rfl, rfl⟩
  have h2 : RefIs (wa.alloc (.cells #[.int .u32 a0, .slice none 0 0, .int .i64 0, .int .i64 0] 55)) w.heap.size q (.slice none 0 0) ⟨a0, [], 0, 0⟩ := by
    rw [hq]
    refine ⟨⟨a0, [], 0, 0⟩, ⟨At.new wa 55 [.int .u32 a0, .slice none 0 0, .int .i64 0, .int .i64 0], Own.nil _ _ _ _, by simp, fun p hp => by cases hp⟩, rfl, trivial, rfl, rfl⟩
  have st : PlaySt a0 p m q 0 0 w (wa.alloc (.cells #[.int .u32 a0, .slice none 0 0, .int .i64 0, .int .i64 0] 55)) :=
    ⟨_, _, ⟨ha0, by show a0 < 4294967296; omega, by simp⟩, by simp, by simp, by simp, by simp, by simp, by simp, by simp, h1, h2, hch.trans hcc⟩
  have ST := Lib.hid st
  have hwq : w.heap.size ≤ q := by have := hch.size; omega
  rw [← hq] at hpl hml
  have HQ := Lib.hid hq
  clear st h1 h2 hrc hch hcc hq
  go_wp2_with fail
  rw [← HQ.out]
  go_loopg [7, 8] len1 (fun g s7 s8 wr => ∃ (k : Nat) (now : Int), g = len1 - k ∧ k ≤ len1 ∧ s7 = .int .i64 now ∧ s8 = .int .i64 k ∧ PlaySt a0 p m q k now w wr)
  case atStart => exact ⟨0, 0, rfl, by omega, rfl, rfl, ST.out⟩
  case round =>
    obtain ⟨w9, hw9⟩ : ∃ w9, w9 = wr := ⟨_, rfl⟩
    subst hw9
    obtain ⟨k, now, rfl, hk, rfl, rfl, hst⟩ := hrel
    by_cases hkl : k < len1
    · obtain ⟨b, off, kd, n, tk, vB, d, rfl, hbl, hc0, hc1, hc2, hc3, hd, ⟨kd0, kd1⟩, ⟨n0, n1⟩, t0, t1⟩ := HW1.out k hkl
      have HS := Lib.hid hst
      obtain ⟨a, v, r1, r2, r3, r4, r5, r6, r7, r8, r9, r10, r11⟩ := hst
      obtain ⟨A, bc, rfl⟩ := hd.slice'
      have c0 : w9.cell? ⟨b, off + k * 4, none⟩ = some (.int .i64 kd) := by rw [r11.cell hbl (by simp)]; exact hc0
      have c1 : w9.cell? ⟨b, off + k * 4 + 1, none⟩ = some (.int .i64 n) := by rw [r11.cell hbl (by simp)]; exact hc1
      have c2 : w9.cell? ⟨b, off + k * 4 + 2, none⟩ = some (.int .i64 tk) := by rw [r11.cell hbl (by simp)]; exact hc2
      have c3 : w9.cell? ⟨b, off + k * 4 + 3, none⟩ = some (.slice A d.length bc) := by rw [r11.cell hbl (by simp)]; exact hc3
      have HD := Lib.hid hd
      have hi0 : (0 : Int) ≤ (k : Int) := by omega
      have hi1 : (k : Int) < (len1 : Int) := by omega
      have hsz := r11.size
      clear hc0 hc1 hc2 hc3 r1 r2 r3 r4 r8 r9 r10 r11 ST hd
      go_upto_region 11 with (fail)
      obtain ⟨wx, hwx⟩ : ∃ wx, wx = w9.alloc (Obj.cells #[Value.int IntKind.i64 kd, Value.int IntKind.i64 n, Value.int IntKind.i64 tk, Value.slice A d.length bc] 49) := ⟨_, rfl⟩
      have hax : At wx w9.heap.size 49 [.int .i64 kd, .int .i64 n, .int .i64 tk, .slice A d.length bc] := by rw [hwx]; exact At.new _ _ _
      have hstx : PlaySt a0 p m q k now w wx := by rw [hwx]; exact HS.out.chg ((Chg.refl [] _).alloc _)
      rw [← hwx]
      obtain ⟨g9, hg9⟩ : ∃ g9, g9 = w9.heap.size := ⟨_, rfl⟩
      rw [← hg9] at hax ⊢
      have HX := Lib.hid hstx
      obtain ⟨x0, x1, x2, x3, _⟩ := hax.four
      have HAX := Lib.hid hax
      clear hwx hax hstx HS hg9 c0 c1 c2 c3
      by_cases q0 : kd < 0
      · go_wp2_with fail
        go_ret
        exact ⟨rfl, HX.out.below⟩
      by_cases q1 : tk < 0
      · go_wp2_with fail
        go_ret
        exact ⟨rfl, HX.out.below⟩
      by_cases q2 : 100 < tk
      · go_wp2_with fail
        go_ret
        exact ⟨rfl, HX.out.below⟩
      by_cases q3 : 100 < d.length
      · have q3' : (100 : Int) < (d.length : Nat) := by omega
        go_wp2_with fail
        go_ret
        exact ⟨rfl, HX.out.below⟩
      have q3' : ¬ (100 : Int) < (d.length : Nat) := by omega
      by_cases q4 : 1073741824 ≤ n
      · go_wp2_with fail
        go_ret
        exact ⟨rfl, HX.out.below⟩
      by_cases q5 : n ≤ -1073741824
      · go_wp2_with fail
        go_ret
        exact ⟨rfl, HX.out.below⟩
      have q0' : 0 ≤ kd := by omega
      have q1' : 0 ≤ tk := by omega
      have q2' : tk ≤ 100 := by omega
      have hb : now ≤ 15000 := by omega
      have hnow : 0 ≤ now := by omega
      go_upto_if 69 with (fail)
      go_cut [10, 11] (fun s10 s11 wq => PlayGot p m q k (now + tk) s10 s11 w wq)
      case first =>
        obtain ⟨a, v, r1, r2, r3, r4, r5, r6, r7, r8, r9, r10, r11⟩ := HX.out
        have R1 := Lib.hid r1
        have R8 := Lib.hid r8
        have R9 := Lib.hid r9
        have R10 := Lib.hid r10
        have R11 := Lib.hid r11
        have hsx := r11.size
        clear HX
        by_cases q6 : kd % 5 = 4
        · have CT := Lib.hid (tick_is p m a (now + tk) wx r9 r1 (by omega) (by omega) (by omega) r5 (by omega))
          clear r1 r8 r9 r10 r11
          go_wp2_with fail
          refine CT.out.mono ?_
          rintro e w3 ⟨o, rfl, ho, hrc, hch⟩
          have CR := Lib.hid (rtick_is w.heap.size q v a (now + tk) w3 (play_mid R9.out R10.out hch hp hm) (Nat.le_trans hsx hch.size) hwq R1.out (by omega) (by omega) (by omega) r5 (by omega))
          have HO := Lib.hid ho
          have HRC := Lib.hid hrc
          have HCH := Lib.hid hch
          clear ho hrc hch CT x0 x1 x2 x3
          go_wp2_with fail
          refine CR.out.mono ?_
          rintro e w4 ⟨o2, v', rfl, ho2, hR2, hch2⟩
          have HO2 := Lib.hid ho2
          have HR2 := Lib.hid hR2
          have HCH2 := Lib.hid hch2
          clear ho2 hR2 hch2 CR
          go_wp2_with fail
          go_meet
          have t1 := Rcv.tick_all (D := fun d : List Int => d.length ≤ 100) (now := now + tk) R8.out
          have t2 := Rcv.tick_out (r := a) (now := now + tk)
          have t3 := Rcv.tick_twice (r := a) (now := now + tk)
          have t4 := tick_since (r := a) (now := now + tk) r5 (by omega)
          exact play_got R9.out R10.out R11.out hp hm hwq HO.out HRC.out HCH.out HO2.out HR2.out HCH2.out (by omega) t1.1 (Rcv.tick_ok R1.out) (Rcv.tick_len r2) (by omega) (by omega) t4.1 t4.2 t1.2
        · obtain ⟨r, hra, hrel⟩ := r10
          obtain ⟨y0, y1, y2, y3, _⟩ := hra.1.four
          rw [hrel.1] at y0
          have hnx0 := r1.nx0
          have hnx1 := r1.nx1
          clear r1 r8 r9 r11 hra hrel
          go_wp2_with fail
          go_quiet (fail)
          obtain ⟨wy, hwy⟩ : ∃ wy, wy = wx.drewN nq := ⟨_, rfl⟩
          have hcy : Chg [] wx wy.drew := by rw [hwy]; exact ((Chg.refl [] wx).drewN nq).drew
          have ry9 : RcvIs wy.drew p m a := R9.out.chg hcy (by simp) (by simp) (by simp)
          have ry10 : RefIs wy.drew w.heap.size q v a := R10.out.chg hcy (by simp) (by simp)
          have ry11 : Chg [] w wy.drew := R11.out.trans hcy
          have hay := HAX.out.chg hcy (by simp)
          have z3 : wy.cell? ⟨g9, 3, none⟩ = some (.slice A d.length bc) := hay.four.2.2.2.1
          have hg9 : g9 ∉ [p, m] := by
            intro hm'
            simp at hm'
            rcases hm' with e | e
            · exact hay.isT.ne ry9.kind.1 (by decide) e
            · rw [e] at hay; exact ry9.kind.2 _ hay.isT
          have hdy : BytS (· < w.heap.size) wy.drew (.slice A d.length bc) d := HD.out.chg ry11 (fun _ _ _ => by simp)
          have hgl : g9 < wy.drew.heap.size := hay.lt
          rw [← hwy]
          obtain ⟨seq, hseq⟩ : ∃ seq, seq = (a.nx + n % 4294967296) % 4294967296 := ⟨_, rfl⟩
          rw [← hseq]
          have hs0 : 0 ≤ seq := by omega
          have hs1 : seq < 4294967296 := by omega
          have CT := Lib.hid (put_in p m a (now + tk) seq (.slice A d.length bc) d wy.drew ry9 R1.out (by omega) (hdy.mono (fun g _ hs hm' => by simp at hm'; omega)) (by omega) hs0 hs1 (by omega) (by omega))
          have Y9 := Lib.hid ry9
          have Y10 := Lib.hid ry10
          have Y11 := Lib.hid ry11
          have HDY := Lib.hid hdy
          have HG9 := Lib.hid hg9
          have HAY := Lib.hid hay
          have hsy := ry11.size
          clear hwy hcy ry9 ry10 ry11 hay hg9 hdy hseq x0 x1 x2 x3 y0 y1 y2 y3
          go_wp2_with fail
          refine wp_region_phase 13 (fun w' => w'.cell? ⟨g9, 3, none⟩ = some (.slice A d.length bc)) (by kernel_rfl) ?_
          refine wpAnyP_with (by exact z3) (fun hSw => ?_)
          refine wpAnyP_take 0 [] (v := ?_) rfl (by kernel_rfl) (fun _ _ _ h => h) (by assumption) (Or.inl ⟨by rfl, ?_⟩) ?_
          rotate_left
          · (intro w hSw; (try dsimp only at hSw); go_simp; try with_reducible rfl)
          simp only [Act.put, List.setIfInBounds_toArray, List.set_cons_zero, List.set_cons_succ]
          refine wpAnyP_take 1 [] (v := ?_) rfl (by kernel_rfl) (fun _ _ _ h => h) (by assumption) (Or.inl ⟨by rfl, ?_⟩) ?_
          rotate_left
          · (intro w hSw; (try dsimp only at hSw); go_simp; try with_reducible rfl)
          simp only [Act.put, List.setIfInBounds_toArray, List.set_cons_zero, List.set_cons_succ]
          refine wpAnyP_take 2 [] (v := ?_) rfl (by kernel_rfl) (fun _ _ _ h => h) (by assumption) (Or.inl ⟨by rfl, ?_⟩) ?_
          rotate_left
          · (intro w hSw; (try dsimp only at hSw); go_simp; try with_reducible rfl)
          simp only [Act.put, List.setIfInBounds_toArray, List.set_cons_zero, List.set_cons_succ]
          refine wpAnyP_take 3 [] (v := ?_) rfl (by kernel_rfl) (fun _ _ _ h => h) (by assumption) (Or.inl ⟨by rfl, ?_⟩) ?_
          rotate_left
          · (intro w hSw; (try dsimp only at hSw); go_simp; try with_reducible rfl)
          simp only [Act.put, List.setIfInBounds_toArray, List.set_cons_zero, List.set_cons_succ]
          refine wpAnyP_take 4 [] (v := ?_) rfl (by kernel_rfl) (fun _ _ _ h => h) (by assumption) (Or.inl ⟨by rfl, ?_⟩) ?_
          rotate_left
          · (intro w hSw; (try dsimp only at hSw); go_simp; try with_reducible rfl)
          simp only [Act.put, List.setIfInBounds_toArray, List.set_cons_zero, List.set_cons_succ]
          refine wpAnyP_take 6 [] (v := ?_) rfl (by kernel_rfl) (fun _ _ _ h => h) (by assumption) (Or.inl ⟨by rfl, ?_⟩) ?_
          rotate_left
          · (intro w hSw; (try dsimp only at hSw); go_simp; try with_reducible rfl)
          simp only [Act.put, List.setIfInBounds_toArray, List.set_cons_zero, List.set_cons_succ]
          refine wpAnyP_take 7 [] (v := ?_) rfl (by kernel_rfl) (fun _ _ _ h => h) (by assumption) (Or.inl ⟨by rfl, ?_⟩) ?_
          rotate_left
          · (intro w hSw; (try dsimp only at hSw); go_simp; try with_reducible rfl)
          simp only [Act.put, List.setIfInBounds_toArray, List.set_cons_zero, List.set_cons_succ]
          refine wpAnyP_take 8 [] (v := ?_) rfl (by kernel_rfl) (fun _ _ _ h => h) (by assumption) (Or.inl ⟨by rfl, ?_⟩) ?_
          rotate_left
          · (intro w hSw; (try dsimp only at hSw); go_simp; try with_reducible rfl)
          simp only [Act.put, List.setIfInBounds_toArray, List.set_cons_zero, List.set_cons_succ]
          refine wpAnyP_take 9 [] (v := ?_) rfl (by kernel_rfl) (fun _ _ _ h => h) (by assumption) (Or.inl ⟨by rfl, ?_⟩) ?_
          rotate_left
          · (intro w hSw; (try dsimp only at hSw); go_simp; try with_reducible rfl)
          simp only [Act.put, List.setIfInBounds_toArray, List.set_cons_zero, List.set_cons_succ]
          refine wpAnyP_take 10 [] (v := ?_) rfl (by kernel_rfl) (fun _ _ _ h => h) (by assumption) (Or.inl ⟨by rfl, ?_⟩) ?_
          rotate_left
          · (intro w hSw; (try dsimp only at hSw); go_simp; try with_reducible rfl)
          simp only [Act.put, List.setIfInBounds_toArray, List.set_cons_zero, List.set_cons_succ]
          refine wpAnyP_one 5 rfl (by kernel_rfl) (fun K hK => ?_)
          rw [if_pos (by rfl)]
          go_wp2_with ((refine CT.out.mono ?_; rintro e w3 ⟨o, rfl, ho, hrc, hch⟩; have z4 : w3.cell? ⟨g9, 3, none⟩ = some (.slice A d.length bc) := (hch.cell (p := ⟨g9, 3, none⟩) hgl HG9.out).trans z3; have HO := Lib.hid ho; have HRC := Lib.hid hrc; have HCH := Lib.hid hch; clear ho hrc hch))
          refine hold_with (by (try dsimp only at hSw); exact z4) (fun hSn => ?_)
          clear hSw; have hSw := hSn; clear hSn
          refine wpAnyP_one 11 rfl (by kernel_rfl) (fun K hK => ?_)
          rw [if_pos (by rfl)]
          go_wp2_with ((refine (rput_is w.heap.size q v a (now + tk) seq (.slice A d.length bc) d w3 (play_mid Y9.out Y10.out HCH.out hp hm) (Nat.le_trans hsy HCH.out.size) hwq R1.out (by omega) (HDY.out.chg HCH.out (fun g _ hs hm' => by simp at hm'; omega)) hs0 hs1 (by omega) (by omega)).mono ?_; rintro e w4 ⟨o2, v', rfl, ho2, hR2, hch2⟩; have HO2 := Lib.hid ho2; have HR2 := Lib.hid hR2; have HCH2 := Lib.hid hch2; have hA3 := HAY.out.chg HCH.out HG9.out; have hk3 := (play_mid Y9.out Y10.out HCH.out hp hm).kind hwq; have z5 : w4.cell? ⟨g9, 3, none⟩ = some (.slice A d.length bc) := (hA3.chg hch2 (fun hx => (hk3 g9 hx).2.2.elim (fun h => h.ne hA3.isT (by decide) rfl) (fun h => h.ne hA3.isT (by decide) rfl))).four.2.2.2.1; clear ho2 hR2 hch2 hA3 hk3))
          refine hold_with (by (try dsimp only at hSw); exact z5) (fun hSn => ?_)
          clear hSw; have hSw := hSn; clear hSn
          refine wpAnyP_one 12 rfl (by kernel_rfl) (fun K hK => ?_)
          rw [if_pos (by rfl)]
          go_wp2_with (fail)
          refine hold_with (by (try dsimp only at hSw); exact z5) (fun hSn => ?_)
          clear hSw; have hSw := hSn; clear hSn
          refine wpAnyP_one 13 rfl (by kernel_rfl) (fun K hK => ?_)
          rw [if_pos (by rfl)]
          go_wp2_with (fail)
          refine ⟨fun hz => (by simp at hz), ?_⟩
          refine wpAnyP_done (by kernel_rfl) ?_ _
          clear hSw z3 z4 z5 CT
          go_wp2_with fail
          go_meet
          have t1 := Rcv.put_all (D := fun d : List Int => d.length ≤ 100) (now := now + tk) (seq := seq) (d := d) R8.out (show d.length ≤ 100 by omega)
          have t2 := Rcv.put_out (r := a) (now := now + tk) (seq := seq) (d := d)
          have t3 := Rcv.put_twice (r := a) (now := now + tk) (seq := seq) (d := d)
          have t4 := put_since (r := a) (now := now + tk) (seq := seq) (d := d) r5 (by omega)
          exact play_got Y9.out Y10.out Y11.out hp hm hwq HO.out HRC.out HCH.out HO2.out HR2.out HCH2.out (by omega) t1.1 (Rcv.put_ok R1.out hs0 hs1) (Rcv.put_len r2) (by omega) (by omega) t4.1 t4.2 t1.2
      case rest =>
        obtain ⟨a, v, out, b1, b2, b3, b4, b5, b6, b7, b8, b9, b10, b11, b12, b13, b14⟩ := hcut
        obtain ⟨r, hra, hrel⟩ := b12
        obtain ⟨r', hra', hrel'⟩ := b13
        have CS : ∀ n, Calls Try.prog 26 #[u10, u11] (wc.drewN n) fun e w' => e = .returned (.bool true) ∧ ∃ m, w' = (wc.drewN n).drewN m := fun n =>
          same_any u10 u11 out (wc.drewN n) (b1.chg ((Chg.refl [] _).drewN n)) (b2.chg ((Chg.refl [] _).drewN n)) (fun k hk => by have := b4 _ (List.getElem_mem hk); omega) (by omega)
        have CN : ∀ n, Calls Try.prog 27 #[.pointer (some ⟨p, 0, none⟩)] (wc.drewN n) fun e w' => e = .returned (.int .u32 a.nx) ∧ wc.drewN n = w' := fun n => by
          have h := next_any p m r (wc.drewN n) (hra.chg ((Chg.refl [] _).drewN n) (by simp) (by simp))
          rw [hrel.1] at h
          exact h
        have CE : ∀ n, Calls Try.prog 28 #[.pointer (some ⟨p, 0, none⟩)] (wc.drewN n) fun e w' => e = .returned (.int .i64 a.l.length) ∧ wc.drewN n = w' := fun n => by
          have h := early_any p m r (wc.drewN n) (hra.chg ((Chg.refl [] _).drewN n) (by simp) (by simp))
          rw [hrel.2.1.len] at h
          exact h
        have CW : ∀ n, Calls Try.prog 29 #[.pointer (some ⟨p, 0, none⟩)] (wc.drewN n) fun e w' => e = .returned (.int .i64 a.twice) ∧ wc.drewN n = w' := fun n => by
          have h := twice_any p m r (wc.drewN n) (hra.chg ((Chg.refl [] _).drewN n) (by simp) (by simp))
          rw [hrel.2.2.2] at h
          exact h
        obtain ⟨ra, rc, hra1, _⟩ := hra'.cells
        obtain ⟨y0, y1, y2, y3, _⟩ := hra'.1.four
        rw [hra1, hrel'.2.1.len] at y1
        rw [hrel'.1] at y0
        rw [hrel'.2.2.2] at y3
        have st : PlaySt a0 p m q (k + 1) (now + tk) w wc := ⟨a, v, b5, b6, b7, by omega, b9, b10, by omega, b11, ⟨r, hra, hrel⟩, ⟨r', hra', hrel'⟩, b14⟩
        have ST := Lib.hid st
        have HCS := Lib.hid CS
        have HCN := Lib.hid CN
        have HCE := Lib.hid CE
        have HCW := Lib.hid CW
        have h8 : ¬ (8 : Int) < (a.l.length : Nat) := by omega
        clear st CS CN CE CW hra hrel hra' hrel' hra1 b1 b2 b4 b5 b11 b14 x0 x1 x2 x3 HAX HX HD y2
        go_wp2_with fail
        go_quiet ((first | (go_at_call 26; exact Calls.quiet_of (HCS.out _)) | (go_at_call 27; exact quiet_l (HCN.out _)) | (go_at_call 28; exact quiet_l (HCE.out _)) | (go_at_call 29; exact quiet_l (HCW.out _))))
        clear y0 y1 y3
        go_wp2_with fail
        go_roundg (len1 - (k + 1))
        case measure => omega
        case rel => exact ⟨k + 1, now + tk, rfl, by omega, rfl, rfl, ST.out.chg ((Chg.refl [] _).drewN _)⟩
    · obtain rfl : k = len1 := by omega
      have HB := Lib.hid hst.below
      clear hst ST
      go_wp2_with fail
      refine (alive31_any _).mono ?_
      rintro e w5 ⟨rfl, hch5⟩
      have HC5 := Lib.hid (HB.out.trans (hch5.below HB.out.size (by simp)))
      clear hch5
      go_wp2_with fail
      go_ret
      exact ⟨rfl, HC5.out⟩

/-! ### The row's step -/
set_option maxRecDepth 100000 in
theorem lifted (os : Os) (started : os.Started) (H : Type) (enc : TypeId × Value → H) :
    ReturnsInHanded {} Try.checked os 6 .any (Rows.recvPlaysSpec.pre6 enc Try.prog Try.f6 Rows.recvPlaysRow.domain false) (Rows.recvPlaysSpec.post enc Try.prog Try.f6 false true false false) := by
  refine returnsInHanded_of_change (C := Try.checked) own started (by kernel_rfl) Try.func6
    (ChangeSpec.witness6 (enc := enc) (C := Try.checked) false ⟨#[], #[.int .u32 0, .slice none 0 0], []⟩ 8 (by kernel_rfl) (by kernel_rfl) (by kernel_rfl) (by kernel_rfl)) ?_
  intro W base args ds gs before hval0 hW hcnd _
  have hval : ∀ (j : Nat) t v, Try.f6.params[j]? = some t → args[j]? = some v → Value.okWide Try.prog W .any base t v := hval0
  have hW' := hW
  obtain ⟨p, q, hA0, hV, rfl, hfz, hnd⟩ := hW
  have hA : DataW.TrodAll enc Try.prog W 0 (fun _ => true) true Try.f6.params.toList args.toList ds p := hA0
  rw [Try.params6] at hA hval
  obtain ⟨v0, vs0, d0, ds0, p0, q0, hargs, rfl, rfl, h0, r0⟩ := trodAll_cons hA
  obtain ⟨v1, vs1, d1, ds1, p1, q1, rfl, rfl, rfl, h1, r1⟩ := trodAll_cons r0
  obtain ⟨rfl, rfl, rfl⟩ := trodAll_nil r1
  obtain rfl : args = #[v0, v1] := by cases args; simp_all
  obtain ⟨rfl, rfl⟩ := trodVars_none hV
  obtain ⟨a0, rfl, rfl, rfl, w0⟩ := open_int Try.underlying22 (hval 0 22 v0 rfl rfl) h0
  have k1 := h1
  have lt1 : ∀ x ∈ p1, x.block < W.heap.size := by obtain ⟨m, hm⟩ := k1; exact DataW.trod_lt m _ _ _ hm
  obtain ⟨a1, len1, cap1, rfl⟩ := okWide_slice Try.underlying46 (hval 1 46 v1 rfl rfl)
  have w1 : OpsB W a1 len1 := by
    obtain ⟨fuel, hf⟩ := h1
    exact opsB_of Try.underlying46 Try.underlying49 (by kernel_rfl) (by kernel_rfl) Try.underlying3 Try.underlying3 Try.underlying3 Try.underlying29 Try.underlying5 (by kernel_rfl) hf
  clear hA0 hval0
  refine (walk a0 a1 len1 cap1 W w0 w1).mono fun e W' ⟨he, bel⟩ => ?_
  subst he
  exact ⟨_, rfl, _, _, _, [], _, [], hW', trodAll_mk1 (shut_bool Try.underlying4 _), (trodAll_cons_mk (shut_int Try.underlying22 w0) (trodAll_cons_mk (Below.trod laidOut (by kernel_rfl) (of_decide_eq_true (by kernel_rfl)) k1 bel lt1) trodAll_mk0)), rfl, bel.frame _, fun h => by cases h⟩

theorem over : Rows.recvPlaysRow.holds Try.pinned (OpenSpec.ofChange Rows.recvPlaysSpec) :=
  OpenClaim.holds_of_wide 6 Try.f6 rfl rfl rfl rfl rfl rfl rfl ⟨rfl, rfl, rfl, rfl, rfl⟩ rfl rfl rfl rfl rfl (by kernel_rfl) Try.func6 (by kernel_rfl)
    (of_decide_eq_true (by kernel_rfl)) (by unfold Func.isWrapper; first | (rw [if_pos (by decide +kernel)]; kernel_rfl) | (rw [if_neg (by decide +kernel)]; exact ⟨rfl, rfl⟩))
    (fun os started H enc _ => lifted os started H enc)

/-- The statement. -/
theorem proved : Rows.RecvPlaysSaid := over
#print axioms proved
end Go.Proofs.Ytkmjpphmciaklaa.recvPlays
