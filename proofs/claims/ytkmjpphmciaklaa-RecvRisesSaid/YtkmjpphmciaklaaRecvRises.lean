/- Proved: for every uint32 and every slice of catwalklaw31.Op the Go law catwalklaw31.RecvRises returns true, and its arguments read behind the call as they read before. Conditions: none.
The frame of this text follows the kit's own shell of a law's proof; the walk and its lemmas are ours. -/
import Derived.Test.YtkmjpphmciaklaaRecv8
import Derived.Test.YtkmjpphmciaklaaRisesLaw
import Derived.Test.YtkmjpphmciaklaaCame
import Derived.Test.YtkmjpphmciaklaaOps4
import Derived.Test.YtkmjpphmciaklaaPhase
import Derived.Deep.LoopGhost
import Derived.Deep.DeepCutAuto
import Derived.Laws.OwnMore
import Derived.WalkKit
import Derived.ProofKit
import Derived.OpenShut
import Derived.ShutString
import Derived.ChangeOld
import Derived.Below
import Derived.Lib.SmallJoins
namespace Go.Proofs.Ytkmjpphmciaklaa.recvRises
open Go.ChangeShapes Go.WideShapes Go.ChangeAt Go.RowKit Go.Joins
open Go.ChangeMaps (open_string shut_string)
set_option linter.unusedVariables false
set_option linter.unusedSimpArgs false
attribute [local go_sem ↓] Go.wp_at_zero Go.wp_at_succ

theorem own : ownKnob Try.prog.godebug = none := by kernel_rfl
theorem laidOut : laidOutB Try.prog = true := by kernel_rfl

def IsRow (k : IntKind) (w : World) (a : Option Addr) (len cap : Nat) (zs : List Int) : Prop :=
  (a = none ∧ len = 0 ∧ cap = 0 ∧ zs = []) ∨
  ∃ x, a = some x ∧ len ≤ cap ∧ cap ≤ maxLen ∧ zs.length = cap ∧ (∀ i, i < zs.length → w.cell? (x.add i) = some (.int k (zs.getD i 0))) ∧ ∀ n ∈ zs, (Lit.int k n).wf = true

/-- The data of a number. -/
def dat2 (j : Nat) : List Int := [(j : Int) % 256, (j : Int) / 256 % 256]

/-- Behind k rounds. -/
def RiseSt (first : Int) (p m gc : Nat) (k : Nat) (now last : Int) (w wr : World) : Prop :=
  ∃ nb a f, RisesInv first dat2 (fun j => f j = true) 100001 nb a ∧ a.Ok ∧ a.l.length ≤ 8 ∧ 0 ≤ a.twice ∧ a.twice ≤ k ∧ 0 ≤ a.since ∧ a.since ≤ now ∧ now ≤ 100 * k ∧ -1 ≤ last ∧ last < nb ∧
    RcvIs wr p m a ∧ CameAt wr gc 100001 f ∧ Chg [] w wr

/-- What is handed on in a round. -/
def RiseGot (first : Int) (p m gc : Nat) (k : Nat) (now last : Int) (v : Value) (w wr : World) : Prop :=
  ∃ lo mm a f, OutIs wr 0 v ((List.range' lo mm).map (fun j => (numK first j, dat2 j))) ∧ last < lo ∧ lo + mm ≤ 100001 ∧ (∀ j, lo ≤ j → j < lo + mm → f j = true) ∧
    RisesInv first dat2 (fun j => f j = true) 100001 (lo + mm) a ∧ a.Ok ∧ a.l.length ≤ 8 ∧ 0 ≤ a.twice ∧ a.twice ≤ k + 1 ∧ 0 ≤ a.since ∧ a.since ≤ now ∧ now ≤ 100 * (k + 1) ∧ -1 ≤ last ∧
    RcvIs wr p m a ∧ CameAt wr gc 100001 f ∧ Chg [] w wr

theorem RiseSt.chg {first : Int} {p m gc k : Nat} {now last : Int} {w wr wx : World} (h : RiseSt first p m gc k now last w wr) (c : Chg [] wr wx) : RiseSt first p m gc k now last w wx := by
  obtain ⟨nb, a, f, r1, r2, r3, r4, r5, r6, r7, r8, r9, r10, r11, r12, r13⟩ := h
  exact ⟨nb, a, f, r1, r2, r3, r4, r5, r6, r7, r8, r9, r10, r11.chg c (by simp) (by simp) (by simp), r12.chg c (by simp), r13.trans c⟩
theorem RiseSt.below {first : Int} {p m gc k : Nat} {now last : Int} {w wr : World} (h : RiseSt first p m gc k now last w wr) : Below w.heap.size w wr := by
  obtain ⟨nb, a, f, r1, r2, r3, r4, r5, r6, r7, r8, r9, r10, r11, r12, r13⟩ := h
  exact r13.below (Nat.le_refl _) (by simp)
theorem RiseSt.now {first : Int} {p m gc k : Nat} {now last : Int} {w wr : World} (h : RiseSt first p m gc k now last w wr) : 0 ≤ now ∧ now ≤ 100 * k := by
  obtain ⟨nb, a, f, r1, r2, r3, r4, r5, r6, r7, r8, r9, r10, r11, r12, r13⟩ := h
  exact ⟨by omega, r8⟩

theorem equal_self2 (v1 v2 : Value) (d : List Int) (w : World) (h1 : Bytes w v1 d) (h2 : Bytes w v2 d) (hl : d.length ≤ 1000000) :
    Calls Try.prog 14 #[v1, v2] w fun e w' => e = .returned (.bool true) ∧ Chg [] w w' :=
  (equal_any v1 v2 d d w h1 h2 hl hl).mono (fun e w' h => ⟨h.1.trans (by rw [decide_eq_true rfl]), h.2⟩)
theorem CameAt.noB {w : World} {g n : Nat} {f : Nat → Bool} (h : CameAt w g n f) : NoB w g := by
  intro cs fz he
  obtain ⟨cs', hb, _⟩ := h
  rw [hb] at he
  simp at he
theorem OutIs.zero {w : World} {b : Nat} {v : Value} {out : List (Int × List Int)} (h : OutIs w b v out) : OutIs w 0 v out := by
  obtain ⟨o, h1, h2⟩ := h
  exact ⟨o, owns_mono h1 (Nat.zero_le _), h2⟩
theorem got_tick {first : Int} {p m gc k nb : Nat} {now last : Int} {w wx w3 : World} {o : Value} {a : Rcv (List Int)} {f : Nat → Bool}
    (r1 : RisesInv first dat2 (fun j => f j = true) 100001 nb a) (r2 : a.Ok) (r3 : a.l.length ≤ 8) (r4 : 0 ≤ a.twice) (r5 : a.twice ≤ k) (r6 : 0 ≤ a.since) (r7 : a.since ≤ now) (r8 : now ≤ 100 * (k + 1)) (r9 : -1 ≤ last) (r10 : last < nb)
    (r12 : CameAt wx gc 100001 f) (r13 : Chg [] w wx) (hp : p < gc) (hm : m < gc) (hp0 : w.heap.size ≤ p) (hm0 : w.heap.size ≤ m)
    (ho : OutIs w3 wx.heap.size o (a.tick now).2) (hrc : RcvIs w3 p m (a.tick now).1) (hch : Chg [p, m] wx w3) : RiseGot first p m gc k now last o w w3 := by
  obtain ⟨lo, mm, h1, h2, h3, h4, h5⟩ := r1.tick (by omega) now
  rw [h3] at ho
  have hs := tick_since (r := a) (now := now) r6 r7
  have ht := Rcv.tick_twice (r := a) (now := now)
  refine ⟨lo, mm, _, f, OutIs.zero ho, by omega, h2, h4, h5, Rcv.tick_ok r2, Rcv.tick_len r3, by omega, by omega, hs.1, hs.2, r8, r9, hrc, r12.chg hch (by simp; omega), ?_⟩
  exact r13.trans' hch (by intro x hx; simp at hx; rcases hx with rfl | rfl <;> right <;> assumption)
theorem came_mono {first : Int} {D : Nat → List Int} {f g : Nat → Bool} {hi nb : Nat} {a : Rcv (List Int)} (h : RisesInv first D (fun j => f j = true) hi nb a) (hfg : ∀ j, f j = true → g j = true) : RisesInv first D (fun j => g j = true) hi nb a :=
  ⟨h.le, h.nx, fun p hp => by obtain ⟨j, a1, a2, a3, a4⟩ := h.ky p hp; exact ⟨j, a1, a2, hfg j a3, a4⟩, h.knd⟩
theorem got_put {first : Int} {p m gc k nb n : Nat} {now last : Int} {w wx w2 w3 : World} {o : Value} {a : Rcv (List Int)} {f : Nat → Bool}
    (r1 : RisesInv first dat2 (fun j => f j = true) 100001 nb a) (r2 : a.Ok) (r3 : a.l.length ≤ 8) (r4 : 0 ≤ a.twice) (r5 : a.twice ≤ k) (r6 : 0 ≤ a.since) (r7 : a.since ≤ now) (r8 : now ≤ 100 * (k + 1)) (r9 : -1 ≤ last) (r10 : last < nb)
    (r12 : CameAt wx gc 100001 f) (r13 : Chg [] w wx) (hp : p < gc) (hm : m < gc) (hp0 : w.heap.size ≤ p) (hm0 : w.heap.size ≤ m) (hn : n ≤ 100000) (h2 : Chg [] (wx.setCell ⟨gc, n, none⟩ (.bool true)) w2) (hg0 : w.heap.size ≤ gc)
    (ho : OutIs w3 w2.heap.size o (a.put now (numK first n) (dat2 n)).2) (hrc : RcvIs w3 p m (a.put now (numK first n) (dat2 n)).1) (hch : Chg [p, m] w2 w3) : RiseGot first p m gc k now last o w w3 := by
  have r1' := came_mono (g := fun j => f j || j == n) r1 (fun j hj => by simp [hj])
  obtain ⟨lo, mm, h1, h2', h3, h4, h5⟩ := r1'.put (by omega) now (n := n) (by omega) (by simp)
  rw [h3] at ho
  have hs := put_since (r := a) (now := now) (seq := numK first n) (d := dat2 n) r6 r7
  have ht := Rcv.put_twice (r := a) (now := now) (seq := numK first n) (d := dat2 n)
  have hc2 : CameAt w2 gc 100001 (fun j => f j || j == n) := (r12.set n).chg h2 (by simp)
  refine ⟨lo, mm, _, _, OutIs.zero ho, by omega, h2', h4, h5, Rcv.put_ok r2 (by unfold numK; omega) (by unfold numK; omega), Rcv.put_len r3, by omega, by omega, hs.1, hs.2, r8, r9, hrc, hc2.chg hch (by simp; omega), ?_⟩
  have c1 : Chg [] w w2 := (r13.set (p := ⟨gc, n, none⟩) (by right; exact hg0) _).trans h2
  exact c1.trans' hch (by intro x hx; simp at hx; rcases hx with rfl | rfl <;> right <;> assumption)
theorem bytes_two (w : World) (x y : Int) : Bytes (w.alloc (.cells #[.int .u8 x, .int .u8 y] 5)) (.slice (some ⟨w.heap.size, 0, none⟩) 2 2) [x, y] :=
  ⟨_, _, rfl, fun _ => ⟨_, _, rfl, _, _, (MapKept.heap_alloc w _).1, fun j u hj => by
    match j with
    | 0 => simp at hj; subst hj; rfl
    | 1 => simp at hj; subst hj; rfl
    | j + 2 => simp at hj⟩⟩

theorem Try.info4 : (Try.prog.info? 4).map (fun i => (i.zero, i.size, i.bytes)) = some (some (.bool false), 1, 1) := by kernel_rfl

set_option maxRecDepth 100000 in
set_option maxHeartbeats 4000000 in
theorem walk (a0 : Int) (a1 : Option Addr) (len1 cap1 : Nat) (w : World) (w0 : (Lit.int .u32 a0).wf = true) (w1 : Ops4 w a1 len1) :
    Calls Try.prog 5 #[.int .u32 a0, .slice a1 len1 cap1] w fun e w' => e = .returned (.bool true) ∧ Below w.heap.size w w' := by
  obtain ⟨ha0, ha0'⟩ := bounds_u32 w0
  by_cases hlong : 300 < len1
  · clear w1
    go_enter Try.func5, Try.ntmps5
    go_wp2
    go_ret
    exact ⟨rfl, Below.refl _ _⟩
  have hlen : len1 ≤ 300 := by omega
  clear hlong w0
  obtain ⟨i4, hi4, hz0, hz1, hz2⟩ := info_parts Try.info4
  have hfirst : numK a0 0 = a0 := by unfold numK; omega
  have HFI := Lib.hid hfirst
  have HW1 := Lib.hid w1
  clear hfirst w1
  go_enter Try.func5, Try.ntmps5
  go_wp2_with fail
  refine (recv_new _ _).mono ?_
  rintro e wa ⟨p, m, rfl, hp, hm, hrc, hch⟩
  have h1 : RcvIs wa p m ⟨numK a0 0, [], 0, 0⟩ := ⟨_, hrc, by rw [HFI.out], trivial, rfl, rfl⟩
  have hpl := hrc.1.lt
  have hml := hrc.2.lt
  obtain ⟨wm, hmk, hcm, hcc⟩ := came_made (P := Try.prog) Try.underlying47 hi4 hz0 hz1 hz2 wa
  obtain ⟨gc, hgc⟩ : ∃ gc, gc = wa.heap.size := ⟨_, rfl⟩
  rw [← hgc] at hmk hcm hpl hml
  have st : RiseSt a0 p m gc 0 0 (-1) w wm :=
    ⟨0, _, _, ⟨by omega, rfl, by simp, by simp⟩, ⟨by show 0 ≤ numK a0 0; unfold numK; omega, by show numK a0 0 < _; unfold numK; omega, by simp⟩, by simp, by simp, by simp, by simp, by simp, by simp, by simp, by simp, h1.chg hcc (by simp) (by simp) (by simp), hcm, hch.trans hcc⟩
  have ST := Lib.hid st
  have hwg : w.heap.size ≤ gc := by have := hch.size; omega
  clear st hcm hcc h1 hrc hch hgc hi4 hz0 hz1 hz2
  go_wp2_with fail
  clear hmk
  go_loopg [6, 7, 9, 10, 11, 12, 13] len1 (fun g s6 s7 s9 s10 s11 s12 s13 wr => ∃ (k : Nat) (now last : Int), g = len1 - k ∧ k ≤ len1 ∧ s6 = .int .i64 now ∧ s7 = .int .i64 last ∧ s9 = .int .i64 k ∧ RiseSt a0 p m gc k now last w wr)
  case atStart => exact ⟨0, 0, -1, rfl, by omega, rfl, rfl, rfl, ST.out⟩
  case round =>
    obtain ⟨w9, hw9⟩ : ∃ w9, w9 = wr := ⟨_, rfl⟩
    subst hw9
    obtain ⟨k, now, last, rfl, hk, rfl, rfl, rfl, hst⟩ := hrel
    by_cases hkl : k < len1
    · obtain ⟨b, off, kd, n, tk, A, bm, bc, rfl, hbl, hc0, hc1, hc2, hc3, ⟨kd0, kd1⟩, ⟨n0, n1⟩, t0, t1⟩ := HW1.out k hkl
      have HS := Lib.hid hst
      obtain ⟨nb, a, f, r1, r2, r3, r4, r5, r6, r7, r8, r9, r10, r11, r12, r13⟩ := hst
      have c0 : w9.cell? ⟨b, off + k * 4, none⟩ = some (.int .i64 kd) := by rw [r13.cell hbl (by simp)]; exact hc0
      have c1 : w9.cell? ⟨b, off + k * 4 + 1, none⟩ = some (.int .i64 n) := by rw [r13.cell hbl (by simp)]; exact hc1
      have c2 : w9.cell? ⟨b, off + k * 4 + 2, none⟩ = some (.int .i64 tk) := by rw [r13.cell hbl (by simp)]; exact hc2
      have c3 : w9.cell? ⟨b, off + k * 4 + 3, none⟩ = some (.slice A bm bc) := by rw [r13.cell hbl (by simp)]; exact hc3
      have hi0 : (0 : Int) ≤ (k : Int) := by omega
      have hi1 : (k : Int) < (len1 : Int) := by omega
      have hsz := r13.size
      have HOK := Lib.hid r2
      clear hc0 hc1 hc2 hc3 r1 r2 r3 r4 r5 r6 r7 r8 r9 r10 r11 r12 r13 ST
      go_upto_region 12 with (fail)
      obtain ⟨wx, hwx⟩ : ∃ wx, wx = w9.alloc (Obj.cells #[Value.int IntKind.i64 kd, Value.int IntKind.i64 n, Value.int IntKind.i64 tk, Value.slice A bm bc] 49) := ⟨_, rfl⟩
      have hax : At wx w9.heap.size 49 [.int .i64 kd, .int .i64 n, .int .i64 tk, .slice A bm bc] := by rw [hwx]; exact At.new _ _ _
      have hstx : RiseSt a0 p m gc k now last w wx := by rw [hwx]; exact HS.out.chg ((Chg.refl [] _).alloc _)
      rw [← hwx]
      obtain ⟨g9, hg9⟩ : ∃ g9, g9 = w9.heap.size := ⟨_, rfl⟩
      rw [← hg9] at hax ⊢
      have hgg : gc < g9 := by obtain ⟨_, _, _, _, _, _, _, _, _, _, _, _, _, _, hca, _⟩ := HS.out; rw [hg9]; exact hca.lt
      have HX := Lib.hid hstx
      obtain ⟨x0, x1, x2, _⟩ := hax.four
      have HAX := Lib.hid hax
      clear hwx hax hstx HS hg9 c0 c1 c2 c3
      by_cases q0 : kd < 0
      · go_wp2_with fail
        go_ret
        exact ⟨rfl, HX.out.below⟩
      by_cases q1 : tk < 0
      · go_wp2_with fail
        go_ret
        exact ⟨rfl, HX.out.below⟩
      by_cases q2 : 100 < tk
      · go_wp2_with fail
        go_ret
        exact ⟨rfl, HX.out.below⟩
      by_cases q3 : n < 0
      · go_wp2_with fail
        go_ret
        exact ⟨rfl, HX.out.below⟩
      by_cases q4 : 100000 < n
      · go_wp2_with fail
        go_ret
        exact ⟨rfl, HX.out.below⟩
      obtain ⟨n', rfl⟩ : ∃ n' : Nat, n = (n' : Int) := ⟨n.toNat, by omega⟩
      have hn' : n' ≤ 100000 := by omega
      have q0' : 0 ≤ kd := by omega
      have q1' : 0 ≤ tk := by omega
      have q2' : tk ≤ 100 := by omega
      clear n0 n1 q3 q4 kd0 q0 q1 q2 t0 t1
      obtain ⟨hnow0, hnow1⟩ := HX.out.now
      have hb : now ≤ 30000 := by omega
      go_upto_if 62 with (fail)
      go_cut [11] (fun s11 wq => RiseGot a0 p m gc k (now + tk) last s11 w wq)
      case first =>
        obtain ⟨nb, a, f, r1, r2, r3, r4, r5, r6, r7, r8, r9, r10, r11, r12, r13⟩ := HX.out
        have R1 := Lib.hid r1
        have R2 := Lib.hid r2
        have R11 := Lib.hid r11
        have R12 := Lib.hid r12
        have R13 := Lib.hid r13
        obtain ⟨y0, y1⟩ := r12.cell (j := n') (by omega)
        clear r1 r2 r11 r12 r13 HX HAX HOK
        by_cases q5 : kd % 5 = 4
        · have CT := Lib.hid (tick_is p m a (now + tk) wx R11.out R2.out (by omega) (by omega) (by omega) r6 (by omega))
          clear y0 y1
          go_wp2_with fail
          refine CT.out.mono ?_
          rintro e w3 ⟨o, rfl, ho, hrc, hch⟩
          have HO := Lib.hid ho
          have HRC := Lib.hid hrc
          have HCH := Lib.hid hch
          clear ho hrc hch CT
          go_wp2_with fail
          go_meet
          exact got_tick R1.out R2.out r3 r4 r5 r6 (by omega) (by omega) r9 r10 R12.out R13.out hpl hml hp hm HO.out HRC.out HCH.out
        · have hs2 : Chg [] (wx.setCell ⟨gc, n', none⟩ (.bool true)) ((wx.setCell ⟨gc, n', none⟩ (.bool true)).alloc (.cells #[.int .u8 ((n' : Nat) % 256), .int .u8 ((n' : Nat) / 256 % 256)] 5)) := (Chg.refl _ _).alloc _
          have hcs : Chg [gc] wx ((wx.setCell ⟨gc, n', none⟩ (.bool true)).alloc (.cells #[.int .u8 ((n' : Nat) % 256), .int .u8 ((n' : Nat) / 256 % 256)] 5)) := ((Chg.refl [gc] wx).set (by simp) _).alloc _
          have hby := bytes_two (wx.setCell ⟨gc, n', none⟩ (.bool true)) ((n' : Nat) % 256) ((n' : Nat) / 256 % 256)
          have hsz2 : (wx.setCell ⟨gc, n', none⟩ (.bool true)).heap.size = wx.heap.size := by simp [World.setCell]
          rw [hsz2] at hby
          have CT := Lib.hid (put_is p m a (now + tk) (numK a0 n') (.slice (some ⟨wx.heap.size, 0, none⟩) 2 2) (dat2 n') _ (R11.out.chg hcs (by simp; omega) (by simp; omega) (by
            intro x hx; simp at hx; subst hx
            exact CameAt.noB R12.out)) R2.out (by omega) hby (by simp [dat2]) (by unfold numK; omega) (by unfold numK; omega) (by omega) (by omega))
          have HS2 := Lib.hid hs2
          clear hs2 hcs hby hsz2
          go_wp2_with fail
          refine CT.out.mono ?_
          rintro e w3 ⟨o, rfl, ho, hrc, hch⟩
          have HO := Lib.hid ho
          have HRC := Lib.hid hrc
          have HCH := Lib.hid hch
          clear ho hrc hch CT
          go_wp2_with fail
          go_meet
          exact got_put R1.out R2.out r3 r4 r5 r6 (by omega) (by omega) r9 r10 R12.out R13.out hpl hml hp hm hn' HS2.out hwg HO.out HRC.out HCH.out
      case rest =>
        obtain ⟨lo, mm, a, f, ho, b1, b2, b3, b4, b5, b6, b7, b8, b9, b10, b11, b12, b13, b14, b15⟩ := hcut
        obtain ⟨oa, oc, rfl, hat⟩ := OutIs.at ho
        have hlen3 : ((List.range' lo mm).map (fun j => (numK a0 j, dat2 j))).length = mm := by simp
        rw [hlen3]
        have HAT := Lib.hid hat
        have HL3 := Lib.hid hlen3
        have B3 := Lib.hid b3
        have B4 := Lib.hid b4
        have B5 := Lib.hid b5
        have B13 := Lib.hid b13
        have B14 := Lib.hid b14
        have B15 := Lib.hid b15
        clear hat hlen3 b3 b4 b5 b13 b14 b15 ho HX x0 x1 x2 HAX HOK
        go_wp2_with fail
        go_loopg [7, 12] mm (fun g s7 s12 wy => ∃ (kk : Nat) (la : Int), kk ≤ mm ∧ g = mm - kk ∧ s12 = .int .i64 kk ∧ s7 = .int .i64 la ∧ -1 ≤ la ∧ la < (lo : Int) + kk ∧ Chg [] wc wy)
        case atStart => exact ⟨0, last, by omega, rfl, rfl, rfl, by omega, by omega, Chg.refl _ _⟩
        case round =>
          obtain ⟨kk, la, hkk, rfl, rfl, rfl, l0, l1, hcx⟩ := hrel
          by_cases hkm : kk < mm
          · obtain ⟨g, d, rfl, hg0, hg1, hnb3, e1, e2, e3⟩ := HAT.out kk (by rw [HL3.out]; exact hkm)
            obtain ⟨j, hj⟩ : ∃ j, j = lo + kk := ⟨_, rfl⟩
            have hget : ((List.range' lo mm).map (fun j => (numK a0 j, dat2 j)))[kk]'(by rw [HL3.out]; exact hkm) = (numK a0 j, dat2 j) := by
              rw [List.getElem_map, List.getElem_range', hj]; simp
            rw [hget] at e1 e3
            have e1' : wr.cell? ⟨g, kk * 2, none⟩ = some (.int .u32 ((a0 + (j : Nat)) % 4294967296)) := (hcx.cell hg1 (by simp)).trans e1
            have e2' : wr.cell? ⟨g, kk * 2 + 1, none⟩ = some d := (hcx.cell hg1 (by simp)).trans e2
            obtain ⟨da, dn, dc, rfl⟩ := e3.slice
            have hjh : j < 100001 := by omega
            have hcame : wr.cell? ⟨gc, j, none⟩ = some (.bool true) := by
              have h := (B14.out.cell hjh).1
              rw [B3.out j (by omega) (by omega)] at h
              exact (hcx.cell (p := ⟨gc, j, none⟩) B14.out.lt (by simp)).trans h
            have hb : Bytes (wr.alloc (.cells #[.int .u8 ((j : Nat) % 256), .int .u8 ((j : Nat) / 256 % 256)] 5)) (.slice da dn dc) (dat2 j) := (e3.chg hcx (by simp)).chg ((Chg.refl [] wr).alloc _) (by simp)
            have CE := Lib.hid (equal_self2 (.slice da dn dc) (.slice (some ⟨wr.heap.size, 0, none⟩) 2 2) (dat2 j) _ hb (bytes_two wr _ _) (by simp [dat2]))
            have HCX := Lib.hid (hcx.alloc (.cells #[.int .u8 ((j : Nat) % 256), .int .u8 ((j : Nat) / 256 % 256)] 5))
            have hkm' : ((kk : Nat) : Int) < (mm : Nat) := by omega
            have hj1 : ((j : Nat) : Int) < 100001 := by omega
            have hj2 : ¬ ((j : Nat) : Int) ≤ la := by omega
            have hj3 : ¬ (100000 : Int) < (j : Nat) := by omega
            have hsub : ((a0 + (j : Nat)) % 4294967296 - a0) % 4294967296 = (j : Nat) := by omega
            have HJ := Lib.hid hj
            clear e1 e2 e3 hb hcx hget hnb3 hj
            go_wp2_with fail
            refine CE.out.mono ?_
            rintro e w4 ⟨rfl, hch4⟩
            have HC4 := Lib.hid (HCX.out.trans hch4)
            clear hch4 CE
            go_wp2_with fail
            go_roundg (mm - (kk + 1))
            case measure => omega
            case rel => exact ⟨kk + 1, (j : Nat), by omega, rfl, rfl, rfl, by omega, by have := HJ.out; omega, HC4.out⟩
          · obtain rfl : kk = mm := by omega
            have HCX := Lib.hid hcx
            clear hcx
            go_wp2_with fail
            go_roundg (len1 - (k + 1))
            case measure => omega
            case rel =>
              refine ⟨k + 1, now + tk, la, rfl, by omega, rfl, rfl, rfl, lo + kk, a, f, B4.out, B5.out, b6, b7, by omega, b9, b10, by omega, l0, by omega, B13.out.chg HCX.out (by simp) (by simp) (by simp), B14.out.chg HCX.out (by simp), B15.out.trans HCX.out⟩
    · obtain rfl : k = len1 := by omega
      have HB := Lib.hid hst.below
      clear hst ST
      go_wp2_with fail
      refine (alive31_any _).mono ?_
      rintro e w5 ⟨rfl, hch5⟩
      have HC5 := Lib.hid (HB.out.trans (hch5.below HB.out.size (by simp)))
      clear hch5
      go_wp2_with fail
      go_ret
      exact ⟨rfl, HC5.out⟩

/-! ### The row's step -/
set_option maxRecDepth 100000 in
theorem lifted (os : Os) (started : os.Started) (H : Type) (enc : TypeId × Value → H) :
    ReturnsInHanded {} Try.checked os 5 .any (Rows.recvRisesSpec.pre6 enc Try.prog Try.f5 Rows.recvRisesRow.domain false) (Rows.recvRisesSpec.post enc Try.prog Try.f5 false true false false) := by
  refine returnsInHanded_of_change (C := Try.checked) own started (by kernel_rfl) Try.func5
    (ChangeSpec.witness6 (enc := enc) (C := Try.checked) false ⟨#[], #[.int .u32 0, .slice none 0 0], []⟩ 8 (by kernel_rfl) (by kernel_rfl) (by kernel_rfl) (by kernel_rfl)) ?_
  intro W base args ds gs before hval0 hW hcnd _
  have hval : ∀ (j : Nat) t v, Try.f5.params[j]? = some t → args[j]? = some v → Value.okWide Try.prog W .any base t v := hval0
  have hW' := hW
  obtain ⟨p, q, hA0, hV, rfl, hfz, hnd⟩ := hW
  have hA : DataW.TrodAll enc Try.prog W 0 (fun _ => true) true Try.f5.params.toList args.toList ds p := hA0
  rw [Try.params5] at hA hval
  obtain ⟨v0, vs0, d0, ds0, p0, q0, hargs, rfl, rfl, h0, r0⟩ := trodAll_cons hA
  obtain ⟨v1, vs1, d1, ds1, p1, q1, rfl, rfl, rfl, h1, r1⟩ := trodAll_cons r0
  obtain ⟨rfl, rfl, rfl⟩ := trodAll_nil r1
  obtain rfl : args = #[v0, v1] := by cases args; simp_all
  obtain ⟨rfl, rfl⟩ := trodVars_none hV
  obtain ⟨a0, rfl, rfl, rfl, w0⟩ := open_int Try.underlying22 (hval 0 22 v0 rfl rfl) h0
  have k1 := h1
  have lt1 : ∀ x ∈ p1, x.block < W.heap.size := by obtain ⟨m, hm⟩ := k1; exact DataW.trod_lt m _ _ _ hm
  obtain ⟨a1, len1, cap1, rfl⟩ := okWide_slice Try.underlying46 (hval 1 46 v1 rfl rfl)
  have w1 : Ops4 W a1 len1 := by
    obtain ⟨fuel, hf⟩ := h1
    exact ops4_of Try.underlying46 Try.underlying49 (by kernel_rfl) (by kernel_rfl) Try.underlying3 Try.underlying3 Try.underlying3 Try.underlying29 hf
  clear hA0 hval0
  refine (walk a0 a1 len1 cap1 W w0 w1).mono fun e W' ⟨he, bel⟩ => ?_
  subst he
  exact ⟨_, rfl, _, _, _, [], _, [], hW', trodAll_mk1 (shut_bool Try.underlying4 _), (trodAll_cons_mk (shut_int Try.underlying22 w0) (trodAll_cons_mk (Below.trod laidOut (by kernel_rfl) (of_decide_eq_true (by kernel_rfl)) k1 bel lt1) trodAll_mk0)), rfl, bel.frame _, fun h => by cases h⟩

theorem over : Rows.recvRisesRow.holds Try.pinned (OpenSpec.ofChange Rows.recvRisesSpec) :=
  OpenClaim.holds_of_wide 5 Try.f5 rfl rfl rfl rfl rfl rfl rfl ⟨rfl, rfl, rfl, rfl, rfl⟩ rfl rfl rfl rfl rfl (by kernel_rfl) Try.func5 (by kernel_rfl)
    (of_decide_eq_true (by kernel_rfl)) (by unfold Func.isWrapper; first | (rw [if_pos (by decide +kernel)]; kernel_rfl) | (rw [if_neg (by decide +kernel)]; exact ⟨rfl, rfl⟩))
    (fun os started H enc _ => lifted os started H enc)

/-- The statement. -/
theorem proved : Rows.RecvRisesSaid := over
#print axioms proved
end Go.Proofs.Ytkmjpphmciaklaa.recvRises
