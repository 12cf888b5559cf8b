/- Contracts of catwalk/rtt and of catwalkref19 over this seat's translation. Contracts of catwalk/win and of catwalkref20 over this seat's translation. -/
import Derived.Test.YtkmjpphmciaklaaRows
import Derived.Test.YtkmjpphmciaklaaJ1
import Derived.Deep.RegionHeld3
import Derived.Deep.DrawnRows
import Derived.IntWalk
import Derived.Deep.LoopGhost
import Derived.Deep.DeepCutAuto
namespace Go.Proofs.Ytkmjpphmciaklaa
open Go.RowKit
set_option linter.unusedVariables false
set_option linter.unusedSimpArgs false
attribute [local go_sem ↓] Go.wp_at_zero Go.wp_at_succ

def cutZ (n lo hi : Int) : Int := min (max n lo) hi
def rx (m t : Int) : Int := cutZ t 0 64 - m / 8
def rm (m t : Int) : Int := max (m + rx m t) 8
def rd (m d t : Int) : Int := d + ((max (rx m t) (-(rx m t))) - d / 4)
def lm (m : Int) : Int := min (2 * m) 512
def rwait (m d : Int) : Int := cutZ (m / 8 + d) 1 64

set_option maxHeartbeats 400000 in
theorem rtt_new (t : Int) (w : World) :
    Calls Try.prog 60 #[.int .i64 t] w fun e w' => e = .returned (.agg #[.int .i64 (8 * cutZ t 1 64), .int .i64 0]) ∧ Chg [] w w' := by
  go_enter Try.func60, Try.ntmps60
  go_wp2
  all_goals
    refine bodyPost_ret (v := .agg #[.int .i64 (8 * cutZ t 1 64), .int .i64 0]) ?_ rfl ⟨rfl, (Chg.refl _ _).alloc _⟩
    simp [results, Try.results60, go_sem]
    unfold cutZ
    omega

set_option maxHeartbeats 400000 in
theorem rtt_sample (m d t : Int) (w : World) (hm : 8 ≤ m) (hm' : m ≤ 512) (hd : 0 ≤ d) (hd' : d ≤ 259) :
    Calls Try.prog 63 #[.agg #[.int .i64 m, .int .i64 d], .int .i64 t] w fun e w' => e = .returned (.agg #[.int .i64 (rm m t), .int .i64 (rd m d t)]) ∧ Chg [] w w' := by
  go_enter Try.func63, Try.ntmps63
  go_wp2
  all_goals
    refine bodyPost_ret (v := .agg #[.int .i64 (rm m t), .int .i64 (rd m d t)]) ?_ rfl ⟨rfl, ((Chg.refl _ _).alloc _).alloc _⟩
    simp [results, Try.results63, go_sem]
    unfold rd rm rx cutZ
    refine ⟨?_, ?_⟩ <;> omega

set_option maxHeartbeats 400000 in
theorem rtt_late (m d : Int) (w : World) (hm : 8 ≤ m) (hm' : m ≤ 512) :
    Calls Try.prog 67 #[.agg #[.int .i64 m, .int .i64 d]] w fun e w' => e = .returned (.agg #[.int .i64 (lm m), .int .i64 d]) ∧ Chg [] w w' := by
  go_enter Try.func67, Try.ntmps67
  go_wp2
  all_goals
    refine bodyPost_ret (v := .agg #[.int .i64 (lm m), .int .i64 d]) ?_ rfl ⟨rfl, ((Chg.refl _ _).alloc _).alloc _⟩
    simp [results, Try.results67, go_sem]
    unfold lm
    omega

theorem ret_int {k : IntKind} {a b : Int} (h : a = b) : Ending.returned (.int k a) = .returned (.int k b) := by rw [h]

set_option maxHeartbeats 400000 in
theorem rtt_wait (m d : Int) (w : World) (hm : 8 ≤ m) (hm' : m ≤ 512) (hd : 0 ≤ d) (hd' : d ≤ 259) :
    Calls Try.prog 65 #[.agg #[.int .i64 m, .int .i64 d]] w fun e w' => e = .returned (.int .i64 (rwait m d)) ∧ Chg [] w w' := by
  go_enter Try.func65, Try.ntmps65
  go_wp2
  all_goals
    go_ret
    exact ⟨ret_int (by unfold rwait cutZ; omega), (Chg.refl _ _).alloc _⟩

/-! The references. -/
set_option maxHeartbeats 400000 in
theorem cut19 (n lo hi : Int) (w : World) (h : lo ≤ hi) :
    Calls Try.prog 108 #[.int .i64 n, .int .i64 lo, .int .i64 hi] w fun e w' => e = .returned (.int .i64 (cutZ n lo hi)) ∧ w = w' := by
  go_enter Try.func108, Try.ntmps108
  go_wp2
  all_goals
    go_ret
    exact ⟨ret_int (by unfold cutZ; omega), rfl⟩

set_option maxHeartbeats 400000 in
theorem rrtt_new (t : Int) (w : World) :
    Calls Try.prog 96 #[.int .i64 t] w fun e w' => e = .returned (.agg #[.int .i64 (8 * cutZ t 1 64), .int .i64 0]) ∧ Chg [] w w' := by
  have hb : 1 ≤ cutZ t 1 64 ∧ cutZ t 1 64 ≤ 64 := by unfold cutZ; omega
  go_enter Try.func96, Try.ntmps96
  go_wp2_with fail
  refine (cut19 _ _ _ _ (by omega)).mono ?_; rintro e w1 ⟨rfl, rfl⟩
  go_wp2_with fail
  refine bodyPost_ret (v := .agg #[.int .i64 (8 * cutZ t 1 64), .int .i64 0]) ?_ rfl ⟨rfl, (Chg.refl _ _).alloc _⟩
  simp [results, Try.results96, go_sem]

set_option maxHeartbeats 800000 in
theorem rrtt_sample (m d t : Int) (w : World) (hm : 8 ≤ m) (hm' : m ≤ 512) (hd : 0 ≤ d) (hd' : d ≤ 259) :
    Calls Try.prog 110 #[.agg #[.int .i64 m, .int .i64 d], .int .i64 t] w fun e w' => e = .returned (.agg #[.int .i64 (rm m t), .int .i64 (rd m d t)]) ∧ Chg [] w w' := by
  have hb : 0 ≤ cutZ t 0 64 ∧ cutZ t 0 64 ≤ 64 := by unfold cutZ; omega
  go_enter Try.func110, Try.ntmps110
  go_wp2_with fail
  go_region_with (go_at_call 108; refine (cut19 _ _ _ _ (by omega)).mono ?_; rintro e w1 ⟨rfl, rfl⟩)
  go_wp2
  all_goals
    refine bodyPost_ret (v := .agg #[.int .i64 (rm m t), .int .i64 (rd m d t)]) ?_ rfl ⟨rfl, (((Chg.refl _ _).alloc _).alloc _).drew⟩
    simp [results, Try.results110, go_sem]
    unfold rd rm rx
    refine ⟨?_, ?_⟩ <;> omega

set_option maxHeartbeats 400000 in
theorem rrtt_late (m d : Int) (w : World) (hm : 8 ≤ m) (hm' : m ≤ 512) :
    Calls Try.prog 115 #[.agg #[.int .i64 m, .int .i64 d]] w fun e w' => e = .returned (.agg #[.int .i64 (lm m), .int .i64 d]) ∧ Chg [] w w' := by
  have hw : IntKind.i64.wrap (2 * m) = 2 * m := IntWalk.i64_in _ (by omega)
  go_enter Try.func115, Try.ntmps115
  go_wp2_with fail
  go_region_with (go_at_call 108; refine (cut19 _ _ _ _ (by omega)).mono ?_; rintro e w1 ⟨rfl, rfl⟩)
  clear hw
  go_wp2
  all_goals
    refine bodyPost_ret (v := .agg #[.int .i64 (lm m), .int .i64 d]) ?_ rfl ⟨rfl, (((Chg.refl _ _).alloc _).alloc _).drew⟩
    simp [results, Try.results115, go_sem]
    unfold lm cutZ
    omega

set_option maxHeartbeats 400000 in
theorem rrtt_wait (m d : Int) (w : World) (hm : 8 ≤ m) (hm' : m ≤ 512) (hd : 0 ≤ d) (hd' : d ≤ 259) :
    Calls Try.prog 113 #[.agg #[.int .i64 m, .int .i64 d]] w fun e w' => e = .returned (.int .i64 (rwait m d)) ∧ Chg [] w w' := by
  go_enter Try.func113, Try.ntmps113
  go_wp2_with fail
  refine (cut19 _ _ _ _ (by omega)).mono ?_; rintro e w1 ⟨rfl, rfl⟩
  go_wp2_with fail
  go_ret
  exact ⟨rfl, (Chg.refl _ _).alloc _⟩
end Go.Proofs.Ytkmjpphmciaklaa
namespace Go.Proofs.Ytkmjpphmciaklaa
open Go.RowKit
set_option linter.unusedVariables false
set_option linter.unusedSimpArgs false

/-- One ack: how many may be, how many were acked since. -/
def wst (mo : Int) (p : Int × Int) : Int × Int := if p.2 + 1 = p.1 then (min (p.1 + 1) mo, 0) else (p.1, p.2 + 1)
def wit (mo : Int) : Nat → Int × Int → Int × Int
  | 0, p => p
  | n + 1, p => wst mo (wit mo n p)
/-- What is so of every window. -/
def Win (s a mo : Int) : Prop := 1 ≤ s ∧ s ≤ mo ∧ mo ≤ 16 ∧ 0 ≤ a ∧ a < s
theorem Win.step {s a mo : Int} (h : Win s a mo) : Win (wst mo (s, a)).1 (wst mo (s, a)).2 mo := by
  obtain ⟨h1, h2, h3, h4, h5⟩ := h
  unfold wst Win; split <;> simp at * <;> omega
theorem Win.it {s a mo : Int} (h : Win s a mo) : ∀ n, Win (wit mo n (s, a)).1 (wit mo n (s, a)).2 mo
  | 0 => h
  | n + 1 => (Win.it h n).step
theorem Win.late {s a mo : Int} (h : Win s a mo) : Win ((s + 1) / 2) 0 mo := by
  obtain ⟨h1, h2, h3, h4, h5⟩ := h
  exact ⟨by omega, by omega, h3, by omega, by omega⟩
theorem win_new (n : Int) : Win ((cutZ n 1 16 + 1) / 2) 0 (cutZ n 1 16) := by unfold Win cutZ; omega

set_option maxHeartbeats 400000 in
theorem w_new (t : Int) (w : World) :
    Calls Try.prog 59 #[.int .i64 t] w fun e w' => e = .returned (.agg #[.int .i64 ((cutZ t 1 16 + 1) / 2), .int .i64 (cutZ t 1 16), .int .i64 0]) ∧ Chg [] w w' := by
  by_cases h1 : t < 1
  all_goals by_cases h2 : 16 < t
  all_goals first | (exfalso; omega) | skip
  all_goals
    go_enter Try.func59, Try.ntmps59
    go_wp2
  all_goals
    refine bodyPost_ret (v := .agg #[.int .i64 ((cutZ t 1 16 + 1) / 2), .int .i64 (cutZ t 1 16), .int .i64 0]) ?_ rfl ⟨rfl, (Chg.refl _ _).alloc _⟩
    simp [results, Try.results59, go_sem]
    unfold cutZ
    omega

set_option maxHeartbeats 400000 in
theorem w_late (s a mo : Int) (w : World) (h : Win s a mo) :
    Calls Try.prog 66 #[.agg #[.int .i64 s, .int .i64 mo, .int .i64 a]] w fun e w' => e = .returned (.agg #[.int .i64 ((s + 1) / 2), .int .i64 mo, .int .i64 0]) ∧ Chg [] w w' := by
  obtain ⟨h1, h2, h3, h4, h5⟩ := h
  go_enter Try.func66, Try.ntmps66
  go_wp2
  all_goals
    refine bodyPost_ret (v := .agg #[.int .i64 ((s + 1) / 2), .int .i64 mo, .int .i64 0]) ?_ rfl ⟨rfl, ((Chg.refl _ _).alloc _).alloc _⟩
    simp [results, Try.results66, go_sem]

set_option maxHeartbeats 400000 in
theorem w_size (s a mo : Int) (w : World) :
    Calls Try.prog 61 #[.agg #[.int .i64 s, .int .i64 mo, .int .i64 a]] w fun e w' => e = .returned (.int .i64 s) ∧ Chg [] w w' := by
  go_enter Try.func61, Try.ntmps61
  go_wp2
  go_ret
  exact ⟨rfl, (Chg.refl _ _).alloc _⟩

set_option maxHeartbeats 400000 in
theorem w_most (s a mo : Int) (w : World) :
    Calls Try.prog 69 #[.agg #[.int .i64 s, .int .i64 mo, .int .i64 a]] w fun e w' => e = .returned (.int .i64 mo) ∧ Chg [] w w' := by
  go_enter Try.func69, Try.ntmps69
  go_wp2
  go_ret
  exact ⟨rfl, (Chg.refl _ _).alloc _⟩

/-- The window behind j acks, at block b (and a result's place at block b + 1). -/
def AckSt (b : Nat) (s a mo : Int) (j : Nat) (w wr : World) : Prop :=
  At wr b 115 [.int .i64 (wit mo j (s, a)).1, .int .i64 mo, .int .i64 (wit mo j (s, a)).2] ∧ At wr (b + 1) 115 [.int .i64 0, .int .i64 0, .int .i64 0] ∧ Chg [] w wr

theorem lim_bd (n : Int) : ((cutZ n 0 16).toNat : Int) = cutZ n 0 16 ∧ cutZ n 0 16 ≤ 16 ∧ 0 ≤ cutZ n 0 16 := by unfold cutZ; omega

set_option maxRecDepth 100000 in
set_option maxHeartbeats 1000000 in
theorem w_acked (s a mo n : Int) (w : World) (h : Win s a mo) :
    Calls Try.prog 64 #[.agg #[.int .i64 s, .int .i64 mo, .int .i64 a], .int .i64 n] w fun e w' =>
      e = .returned (.agg #[.int .i64 (wit mo (cutZ n 0 16).toNat (s, a)).1, .int .i64 mo, .int .i64 (wit mo (cutZ n 0 16).toNat (s, a)).2]) ∧ Chg [] w w' := by
  have HW := Lib.hid h; clear h
  obtain ⟨L, hL⟩ : ∃ L, L = (cutZ n 0 16).toNat := ⟨_, rfl⟩
  rw [← hL]
  have l1 : (L : Int) = if n < 0 then 0 else if 16 < n then 16 else n := by rw [hL, (lim_bd n).1]; unfold cutZ; split <;> (try split) <;> omega
  have l2 : L ≤ 16 := by have := lim_bd n; omega
  have HL := Lib.hid l1
  clear hL l1
  go_enter Try.func64, Try.ntmps64
  go_upto_region 1 with (fail)
  go_cut [7, 8] (fun s7 s8 wx => s7 = .int .i64 L ∧ s8 = .int .i64 0 ∧ AckSt w.heap.size s a mo 0 w wx)
  case first =>
    have st : AckSt w.heap.size s a mo 0 w ((w.alloc (.cells #[.int .i64 s, .int .i64 mo, .int .i64 a] 115)).alloc (.cells #[.int .i64 0, .int .i64 0, .int .i64 0] 115)) :=
      ⟨(At.new w 115 [_, _, _]).alloc _, by have h := At.new (w.alloc (.cells #[.int .i64 s, .int .i64 mo, .int .i64 a] 115)) 115 [.int .i64 0, .int .i64 0, .int .i64 0]; simpa using h,
        ((Chg.refl _ _).alloc _).alloc _⟩
    have ST := Lib.hid st; clear st
    by_cases h1 : n < 0
    all_goals by_cases h2 : 16 < n
    all_goals first | (exfalso; omega) | skip
    all_goals
      have e : (L : Int) = _ := HL.out
      simp only [h1, h2, if_true, if_false] at e
      have E := Lib.hid e; clear e
      go_wp2_with fail
      go_meet
      exact ⟨by rw [E.out], rfl, ST.out⟩
  case rest =>
    obtain ⟨rfl, rfl, hst⟩ := hcut
    have ST := Lib.hid hst; clear hst
    go_wp2_with fail
    go_loopg [8] L (fun g i wr => ∃ k : Nat, g = L - k ∧ k ≤ L ∧ i = .int .i64 k ∧ AckSt w.heap.size s a mo k w wr)
    case atStart => exact ⟨0, rfl, Nat.zero_le _, rfl, ST.out⟩
    case round =>
      obtain ⟨k, rfl, hk, rfl, hA1, hA2, hc⟩ := hrel
      have hw := HW.out.it k
      obtain ⟨b1, b2, b3, b4, b5⟩ := hw
      have HS : Hid (wit mo (k + 1) (s, a) = wst mo (wit mo k (s, a))) := rfl
      obtain ⟨p, hp⟩ : ∃ p, p = wit mo k (s, a) := ⟨_, rfl⟩
      rw [← hp] at b1 b2 b4 b5 hA1 HS
      have HP := Lib.hid hp; clear hp
      obtain ⟨x, y⟩ := p
      simp only at b1 b2 b4 b5 hA1
      have HA1 := Lib.hid hA1
      have HA2 := Lib.hid hA2
      have HC := Lib.hid hc
      have hs := hc.size
      have hs1 := hA1.lt
      have hs2 := hA2.lt
      obtain ⟨c0, c1, c2, f0, f1, f2⟩ := hA1.three
      obtain ⟨d0, d1, d2, e0, e1, e2⟩ := hA2.three
      clear hA1 hA2 hc
      by_cases hlt : k < L
      · by_cases hfull : y + 1 = x
        · have e : wst mo (x, y) = (min (x + 1) mo, 0) := if_pos hfull
          by_cases hmo : mo < x + 1
          · have E := Lib.hid e; clear e
            go_wp2_with fail
            go_roundg (L - (k + 1))
            case measure => omega
            case rel =>
              exact ⟨k + 1, rfl, by omega, by go_num, (((HA1.out.set 2 _).set 2 _).set 0 _).to (by rw [HS.out, E.out, Int.min_eq_right (by omega)]; rfl),
                ((HA2.out.far (by simp) _).far (by simp) _).far (by simp) _, ((HC.out.set (by simp) _).set (by simp) _).set (by simp) _⟩
          · have E := Lib.hid e; clear e
            go_wp2_with fail
            go_roundg (L - (k + 1))
            case measure => omega
            case rel =>
              exact ⟨k + 1, rfl, by omega, by go_num, (((HA1.out.set 2 _).set 2 _).set 0 _).to (by rw [HS.out, E.out, Int.min_eq_left (by omega)]; rfl),
                ((HA2.out.far (by simp) _).far (by simp) _).far (by simp) _, ((HC.out.set (by simp) _).set (by simp) _).set (by simp) _⟩
        · have e : wst mo (x, y) = (x, y + 1) := if_neg hfull
          have E := Lib.hid e; clear e
          go_wp2_with fail
          go_roundg (L - (k + 1))
          case measure => omega
          case rel =>
            exact ⟨k + 1, rfl, by omega, by go_num, (HA1.out.set 2 _).to (by rw [HS.out, E.out]; rfl), HA2.out.far (by simp) _, HC.out.set (by simp) _⟩
      · have hkl : k = L := by omega
        have HK := Lib.hid hkl
        go_wp2_with fail
        refine bodyPost_ret (v := .agg #[.int .i64 (wit mo L (s, a)).1, .int .i64 mo, .int .i64 (wit mo L (s, a)).2]) ?_ rfl ⟨rfl, ?_⟩
        · rw [← HK.out, ← HP.out]
          have hf := ((HA2.out.set 0 (.int .i64 x)).set 1 (.int .i64 mo)).set 2 (.int .i64 y)
          generalize (((wr.setCell ⟨w.heap.size + 1, 0, none⟩ (.int .i64 x)).setCell ⟨w.heap.size + 1, 1, none⟩ (.int .i64 mo)).setCell ⟨w.heap.size + 1, 2, none⟩ (.int .i64 y)) = wf at hf ⊢
          obtain ⟨r0, r1, r2, _⟩ := (hf.to (cs' := [.int .i64 x, .int .i64 mo, .int .i64 y]) rfl).three
          simp [results, Try.results64, go_sem, r0, r1, r2]
        · exact ((HC.out.set (by simp) _).set (by simp) _).set (by simp) _

/-! The references. -/
set_option maxHeartbeats 400000 in
theorem cut20 (n lo hi : Int) (w : World) (h : lo ≤ hi) :
    Calls Try.prog 107 #[.int .i64 n, .int .i64 lo, .int .i64 hi] w fun e w' => e = .returned (.int .i64 (cutZ n lo hi)) ∧ w = w' := by
  go_enter Try.func107, Try.ntmps107
  go_wp2
  all_goals
    go_ret
    exact ⟨ret_int (by unfold cutZ; omega), rfl⟩

set_option maxHeartbeats 400000 in
theorem rw_new (t : Int) (w : World) :
    Calls Try.prog 95 #[.int .i64 t] w fun e w' => e = .returned (.agg #[.int .i64 ((cutZ t 1 16 + 1) / 2), .int .i64 0, .int .i64 (cutZ t 1 16)]) ∧ Chg [] w w' := by
  have hb : 1 ≤ cutZ t 1 16 ∧ cutZ t 1 16 ≤ 16 := by unfold cutZ; omega
  go_enter Try.func95, Try.ntmps95
  go_wp2_with fail
  refine (cut20 _ _ _ _ (by omega)).mono ?_; rintro e w1 ⟨rfl, rfl⟩
  go_wp2_with fail
  refine bodyPost_ret (v := .agg #[.int .i64 ((cutZ t 1 16 + 1) / 2), .int .i64 0, .int .i64 (cutZ t 1 16)]) ?_ rfl ⟨rfl, (Chg.refl _ _).alloc _⟩
  simp [results, Try.results95, go_sem]

set_option maxHeartbeats 400000 in
theorem rw_late (s a mo : Int) (w : World) (h : Win s a mo) :
    Calls Try.prog 114 #[.agg #[.int .i64 s, .int .i64 a, .int .i64 mo]] w fun e w' => e = .returned (.agg #[.int .i64 ((s + 1) / 2), .int .i64 0, .int .i64 mo]) ∧ Chg [] w w' := by
  obtain ⟨h1, h2, h3, h4, h5⟩ := h
  go_enter Try.func114, Try.ntmps114
  go_wp2
  all_goals
    refine bodyPost_ret (v := .agg #[.int .i64 ((s + 1) / 2), .int .i64 0, .int .i64 mo]) ?_ rfl ⟨rfl, ((Chg.refl _ _).alloc _).alloc _⟩
    simp [results, Try.results114, go_sem]

/-- The reference's window behind j acks. -/
def RAckSt (b : Nat) (s a mo : Int) (j : Nat) (w wr : World) : Prop :=
  At wr b 149 [.int .i64 (wit mo j (s, a)).1, .int .i64 (wit mo j (s, a)).2, .int .i64 mo] ∧ At wr (b + 1) 149 [.int .i64 0, .int .i64 0, .int .i64 0] ∧ Chg [] w wr

set_option maxRecDepth 100000 in
set_option maxHeartbeats 1000000 in
theorem rw_acked (s a mo n : Int) (w : World) (h : Win s a mo) :
    Calls Try.prog 111 #[.agg #[.int .i64 s, .int .i64 a, .int .i64 mo], .int .i64 n] w fun e w' =>
      e = .returned (.agg #[.int .i64 (wit mo (cutZ n 0 16).toNat (s, a)).1, .int .i64 (wit mo (cutZ n 0 16).toNat (s, a)).2, .int .i64 mo]) ∧ Chg [] w w' := by
  have HW := Lib.hid h; clear h
  obtain ⟨L, hL⟩ : ∃ L, L = (cutZ n 0 16).toNat := ⟨_, rfl⟩
  rw [← hL]
  have l1 : cutZ n 0 16 = (L : Int) := by rw [hL, (lim_bd n).1]
  have l2 : L ≤ 16 := by have := lim_bd n; omega
  have HL := Lib.hid l1
  clear hL l1
  have st : RAckSt w.heap.size s a mo 0 w ((w.alloc (.cells #[.int .i64 s, .int .i64 a, .int .i64 mo] 149)).alloc (.cells #[.int .i64 0, .int .i64 0, .int .i64 0] 149)) :=
    ⟨(At.new w 149 [_, _, _]).alloc _, by have h := At.new (w.alloc (.cells #[.int .i64 s, .int .i64 a, .int .i64 mo] 149)) 149 [.int .i64 0, .int .i64 0, .int .i64 0]; simpa using h,
      ((Chg.refl _ _).alloc _).alloc _⟩
  have ST := Lib.hid st; clear st
  go_enter Try.func111, Try.ntmps111
  go_wp2_with fail
  go_loopg [5] L (fun g i wr => ∃ k : Nat, g = L - k ∧ k ≤ L ∧ i = .int .i64 k ∧ RAckSt w.heap.size s a mo k w wr)
  case atStart => exact ⟨0, rfl, Nat.zero_le _, rfl, ST.out⟩
  case round =>
    obtain ⟨k, rfl, hk, rfl, hA1, hA2, hc⟩ := hrel
    have hw := HW.out.it k
    obtain ⟨b1, b2, b3, b4, b5⟩ := hw
    have HS : Hid (wit mo (k + 1) (s, a) = wst mo (wit mo k (s, a))) := rfl
    obtain ⟨p, hp⟩ : ∃ p, p = wit mo k (s, a) := ⟨_, rfl⟩
    rw [← hp] at b1 b2 b4 b5 hA1 HS
    have HP := Lib.hid hp; clear hp
    obtain ⟨x, y⟩ := p
    simp only at b1 b2 b4 b5 hA1
    have HA1 := Lib.hid hA1
    have HA2 := Lib.hid hA2
    have HC := Lib.hid hc
    have hs := hc.size
    have hs1 := hA1.lt
    have hs2 := hA2.lt
    obtain ⟨c0, c1, c2, f0, f1, f2⟩ := hA1.three
    obtain ⟨d0, d1, d2, e0, e1, e2⟩ := hA2.three
    clear hA1 hA2 hc
    go_wp2_with fail
    refine (cut20 _ _ _ _ (by omega)).mono ?_; rintro e w1 ⟨rfl, rfl⟩
    rw [HL.out]
    by_cases hlt : k < L
    · by_cases hfull : y + 1 = x
      · have e : wst mo (x, y) = (min (x + 1) mo, 0) := if_pos hfull
        have E := Lib.hid e; clear e
        by_cases hmo : x < mo
        · go_wp2_with fail
          go_roundg (L - (k + 1))
          case measure => omega
          case rel =>
            exact ⟨k + 1, rfl, by omega, by go_num, (((HA1.out.set 1 _).set 1 _).set 0 _).to (by rw [HS.out, E.out, Int.min_eq_left (by omega)]; rfl),
              ((HA2.out.far (by simp) _).far (by simp) _).far (by simp) _, ((HC.out.set (by simp) _).set (by simp) _).set (by simp) _⟩
        · go_wp2_with fail
          go_roundg (L - (k + 1))
          case measure => omega
          case rel =>
            exact ⟨k + 1, rfl, by omega, by go_num, ((HA1.out.set 1 _).set 1 _).to (by rw [HS.out, E.out]; simp; omega),
              (HA2.out.far (by simp) _).far (by simp) _, (HC.out.set (by simp) _).set (by simp) _⟩
      · have e : wst mo (x, y) = (x, y + 1) := if_neg hfull
        have E := Lib.hid e; clear e
        go_wp2_with fail
        go_roundg (L - (k + 1))
        case measure => omega
        case rel =>
          exact ⟨k + 1, rfl, by omega, by go_num, (HA1.out.set 1 _).to (by rw [HS.out, E.out]; rfl), HA2.out.far (by simp) _, HC.out.set (by simp) _⟩
    · have hkl : k = L := by omega
      have HK := Lib.hid hkl
      go_wp2_with fail
      refine bodyPost_ret (v := .agg #[.int .i64 (wit mo L (s, a)).1, .int .i64 (wit mo L (s, a)).2, .int .i64 mo]) ?_ rfl ⟨rfl, ?_⟩
      · rw [← HK.out, ← HP.out]
        have hf := ((HA2.out.set 0 (.int .i64 x)).set 1 (.int .i64 y)).set 2 (.int .i64 mo)
        generalize (((wr.setCell ⟨w.heap.size + 1, 0, none⟩ (.int .i64 x)).setCell ⟨w.heap.size + 1, 1, none⟩ (.int .i64 y)).setCell ⟨w.heap.size + 1, 2, none⟩ (.int .i64 mo)) = wf at hf ⊢
        obtain ⟨r0, r1, r2, _⟩ := (hf.to (cs' := [.int .i64 x, .int .i64 y, .int .i64 mo]) rfl).three
        simp [results, Try.results111, go_sem, r0, r1, r2]
      · exact ((HC.out.set (by simp) _).set (by simp) _).set (by simp) _
end Go.Proofs.Ytkmjpphmciaklaa
