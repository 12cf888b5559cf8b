/- Proved: for every slice of ints and every two ints the Go law catwalklaw19.RttSettles returns true, and its arguments read behind the call as they read before. Conditions: none.
The frame of this text was written by the kit's proof-skeleton program; the walk and its lemmas are ours. -/
import Derived.Test.YtnmjfeeogphlcaaRttLaw
import Derived.Test.YtnmjfeeogphlcaaRow
import Derived.Deep.LoopGhost
import Derived.Test.YtnmjfeeogphlcaaPhase
import Derived.WalkKit
import Derived.ProofKit
import Derived.OpenShut
import Derived.ShutString
import Derived.ChangeOld
import Derived.Below
namespace Go.Proofs.Ytnmjfeeogphlcaa.rttSettles
open Go.ChangeShapes Go.WideShapes Go.ChangeAt Go.RowKit
open Go.ChangeMaps (open_string shut_string)
set_option linter.unusedVariables false
set_option linter.unusedSimpArgs false
attribute [local go_sem ↓] Go.wp_at_zero Go.wp_at_succ

theorem own : ownKnob Try.prog.godebug = none := by kernel_rfl
theorem laidOut : laidOutB Try.prog = true := by kernel_rfl

/-- WHAT THE WALK IS TOLD OF A SLICE OF INTEGERS THAT CAME IN: it is nil; or it leads to a row of 'cap' cells, the numbers 'zs' (the first 'len' are its elements, the rest its spare room), each fitting its kind. -/
def IsRow (k : IntKind) (w : World) (a : Option Addr) (len cap : Nat) (zs : List Int) : Prop :=
  (a = none ∧ len = 0 ∧ cap = 0 ∧ zs = []) ∨
  ∃ x, a = some x ∧ len ≤ cap ∧ cap ≤ maxLen ∧ zs.length = cap ∧ (∀ i, i < zs.length → w.cell? (x.add i) = some (.int k (zs.getD i 0))) ∧ ∀ n ∈ zs, (Lit.int k n).wf = true

/-! ### STEP 1: THE WALK: the Go text returns true, AND WRITES NOTHING THAT WAS THERE: 'Below w.heap.size w w'' (Derived/Below.lean: '.refl', '.alloc', '.drew', '.setCell' at a new block, '.trans'). Open each 'IsRow' by 'rcases' AHEAD of 'go_enter'; part every test ahead of the walk. -/
/-- The time, and memory. -/
def TimeAt (b : Nat) (m d : Int) (w wr : World) : Prop := 8 ≤ m ∧ m ≤ 512 ∧ 0 ≤ d ∧ d ≤ 259 ∧ At wr b 46 [.int .i64 m, .int .i64 d] ∧ Below w.heap.size w wr
def TimeSome (b : Nat) (w wr : World) : Prop := ∃ m d, TimeAt b m d w wr
def TimeSett (b : Nat) (t : Int) (n : Nat) (w wr : World) : Prop := ∃ m d, Sett t n m d ∧ At wr b 46 [.int .i64 m, .int .i64 d] ∧ Below w.heap.size w wr

theorem rm_bd (m t : Int) (hm : 8 ≤ m) (hm' : m ≤ 512) : 8 ≤ rm m t ∧ rm m t ≤ 512 := by unfold rm rx cutZ; omega
theorem rd_bd (m d t : Int) (hm : 8 ≤ m) (hm' : m ≤ 512) (hd : 0 ≤ d) (hd' : d ≤ 259) : 0 ≤ rd m d t ∧ rd m d t ≤ 259 := by unfold rd rx cutZ; omega
theorem lm_bd (m : Int) (hm : 8 ≤ m) (hm' : m ≤ 512) : 8 ≤ lm m ∧ lm m ≤ 512 := by unfold lm; omega

set_option maxRecDepth 100000 in
set_option maxHeartbeats 2000000 in
theorem walk (a0 : Option Addr) (len0 cap0 : Nat) (z0 : List Int) (a1 : Int) (a2 : Int) (w : World) (w0 : IsRow .i64 w a0 len0 cap0 z0) (w1 : (Lit.int .i64 a1).wf = true) (w2 : (Lit.int .i64 a2).wf = true) :
    Calls Try.prog 8 #[.slice a0 len0 cap0, .int .i64 a1, .int .i64 a2] w fun e w' => e = .returned (.bool true) ∧ Below w.heap.size w w' := by
  clear w1 w2
  by_cases g1 : 30 < len0
  · go_enter Try.func8, Try.ntmps8
    go_wp2
    go_ret
    exact ⟨rfl, Below.refl _ _⟩
  by_cases g2 : a1 < 1
  · go_enter Try.func8, Try.ntmps8
    go_wp2
    go_ret
    exact ⟨rfl, Below.refl _ _⟩
  by_cases g3 : 64 < a1
  · go_enter Try.func8, Try.ntmps8
    go_wp2
    go_ret
    exact ⟨rfl, Below.refl _ _⟩
  by_cases g4 : a2 < 300
  · go_enter Try.func8, Try.ntmps8
    go_wp2
    go_ret
    exact ⟨rfl, Below.refl _ _⟩
  by_cases g5 : 400 < a2
  · go_enter Try.func8, Try.ntmps8
    go_wp2
    go_ret
    exact ⟨rfl, Below.refl _ _⟩
  have hlen : len0 ≤ 30 := by omega
  have t1 : 1 ≤ a1 := by omega
  have t2 : a1 ≤ 64 := by omega
  obtain ⟨N, rfl⟩ : ∃ N : Nat, a2 = N := ⟨a2.toNat, by omega⟩
  have n1 : 300 ≤ N := by omega
  have n2 : N ≤ 400 := by omega
  go_enter Try.func8, Try.ntmps8
  go_wp2_with fail
  refine (rtt_new _ _).mono ?_; rintro e wa ⟨rfl, hC⟩
  have HC := Lib.hid hC; clear hC
  go_wp2_with fail
  have st : TimeSome wa.heap.size w (wa.alloc (.cells #[.int .i64 (8 * cutZ 1 1 64), .int .i64 0] 46)) :=
    ⟨8 * cutZ 1 1 64, 0, by decide, by decide, by omega, by omega, At.new wa 46 [_, _], (HC.out.below (Nat.le_refl _) (by simp)).alloc HC.out.size _⟩
  have hz1 : w.heap.size ≤ wa.heap.size := HC.out.size
  have ST := Lib.hid st; clear st HC
  go_loopg [8] len0 (fun g i wr => ∃ k : Nat, g = len0 - k ∧ k ≤ len0 ∧ i = .int .i64 k ∧ TimeSome wa.heap.size w wr)
  case atStart => exact ⟨0, rfl, Nat.zero_le _, rfl, ST.out⟩
  case round =>
    obtain ⟨k, rfl, hk, rfl, m, d, hm, hm', hd, hd', hA1, hb⟩ := hrel
    have HA1 := Lib.hid hA1
    have HB := Lib.hid hb
    have hs := hb.size
    have hs1 := hA1.lt
    obtain ⟨c0, c1, f0, f1⟩ := hA1.two
    clear hA1 hb
    by_cases hlt : k < len0
    · obtain ⟨b, off, rfl, hbl, hcell, hwf⟩ := row_at w0 k hlt
      obtain ⟨hn, hn'⟩ := bounds_i64 hwf
      have hcr : wr.cell? ⟨b, off + k, none⟩ = some (.int .i64 (z0.getD k 0)) := by rw [HB.out.cell hbl]; exact hcell
      clear hcell hwf w0
      obtain ⟨n, hnz⟩ : ∃ n, n = z0.getD k 0 := ⟨_, rfl⟩
      rw [← hnz] at hn hn' hcr
      clear hnz
      have hi0 : (0 : Int) ≤ (k : Int) := by omega
      have hi1 : (k : Int) < (len0 : Int) := by omega
      by_cases hneg : n < 0
      · go_wp2_with fail
        refine (rtt_late _ _ _ hm hm').mono ?_; rintro e wc ⟨rfl, hq1⟩
        have tA := Lib.hid (HA1.out.chg hq1 (by simp)); obtain ⟨p0, p1, p2, p3⟩ := tA.out.two
        go_wp2_with fail
        go_roundg (len0 - (k + 1))
        case measure => omega
        case rel =>
          exact ⟨k + 1, rfl, by omega, by go_num, lm m, d, (lm_bd m hm hm').1, (lm_bd m hm hm').2, hd, hd', (tA.out.set 0 _).set 1 _,
            ((HB.out.trans (hq1.below (by omega) (by simp))).setCell (by show w.heap.size ≤ wa.heap.size; omega) _).setCell (by show w.heap.size ≤ wa.heap.size; omega) _⟩
      · go_wp2_with fail
        refine wp_region_phase 6 (fun w' => w'.cell? ⟨wa.heap.size, 0, none⟩ = some (.int .i64 m) ∧ w'.cell? ⟨wa.heap.size, 1, none⟩ = some (.int .i64 d) ∧ w'.cell? ⟨b, off + k, none⟩ = some (.int .i64 n)) (by kernel_rfl) ?_
        refine wpAnyP_with (by first | (go_keep; done) | ((refine ⟨p0, p1, ?_⟩; rw [hq1.cell (by simp; omega) (by simp)]; assumption))) (fun hSw => ?_)
        refine wpAnyP_take 0 [] (v := ?_) rfl (by kernel_rfl) (fun _ _ _ h => h) (by assumption) (Or.inl ⟨by rfl, ?_⟩) ?_
        rotate_left
        · (intro w hSw; (try dsimp only at hSw); go_simp; try with_reducible rfl)
        simp only [Act.put, List.setIfInBounds_toArray, List.set_cons_zero, List.set_cons_succ]
        refine wpAnyP_take 1 [] (v := ?_) rfl (by kernel_rfl) (fun _ _ _ h => h) (by assumption) (Or.inl ⟨by rfl, ?_⟩) ?_
        rotate_left
        · (intro w hSw; (try dsimp only at hSw); go_simp; try with_reducible rfl)
        simp only [Act.put, List.setIfInBounds_toArray, List.set_cons_zero, List.set_cons_succ]
        refine wpAnyP_take 2 [] (v := ?_) rfl (by kernel_rfl) (fun _ _ _ h => h) (by assumption) (Or.inl ⟨by rfl, ?_⟩) ?_
        rotate_left
        · (intro w hSw; (try dsimp only at hSw); go_simp; try with_reducible rfl)
        simp only [Act.put, List.setIfInBounds_toArray, List.set_cons_zero, List.set_cons_succ]
        refine wpAnyP_take 3 [] (v := ?_) rfl (by kernel_rfl) (fun _ _ _ h => h) (by assumption) (Or.inl ⟨by rfl, ?_⟩) ?_
        rotate_left
        · (intro w hSw; (try dsimp only at hSw); go_simp; try with_reducible rfl)
        simp only [Act.put, List.setIfInBounds_toArray, List.set_cons_zero, List.set_cons_succ]
        refine wpAnyP_one 4 rfl (by kernel_rfl) (fun K hK => ?_)
        rw [if_pos (by rfl)]
        go_wp2_with (fail)
        refine hold_with (by first | (go_keep; done) | ((try dsimp only at hSw); (refine ⟨p0, p1, ?_⟩; rw [hq1.cell (by simp; omega) (by simp)]; assumption))) (fun hSn => ?_)
        clear hSw; have hSw := hSn; clear hSn
        refine wpAnyP_one 5 rfl (by kernel_rfl) (fun K hK => ?_)
        rw [if_pos (by rfl)]
        go_wp2_with ((go_at_call 28; refine (rtt_sample _ _ _ _ hm hm' hd hd').mono ?_; rintro e wc ⟨rfl, hq1⟩; have tA := Lib.hid (HA1.out.drew.chg hq1 (by simp)); obtain ⟨p0, p1, p2, p3⟩ := tA.out.two))
        refine hold_with (by first | (go_keep; done) | ((try dsimp only at hSw); (refine ⟨p0, p1, ?_⟩; rw [hq1.cell (by simp; omega) (by simp)]; assumption))) (fun hSn => ?_)
        clear hSw; have hSw := hSn; clear hSn
        refine wpAnyP_one 6 rfl (by kernel_rfl) (fun K hK => ?_)
        rw [if_pos (by rfl)]
        go_wp2_with (fail)
        refine ⟨fun hz => (by simp at hz), ?_⟩
        refine wpAnyP_done (by kernel_rfl) ?_ _
        go_wp2_with fail
        go_roundg (len0 - (k + 1))
        case measure => omega
        case rel =>
          exact ⟨k + 1, rfl, by omega, by go_num, rm m n, rd m d n, (rm_bd m n hm hm').1, (rm_bd m n hm hm').2, (rd_bd m d n hm hm' hd hd').1, (rd_bd m d n hm hm' hd hd').2, (tA.out.set 0 _).set 1 _,
            ((HB.out.drew.trans (hq1.below (by simp; omega) (by simp))).setCell (by show w.heap.size ≤ wa.heap.size; omega) _).setCell (by show w.heap.size ≤ wa.heap.size; omega) _⟩
    · go_wp2_with fail
      have ST2 : TimeSett wa.heap.size a1 0 w wr := ⟨m, d, sett_start a1 m d t1 t2 hm hm' hd hd', HA1.out, HB.out⟩
      clear c0 c1 f0 f1 HA1 HB hm hm' hd hd' hs hs1
      go_loopg [9] N (fun g i wr => ∃ k : Nat, g = N - k ∧ k ≤ N ∧ i = .int .i64 k ∧ TimeSett wa.heap.size a1 k w wr)
      case atStart => exact ⟨0, rfl, Nat.zero_le _, rfl, ST2⟩
      case round =>
        obtain ⟨j, rfl, hj, rfl, m, d, hsett, hA1, hb⟩ := hrel
        have HS := Lib.hid hsett
        obtain ⟨hm, hm', hd, hd', _, _⟩ := hsett
        have HA1 := Lib.hid hA1
        have HB := Lib.hid hb
        have hs := hb.size
        have hs1 := hA1.lt
        obtain ⟨c0, c1, f0, f1⟩ := hA1.two
        clear hA1 hb
        by_cases hlt : j < N
        · go_wp2_with fail
          refine (rtt_sample _ _ _ _ hm hm' hd hd').mono ?_; rintro e wc ⟨rfl, hq1⟩
          have tA := Lib.hid (HA1.out.chg hq1 (by simp)); obtain ⟨p0, p1, p2, p3⟩ := tA.out.two
          go_wp2_with fail
          go_roundg (N - (j + 1))
          case measure => omega
          case rel =>
            exact ⟨j + 1, rfl, by omega, by go_num, rm m a1, rd m d a1, sett_step a1 m d j t1 t2 HS.out, (tA.out.set 0 _).set 1 _,
              ((HB.out.trans (hq1.below (by omega) (by simp))).setCell (by show w.heap.size ≤ wa.heap.size; omega) _).setCell (by show w.heap.size ≤ wa.heap.size; omega) _⟩
        · have hend := sett_end a1 m d j (by omega) HS.out
          have q1 : (m / 8 == a1) = true := by simp [hend.1]
          have q2 : (d / 4 == 0) = true := by simp [hend.2]
          clear hend
          go_wp2_with fail
          refine (rtt_mean _ _ _ hm hm').mono ?_; rintro e wc ⟨rfl, hq1⟩
          have tA := Lib.hid (HA1.out.chg hq1 (by simp)); obtain ⟨p0, p1, p2, p3⟩ := tA.out.two
          go_wp2_with fail
          refine (rtt_off _ _ _ hd hd').mono ?_; rintro e wd ⟨rfl, hq2⟩
          go_wp2_with fail
          refine (alive19_any _).mono ?_; rintro e we ⟨rfl, hq3⟩
          go_wp2_with fail
          go_ret
          exact ⟨rfl, HB.out.trans (((hq1.trans hq2).trans hq3).below (by omega) (by simp))⟩

/-! ### THE ROW's STEP: WRITTEN OUT: LEAVE IT -/
set_option maxRecDepth 100000 in
theorem lifted (os : Os) (started : os.Started) (H : Type) (enc : TypeId × Value → H) :
    ReturnsInHanded {} Try.checked os 8 .any (Rows.rttSettlesSpec.pre6 enc Try.prog Try.f8 Rows.rttSettlesRow.domain false) (Rows.rttSettlesSpec.post enc Try.prog Try.f8 false true false false) := by
  refine returnsInHanded_of_change (C := Try.checked) own started (by kernel_rfl) Try.func8
    (ChangeSpec.witness6 (enc := enc) (C := Try.checked) false ⟨#[], #[.slice none 0 0, .int .i64 0, .int .i64 0], []⟩ 8 (by kernel_rfl) (by kernel_rfl) (by kernel_rfl) (by kernel_rfl)) ?_
  intro W base args ds gs before hval0 hW hcnd _
  have hval : ∀ (j : Nat) t v, Try.f8.params[j]? = some t → args[j]? = some v → Value.okWide Try.prog W .any base t v := hval0
  have hW' := hW
  obtain ⟨p, q, hA0, hV, rfl, hfz, hnd⟩ := hW
  have hA : DataW.TrodAll enc Try.prog W 0 (fun _ => true) true Try.f8.params.toList args.toList ds p := hA0
  rw [Try.params8] at hA hval
  obtain ⟨v0, vs0, d0, ds0, p0, q0, hargs, rfl, rfl, h0, r0⟩ := trodAll_cons hA
  obtain ⟨v1, vs1, d1, ds1, p1, q1, rfl, rfl, rfl, h1, r1⟩ := trodAll_cons r0
  obtain ⟨v2, vs2, d2, ds2, p2, q2, rfl, rfl, rfl, h2, r2⟩ := trodAll_cons r1
  obtain ⟨rfl, rfl, rfl⟩ := trodAll_nil r2
  obtain rfl : args = #[v0, v1, v2] := by cases args; simp_all
  obtain ⟨rfl, rfl⟩ := trodVars_none hV
  obtain ⟨a0, len0, cap0, rfl⟩ := okWide_slice Try.underlying44 (hval 0 44 v0 rfl rfl)
  have k0 := h0
  have lt0 : ∀ x ∈ p0, x.block < W.heap.size := by obtain ⟨m, hm⟩ := k0; exact DataW.trod_lt m _ _ _ hm
  obtain ⟨z0, w0⟩ : ∃ zs, IsRow .i64 W a0 len0 cap0 zs := by
    obtain ⟨fuel, hf⟩ := h0
    rcases open_ints Try.underlying44 Try.underlying3 (by kernel_rfl) hf with ⟨hcs, _⟩ | ⟨x, l, c, zs, hcs, _, hl, hm, hz, _, hcell, hwz⟩
    · simp [Value.cells] at hcs
      obtain ⟨rfl, rfl, rfl⟩ := hcs
      exact ⟨[], .inl ⟨rfl, rfl, rfl, rfl⟩⟩
    · simp [Value.cells] at hcs
      obtain ⟨rfl, rfl, rfl⟩ := hcs
      exact ⟨zs, .inr ⟨_, rfl, hl, hm, by simpa using hz, hcell, hwz⟩⟩
  obtain ⟨a1, rfl, rfl, rfl, w1⟩ := open_int Try.underlying3 (hval 1 3 v1 rfl rfl) h1
  obtain ⟨a2, rfl, rfl, rfl, w2⟩ := open_int Try.underlying3 (hval 2 3 v2 rfl rfl) h2
  clear hA0 hval0
  refine (walk a0 len0 cap0 z0 a1 a2 W w0 w1 w2).mono fun e W' ⟨he, bel⟩ => ?_
  subst he
  exact ⟨_, rfl, _, _, _, [], _, [], hW', trodAll_mk1 (shut_bool Try.underlying4 _), (trodAll_cons_mk (Below.trod laidOut (by kernel_rfl) (of_decide_eq_true (by kernel_rfl)) k0 bel lt0) (trodAll_cons_mk (shut_int Try.underlying3 w1) (trodAll_cons_mk (shut_int Try.underlying3 w2) trodAll_mk0))), rfl, bel.frame _, fun h => by cases h⟩

theorem over : Rows.rttSettlesRow.holds Try.pinned (OpenSpec.ofChange Rows.rttSettlesSpec) :=
  OpenClaim.holds_of_wide 8 Try.f8 rfl rfl rfl rfl rfl rfl rfl ⟨rfl, rfl, rfl, rfl, rfl⟩ rfl rfl rfl rfl rfl (by kernel_rfl) Try.func8 (by kernel_rfl)
    (of_decide_eq_true (by kernel_rfl)) (by unfold Func.isWrapper; first | (rw [if_pos (by decide +kernel)]; kernel_rfl) | (rw [if_neg (by decide +kernel)]; exact ⟨rfl, rfl⟩))
    (fun os started H enc _ => lifted os started H enc)

/-- ████ THE STATEMENT ████ -/
theorem proved : Rows.RttSettlesSaid := over
#print axioms proved
end Go.Proofs.Ytnmjfeeogphlcaa.rttSettles
