/- Proved: for every uint32 number and every slice of int32 steps the Go law catwalklaw02.SerialTrue returns true, and its arguments read behind the call as they read before. Conditions: none.
The frame of this text was written by the kit's proof-skeleton program; the walk and its lemmas are ours. -/
import Derived.Test.YtnmjfeeogphlcaaWideWalks
import Derived.Test.YtnmjfeeogphlcaaRow
import Derived.WalkKit
import Derived.ProofKit
import Derived.OpenShut
import Derived.ShutString
import Derived.ChangeOld
import Derived.Below
namespace Go.Proofs.Ytnmjfeeogphlcaa.serialTrue
open Go.ChangeShapes Go.WideShapes Go.ChangeAt Go.RowKit
open Go.ChangeMaps (open_string shut_string)
set_option linter.unusedVariables false

theorem own : ownKnob Try.prog.godebug = none := by kernel_rfl
theorem laidOut : laidOutB Try.prog = true := by kernel_rfl

/-- WHAT THE WALK IS TOLD OF A SLICE OF INTEGERS THAT CAME IN: it is nil; or it leads to a row of 'cap' cells, the numbers 'zs' (the first 'len' are its elements, the rest its spare room), each fitting its kind. -/
def IsRow (k : IntKind) (w : World) (a : Option Addr) (len cap : Nat) (zs : List Int) : Prop :=
  (a = none ∧ len = 0 ∧ cap = 0 ∧ zs = []) ∨
  ∃ x, a = some x ∧ len ≤ cap ∧ cap ≤ maxLen ∧ zs.length = cap ∧ (∀ i, i < zs.length → w.cell? (x.add i) = some (.int k (zs.getD i 0))) ∧ ∀ n ∈ zs, (Lit.int k n).wf = true

/-! ### STEP 1: THE WALK: the Go text returns true, AND WRITES NOTHING THAT WAS THERE: 'Below w.heap.size w w'' (Derived/Below.lean: '.refl', '.alloc', '.drew', '.setCell' at a new block, '.trans'). Open each 'IsRow' by 'rcases' AHEAD of 'go_enter'; part every test ahead of the walk. -/
/-- What holds at the head of round k of the law's loop. -/
def TrueSt (b1 k : Nat) (top : Int) (w wr : World) : Prop :=
  0 ≤ top ∧ top ≤ 2147483648 * (k : Int) + 4294967296 ∧ At wr b1 34 [.int .i64 top, .bool true] ∧ Below w.heap.size w wr

theorem wof_true (top z : Int) (h0 : 0 ≤ top) (hx : 0 ≤ top + z) (h1 : -2147483648 < z) (h2 : z ≤ 2147483647) : wof top ((top + z) % 4294967296) = top + z := by
  have e : wraw top ((top + z) % 4294967296) = top + z := by unfold wraw wrap32; omega
  unfold wof; rw [e, if_neg (by omega)]

set_option maxRecDepth 100000 in
set_option maxHeartbeats 1000000 in
theorem walk (a0 : Int) (a1 : Option Addr) (len1 cap1 : Nat) (z1 : List Int) (w : World) (w0 : (Lit.int .u32 a0).wf = true) (w1 : IsRow .i32 w a1 len1 cap1 z1) :
    Calls Try.prog 6 #[.int .u32 a0, .slice a1 len1 cap1] w fun e w' => e = .returned (.bool true) ∧ Below w.heap.size w w' := by
  obtain ⟨h0, h0'⟩ := bounds_u32 w0
  clear w0
  by_cases hlong : 500 < len1
  · go_enter Try.func6, Try.ntmps6
    go_wp2
    go_ret
    exact ⟨rfl, Below.refl _ _⟩
  have hlen : len1 ≤ 500 := by omega
  clear hlong
  go_enter Try.func6, Try.ntmps6
  go_wp2_with fail
  refine (wide_first w.heap.size 0 a0 _ h0 h0' (by exact At.new w 34 [_, _])).mono ?_; rintro e wa ⟨rfl, hA, hC⟩
  have HA := Lib.hid hA; have HC := Lib.hid hC; clear hA hC
  go_wp2_with fail
  go_loopw [6, 7] (fun t i wr => ∃ (k : Nat) (top : Int), k ≤ len1 ∧ i = .int .i64 k ∧ t = .int .i64 top ∧ TrueSt w.heap.size k top w wr) (fun _ i _ => len1 - (intOf i).toNat)
  case atStart => exact ⟨0, a0, Nat.zero_le _, rfl, rfl, h0, by omega, HA.out, ((Below.refl _ _).alloc (Nat.le_refl _) _).trans (HC.out.below (by simp) (by simp))⟩
  case round =>
    obtain ⟨k, top, hk, rfl, rfl, ht, ht', hA1, hb⟩ := hrel
    by_cases hlt : k < len1
    · obtain ⟨b, off, rfl, hbl, hcell, hwf⟩ := row_at w1 k hlt
      obtain ⟨hn, hn'⟩ := bounds_i32 hwf
      have hcr : wr.cell? ⟨b, off + k, none⟩ = some (.int .i32 (z1.getD k 0)) := by rw [hb.cell hbl]; exact hcell
      clear hcell hwf w1
      obtain ⟨n, hnz⟩ : ∃ n, n = z1.getD k 0 := ⟨_, rfl⟩
      rw [← hnz] at hn hn' hcr
      clear hnz
      have hi0 : (0 : Int) ≤ (k : Int) := by omega
      have hi1 : (k : Int) < (len1 : Int) := by omega
      have HA1 := Lib.hid hA1
      have HB := Lib.hid hb
      have hs := hb.size
      have hs1 := hA1.lt
      clear hA1 hb
      by_cases hneg : top + n < 0
      · go_wp2_with fail
        go_roundw
        case rel => exact ⟨k + 1, top, by omega, by go_num, rfl, ht, by omega, HA1.out, HB.out⟩
        case measure => simp [intOf]; omega
      · by_cases hmin : n = -2147483648
        · subst hmin
          go_wp2_with fail
          go_roundw
          case rel => exact ⟨k + 1, top, by omega, by go_num, rfl, ht, by omega, HA1.out, HB.out⟩
          case measure => simp [intOf]; omega
        · have hq : (n == -2147483648) = false := by simp; omega
          have hx : 0 ≤ top + n := by omega
          have hW := Lib.hid (wof_true top n ht hx (by omega) (by omega))
          have hmod : 0 ≤ (top + n) % 4294967296 ∧ (top + n) % 4294967296 ≤ 4294967295 := by omega
          obtain ⟨m0, m1⟩ := hmod
          go_wp2_with fail
          refine (wide_next _ _ _ _ ht (by omega) (by omega) (by omega) (by exact HA1.out)).mono ?_; rintro e w2 ⟨rfl, hA2, hC2⟩
          rw [hW.out] at hA2 ⊢
          have HA2 := Lib.hid hA2; have HC2 := Lib.hid hC2; clear hA2 hC2
          go_wp2_with fail
          all_goals
            go_roundw
            case rel =>
              exact ⟨k + 1, max top (top + n), by omega, by go_num, congrArg (Value.int IntKind.i64) (by split <;> omega), by omega, by omega, HA2.out, HB.out.trans (HC2.out.below (by omega) (by simp))⟩
            case measure => simp [intOf]; omega
    · go_wp2_with fail
      refine (wide_top _ _ _ _ (by exact hA1)).mono ?_; rintro e w3 ⟨rfl, rfl⟩
      go_wp2_with fail
      refine (alive_any _).mono ?_; rintro e w' ⟨rfl, rfl⟩
      go_wp2_with fail
      go_ret
      exact ⟨rfl, hb⟩

/-! ### THE ROW's STEP: WRITTEN OUT: LEAVE IT -/
set_option maxRecDepth 100000 in
theorem lifted (os : Os) (started : os.Started) (H : Type) (enc : TypeId × Value → H) :
    ReturnsInHanded {} Try.checked os 6 .any (Rows.serialTrueSpec.pre6 enc Try.prog Try.f6 Rows.serialTrueRow.domain false) (Rows.serialTrueSpec.post enc Try.prog Try.f6 false true false false) := by
  refine returnsInHanded_of_change (C := Try.checked) own started (by kernel_rfl) Try.func6
    (ChangeSpec.witness6 (enc := enc) (C := Try.checked) false ⟨#[], #[.int .u32 0, .slice none 0 0], []⟩ 8 (by kernel_rfl) (by kernel_rfl) (by kernel_rfl) (by kernel_rfl)) ?_
  intro W base args ds gs before hval0 hW hcnd _
  have hval : ∀ (j : Nat) t v, Try.f6.params[j]? = some t → args[j]? = some v → Value.okWide Try.prog W .any base t v := hval0
  have hW' := hW
  obtain ⟨p, q, hA0, hV, rfl, hfz, hnd⟩ := hW
  have hA : DataW.TrodAll enc Try.prog W 0 (fun _ => true) true Try.f6.params.toList args.toList ds p := hA0
  rw [Try.params6] at hA hval
  obtain ⟨v0, vs0, d0, ds0, p0, q0, hargs, rfl, rfl, h0, r0⟩ := trodAll_cons hA
  obtain ⟨v1, vs1, d1, ds1, p1, q1, rfl, rfl, rfl, h1, r1⟩ := trodAll_cons r0
  obtain ⟨rfl, rfl, rfl⟩ := trodAll_nil r1
  obtain rfl : args = #[v0, v1] := by cases args; simp_all
  obtain ⟨rfl, rfl⟩ := trodVars_none hV
  obtain ⟨a0, rfl, rfl, rfl, w0⟩ := open_int Try.underlying22 (hval 0 22 v0 rfl rfl) h0
  obtain ⟨a1, len1, cap1, rfl⟩ := okWide_slice Try.underlying41 (hval 1 41 v1 rfl rfl)
  have k1 := h1
  have lt1 : ∀ x ∈ p1, x.block < W.heap.size := by obtain ⟨m, hm⟩ := k1; exact DataW.trod_lt m _ _ _ hm
  obtain ⟨z1, w1⟩ : ∃ zs, IsRow .i32 W a1 len1 cap1 zs := by
    obtain ⟨fuel, hf⟩ := h1
    rcases open_ints Try.underlying41 Try.underlying21 (by kernel_rfl) hf with ⟨hcs, _⟩ | ⟨x, l, c, zs, hcs, _, hl, hm, hz, _, hcell, hwz⟩
    · simp [Value.cells] at hcs
      obtain ⟨rfl, rfl, rfl⟩ := hcs
      exact ⟨[], .inl ⟨rfl, rfl, rfl, rfl⟩⟩
    · simp [Value.cells] at hcs
      obtain ⟨rfl, rfl, rfl⟩ := hcs
      exact ⟨zs, .inr ⟨_, rfl, hl, hm, by simpa using hz, hcell, hwz⟩⟩
  clear hA0 hval0
  refine (walk a0 a1 len1 cap1 z1 W w0 w1).mono fun e W' ⟨he, bel⟩ => ?_
  subst he
  exact ⟨_, rfl, _, _, _, [], _, [], hW', trodAll_mk1 (shut_bool Try.underlying4 _), (trodAll_cons_mk (shut_int Try.underlying22 w0) (trodAll_cons_mk (Below.trod laidOut (by kernel_rfl) (of_decide_eq_true (by kernel_rfl)) k1 bel lt1) trodAll_mk0)), rfl, bel.frame _, fun h => by cases h⟩

theorem over : Rows.serialTrueRow.holds Try.pinned (OpenSpec.ofChange Rows.serialTrueSpec) :=
  OpenClaim.holds_of_wide 6 Try.f6 rfl rfl rfl rfl rfl rfl rfl ⟨rfl, rfl, rfl, rfl, rfl⟩ rfl rfl rfl rfl rfl (by kernel_rfl) Try.func6 (by kernel_rfl)
    (of_decide_eq_true (by kernel_rfl)) (by unfold Func.isWrapper; first | (rw [if_pos (by decide +kernel)]; kernel_rfl) | (rw [if_neg (by decide +kernel)]; exact ⟨rfl, rfl⟩))
    (fun os started H enc _ => lifted os started H enc)

/-- ████ THE STATEMENT ████ -/
theorem proved : Rows.SerialTrueSaid := over
#print axioms proved
end Go.Proofs.Ytnmjfeeogphlcaa.serialTrue
