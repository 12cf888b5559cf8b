/- Proved: for every slice of uint32 numbers the Go law catwalklaw02.SerialWide returns true, and its argument reads behind the call as it read before. Conditions: none.
The frame of this text was written by the kit's proof-skeleton program; the walk and its lemmas are ours. -/
import Derived.Test.YtnmjfeeogphlcaaWideWalks
import Derived.Test.YtnmjfeeogphlcaaRow
import Derived.Deep.RegionWith
import Derived.Deep.DrawnRows
import Derived.WalkKit
import Derived.ProofKit
import Derived.OpenShut
import Derived.ShutString
import Derived.ChangeOld
import Derived.Below
namespace Go.Proofs.Ytnmjfeeogphlcaa.serialWide
open Go.ChangeShapes Go.WideShapes Go.ChangeAt Go.RowKit
open Go.ChangeMaps (open_string shut_string)
set_option linter.unusedVariables false
attribute [local go_sem ↓] Go.wp_at_zero Go.wp_at_succ

theorem own : ownKnob Try.prog.godebug = none := by kernel_rfl
theorem laidOut : laidOutB Try.prog = true := by kernel_rfl

/-- WHAT THE WALK IS TOLD OF A SLICE OF INTEGERS THAT CAME IN: it is nil; or it leads to a row of 'cap' cells, the numbers 'zs' (the first 'len' are its elements, the rest its spare room), each fitting its kind. -/
def IsRow (k : IntKind) (w : World) (a : Option Addr) (len cap : Nat) (zs : List Int) : Prop :=
  (a = none ∧ len = 0 ∧ cap = 0 ∧ zs = []) ∨
  ∃ x, a = some x ∧ len ≤ cap ∧ cap ≤ maxLen ∧ zs.length = cap ∧ (∀ i, i < zs.length → w.cell? (x.add i) = some (.int k (zs.getD i 0))) ∧ ∀ n ∈ zs, (Lit.int k n).wf = true

/-! ### STEP 1: THE WALK: the Go text returns true, AND WRITES NOTHING THAT WAS THERE: 'Below w.heap.size w w'' (Derived/Below.lean: '.refl', '.alloc', '.drew', '.setCell' at a new block, '.trans'). Open each 'IsRow' by 'rcases' AHEAD of 'go_enter'; part every test ahead of the walk. -/
/-- What holds at the head of round k of the law's loop. -/
def WideSt (b1 b2 k : Nat) (w wr : World) : Prop :=
  ∃ (top : Int) (s : Bool), 0 ≤ top ∧ top ≤ 2147483648 * (k : Int) + 4294967296 ∧ At wr b1 34 [.int .i64 top, .bool s] ∧ At wr b2 37 [.int .i64 top, .bool s] ∧ Below w.heap.size w wr

theorem wide_start (w : World) : WideSt w.heap.size (w.heap.size + 1) 0 w ((w.alloc (.cells #[.int .i64 0, .bool false] 34)).alloc (.cells #[.int .i64 0, .bool false] 37)) :=
  ⟨0, false, by omega, by omega, (At.new w 34 [_, _]).alloc _, by have := At.new (w.alloc (.cells #[.int .i64 0, .bool false] 34)) 37 [.int .i64 0, .bool false]; simpa using this,
    ((Below.refl _ _).alloc (Nat.le_refl _) _).alloc (by simp) _⟩

set_option maxRecDepth 100000 in
set_option maxHeartbeats 1000000 in
theorem walk (a0 : Option Addr) (len0 cap0 : Nat) (z0 : List Int) (w : World) (w0 : IsRow .u32 w a0 len0 cap0 z0) :
    Calls Try.prog 5 #[.slice a0 len0 cap0] w fun e w' => e = .returned (.bool true) ∧ Below w.heap.size w w' := by
  by_cases hlong : 500 < len0
  · go_enter Try.func5, Try.ntmps5
    go_wp2
    go_ret
    exact ⟨rfl, Below.refl _ _⟩
  have hlen : len0 ≤ 500 := by omega
  clear hlong
  go_enter Try.func5, Try.ntmps5
  go_wp2_with fail
  go_loopw [5] (fun i wr => ∃ k : Nat, k ≤ len0 ∧ i = .int .i64 k ∧ WideSt w.heap.size (w.heap.size + 1) k w wr) (fun i _ => len0 - (intOf i).toNat)
  case atStart => exact ⟨0, Nat.zero_le _, rfl, wide_start w⟩
  case round =>
    obtain ⟨k, hk, rfl, top, s, ht, ht', hA1, hA2, hb⟩ := hrel
    by_cases hlt : k < len0
    · obtain ⟨b, off, rfl, hbl, hcell, hwf⟩ := row_at w0 k hlt
      obtain ⟨hn, hn'⟩ := bounds_u32 hwf
      have hcr : wr.cell? ⟨b, off + k, none⟩ = some (.int .u32 (z0.getD k 0)) := by rw [hb.cell hbl]; exact hcell
      clear hcell hwf w0
      obtain ⟨n, hnz⟩ : ∃ n, n = z0.getD k 0 := ⟨_, rfl⟩
      rw [← hnz] at hn hn' hcr
      clear hnz
      have hi0 : (0 : Int) ≤ (k : Int) := by omega
      have hi1 : (k : Int) < (len0 : Int) := by omega
      have tb := wtopS_bd s top n ht hn hn' (2147483648 * (k : Int) + 4294967296) ht' (by omega)
      have HA1 := Lib.hid hA1
      have HA2 := Lib.hid hA2
      have HB := Lib.hid hb
      have hs := hb.size
      have hs1 := hA1.lt
      have hs2 := hA2.lt
      clear hA1 hA2 hb
      go_wp2_with fail
      go_region_with (first
          | (go_at_call 21; refine (wide_any _ _ _ _ _ ht (by omega) hn hn' (by exact HA1.out.drew)).mono ?_; rintro e w1 ⟨rfl, hA1, hC1⟩; have hcr1 : w1.cell? ⟨b, off + k, none⟩ = some (.int .u32 n) := (by rw [hC1.cell (by simp; omega) (by simp; omega)]; exact hcr); have g1 := Lib.hid hA1; have g2 := Lib.hid hC1; clear hA1 hC1)
          | (go_at_call 22; refine (rwide_any _ _ _ _ _ ht (by omega) hn hn' (by exact HA2.out.drew.chg g2.out (by simp))).mono ?_; rintro e w2 ⟨rfl, hA2, hC2⟩; have cd := hA2.cell 0; simp at cd; have g3 := Lib.hid hA2; have g4 := Lib.hid hC2; clear hA2 hC2)
          | (go_at_call 23; refine (wide_top _ _ _ _ (by exact g1.out.chg g4.out (by simp))).mono ?_; rintro e w3 ⟨rfl, rfl⟩))
      all_goals
        go_wp2
        go_roundw
        case rel =>
          have hz := g2.out.size
          simp at hz
          exact ⟨k + 1, by omega, by go_num, wtopS s top n, true, tb.1, by omega, g1.out.chg g4.out (by simp), g3.out,
            (HB.out.drew.trans (g2.out.below (by simp; omega) (by simp))).trans (g4.out.below (by omega) (by simp))⟩
        case measure => simp [intOf]; omega
    · go_wp2_with fail
      refine (alive_any _).mono ?_; rintro e w' ⟨rfl, rfl⟩
      go_wp2_with fail
      go_ret
      exact ⟨rfl, hb⟩

/-! ### THE ROW's STEP: WRITTEN OUT: LEAVE IT -/
set_option maxRecDepth 100000 in
theorem lifted (os : Os) (started : os.Started) (H : Type) (enc : TypeId × Value → H) :
    ReturnsInHanded {} Try.checked os 5 .any (Rows.serialWideSpec.pre6 enc Try.prog Try.f5 Rows.serialWideRow.domain false) (Rows.serialWideSpec.post enc Try.prog Try.f5 false true false false) := by
  refine returnsInHanded_of_change (C := Try.checked) own started (by kernel_rfl) Try.func5
    (ChangeSpec.witness6 (enc := enc) (C := Try.checked) false ⟨#[], #[.slice none 0 0], []⟩ 8 (by kernel_rfl) (by kernel_rfl) (by kernel_rfl) (by kernel_rfl)) ?_
  intro W base args ds gs before hval0 hW hcnd _
  have hval : ∀ (j : Nat) t v, Try.f5.params[j]? = some t → args[j]? = some v → Value.okWide Try.prog W .any base t v := hval0
  have hW' := hW
  obtain ⟨p, q, hA0, hV, rfl, hfz, hnd⟩ := hW
  have hA : DataW.TrodAll enc Try.prog W 0 (fun _ => true) true Try.f5.params.toList args.toList ds p := hA0
  rw [Try.params5] at hA hval
  obtain ⟨v0, vs0, d0, ds0, p0, q0, hargs, rfl, rfl, h0, r0⟩ := trodAll_cons hA
  obtain ⟨rfl, rfl, rfl⟩ := trodAll_nil r0
  obtain rfl : args = #[v0] := by cases args; simp_all
  obtain ⟨rfl, rfl⟩ := trodVars_none hV
  obtain ⟨a0, len0, cap0, rfl⟩ := okWide_slice Try.underlying31 (hval 0 31 v0 rfl rfl)
  have k0 := h0
  have lt0 : ∀ x ∈ p0, x.block < W.heap.size := by obtain ⟨m, hm⟩ := k0; exact DataW.trod_lt m _ _ _ hm
  obtain ⟨z0, w0⟩ : ∃ zs, IsRow .u32 W a0 len0 cap0 zs := by
    obtain ⟨fuel, hf⟩ := h0
    rcases open_ints Try.underlying31 Try.underlying22 (by kernel_rfl) hf with ⟨hcs, _⟩ | ⟨x, l, c, zs, hcs, _, hl, hm, hz, _, hcell, hwz⟩
    · simp [Value.cells] at hcs
      obtain ⟨rfl, rfl, rfl⟩ := hcs
      exact ⟨[], .inl ⟨rfl, rfl, rfl, rfl⟩⟩
    · simp [Value.cells] at hcs
      obtain ⟨rfl, rfl, rfl⟩ := hcs
      exact ⟨zs, .inr ⟨_, rfl, hl, hm, by simpa using hz, hcell, hwz⟩⟩
  clear hA0 hval0
  refine (walk a0 len0 cap0 z0 W w0).mono fun e W' ⟨he, bel⟩ => ?_
  subst he
  exact ⟨_, rfl, _, _, _, [], _, [], hW', trodAll_mk1 (shut_bool Try.underlying4 _), (trodAll_cons_mk (Below.trod laidOut (by kernel_rfl) (of_decide_eq_true (by kernel_rfl)) k0 bel lt0) trodAll_mk0), rfl, bel.frame _, fun h => by cases h⟩

theorem over : Rows.serialWideRow.holds Try.pinned (OpenSpec.ofChange Rows.serialWideSpec) :=
  OpenClaim.holds_of_wide 5 Try.f5 rfl rfl rfl rfl rfl rfl rfl ⟨rfl, rfl, rfl, rfl, rfl⟩ rfl rfl rfl rfl rfl (by kernel_rfl) Try.func5 (by kernel_rfl)
    (of_decide_eq_true (by kernel_rfl)) (by unfold Func.isWrapper; first | (rw [if_pos (by decide +kernel)]; kernel_rfl) | (rw [if_neg (by decide +kernel)]; exact ⟨rfl, rfl⟩))
    (fun os started H enc _ => lifted os started H enc)

/-- ████ THE STATEMENT ████ -/
theorem proved : Rows.SerialWideSaid := over
#print axioms proved
end Go.Proofs.Ytnmjfeeogphlcaa.serialWide
