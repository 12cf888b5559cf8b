/- RingPlays: a range over a function: all that a ring has. -/
import Derived.RangeFuncBox
import Derived.RangeFuncLeaves
import Derived.Shelf.Abstract
import Derived.WalkKit
import Derived.OwnWalkIn
import Derived.TacticsInMore
import Derived.LoopNIn
import Derived.LoopIn
import Derived.Maps.AppendAt
import Derived.LaidEql
import Derived.RangeFuncNested
import Derived.Test.YtkmjpphmciaklaaRingP2
namespace Go.Proofs.Ytkmjpphmciaklaa
open Go.RowKit Go.Shelf
set_option linter.unusedVariables false
set_option linter.unusedSimpArgs false
attribute [local go_sem] Oper.semAt_some

theorem run_equalIn_func_nil {P : Program} (w : World) (d : Nat) {t : TypeId} {ps rs : Array TypeId} {vd : Bool} {f : Fn} {ta : Array Value} {lb : Array Value} (ht : P.underlying t = some (.func ps rs vd)) :
    (Op.equalIn (d + 1) t (.func f ta lb) Value.nilFunc).run P w = .ok false w := by
  simp [Op.equalIn, run_underlying ht]
theorem run_eql_func_nil {P : Program} (w : World) {t : TypeId} {ps rs : Array TypeId} {vd : Bool} {f : Fn} {ta : Array Value} {lb : Array Value} (ht : P.underlying t = some (.func ps rs vd)) :
    (binOp .eql t (.func f ta lb) Value.nilFunc).run P w = .ok (.bool false) w := by
  simp only [binOp]
  simp [Op.equal, Op.maxDepth, run_equalIn_func_nil w 9999 ht]
theorem RI.Ring.of_block {w w' : World} {p g N fr : Nat} {l : List Value} (h : RI.Ring w p g N fr l) (e1 : w'.heap[p]? = w.heap[p]?) (e2 : w'.heap[g]? = w.heap[g]?) : RI.Ring w' p g N fr l := by
  obtain ⟨cs, hb, r⟩ := h.arr
  refine ⟨?_, ⟨cs, e2.trans hb, r⟩, h.small, h.fits, h.head, h.form⟩
  have := h.str
  unfold At at this ⊢
  rw [e1]; exact this
theorem RI.Ring.below {n₀ : Nat} {w w' : World} {p g N fr : Nat} {l : List Value} (h : RI.Ring w p g N fr l) (c : Below n₀ w w') (hp : p < n₀) (hg : g < n₀) : RI.Ring w' p g N fr l := h.of_block (c.block p hp) (c.block g hg)

set_option maxRecDepth 100000 in
set_option maxHeartbeats 1000000 in
/-- r.All(): the receiver is boxed; the function value captures the box. -/
theorem ringAll_in (n : Nat) (p : Nat) (w : World) :
    CallsIn Fence.wide n Try.prog 53 #[.pointer (some ⟨p, 0, none⟩)] w fun e w' => e = .returned (.func (.func 88) #[] #[.pointer (some ⟨w.heap.size, 0, none⟩)]) ∧ w' = w.alloc (.cells #[.pointer (some ⟨p, 0, none⟩)] 36) := by
  refine callsIn_of_wp Try.func53 rfl trivial ?_ rfl
  simp only [Try.ntmps53, List.size_toArray, List.length_cons, List.length_nil, Nat.reduceAdd, Nat.reduceSub, Array.replicate_succ, Array.replicate_zero, List.push_toArray, List.append_toArray, List.nil_append, List.cons_append]
  gi_wp2
  go_ret
  exact ⟨rfl, rfl⟩

/-- What a round keeps: what lay below, and the iterator's own box. -/
def KeepB (n₀ Bn : Nat) (W W' : World) : Prop := Below n₀ W W' ∧ ∀ v, Boxed W Bn 36 v → Boxed W' Bn 36 v
set_option maxRecDepth 100000 in
set_option maxHeartbeats 2000000 in
theorem ringAll1_in (n : Nat) (hn : 1 ≤ n) (l Bn n₀ p g N fr : Nat) (xs : List Int) (J Jx : List Int → World → Prop)
    (hJ : ∀ pre W k, J pre W → J pre (W.drewN k))
    (hY : ∀ pre x W, J pre W → pre.length < xs.length → YieldAt Fence.wide (n - 1) Try.prog l #[.int .i64 x] W fun e W' =>
      (e = .returned (.bool true) ∧ J (pre ++ [x]) W' ∧ KeepB n₀ Bn W W') ∨ (e = .returned (.bool false) ∧ Jx (pre ++ [x]) W'))
    (W : World) (hBx : Boxed W Bn 36 (.pointer (some ⟨p, 0, none⟩))) (hR : RI.Ring W p g N fr (ints xs)) (hp : p < n₀) (hg : g < n₀) (h0 : J [] W) :
    CallsIn Fence.wide n Try.prog 88 #[.func (.yield l) #[] #[], .pointer (some ⟨Bn, 0, none⟩)] W fun e W' => (∃ v, e = .returned v) ∧
      ((∃ ys, ys = xs ∧ J ys W') ∨ (∃ pre, pre <+: xs ∧ Jx pre W')) := by
  have hlen : (ints xs).length = xs.length := by simp [ints]
  have hsm : (xs.length : Int) ≤ 4096 := by have h1 := hR.fits; have h2 := hR.small; rw [hlen] at h1; omega
  refine callsIn_of_wp Try.func88 rfl trivial ?_ rfl
  simp only [Try.ntmps88, List.size_toArray, List.length_cons, List.length_nil, Nat.reduceAdd, Nat.reduceSub, Array.replicate_succ, Array.replicate_zero, List.push_toArray, List.append_toArray, List.nil_append, List.cons_append]
  obtain ⟨c0, c1, c2, _⟩ := hR.str.three
  rw [hlen] at c2
  have hBn := hBx.cell
  gi_wp2
  clear c0 c1 c2
  gi_loopw [10] (fun s10 wr => ∃ i : Nat, s10 = .int .i64 i ∧ i ≤ xs.length ∧ J (xs.take i) wr ∧ Boxed wr Bn 36 (.pointer (some ⟨p, 0, none⟩)) ∧ RI.Ring wr p g N fr (ints xs)) (fun s10 wr => xs.length - (intOf s10).toNat)
  case atStart => exact ⟨0, rfl, by omega, h0, hBx, hR⟩
  case round =>
    obtain ⟨i, rfl, hi, hJi, hbx, hRi⟩ := hrel
    have hb := hbx.cell
    by_cases hil : i < xs.length
    · have hx : (ints xs)[i]? = some (.int .i64 (xs[i]'hil)) := by simp [ints, List.getElem?_eq_getElem hil]
      have CT := Lib.hid (RI.get_some wr p g N fr (ints xs) i (xs[i]'hil) hRi hx)
      have hil' : (i : Int) < (xs.length : Int) := by omega
      have hnx : xs.length - (i + 1) < xs.length - i := by omega
      gi_wp2_with fail
      refine ⟨trivial, ?_⟩
      refine (callsIn_wide.2 CT.out).mono ?_
      rintro e w' ⟨rfl, k, rfl⟩
      have hJk := hJ _ _ k hJi
      obtain ⟨fn, tmps, assign, body, hy, hR2⟩ := hY (xs.take i) (xs[i]'hil) (wr.drewN k) hJk (by rw [List.length_take]; omega)
      have hb2 : Boxed (wr.drewN k) Bn 36 (.pointer (some ⟨p, 0, none⟩)) := hbx
      have hRk := hRi.keep ((Chg.refl [] wr).drewN k)
      have htk : xs.take (i + 1) = xs.take i ++ [xs[i]'hil] := by rw [List.take_add_one, List.getElem?_eq_getElem hil]; rfl
      have HTK := Lib.hid htk
      have HHB := Lib.hid hb2
      have HRK := Lib.hid hRk
      clear CT hx htk hb2 hRk hJi hRi hb hR hBn hbx hBx
      gi_wp2
      refine hR2.mono ?_
      rintro e W3 (⟨rfl, hJ3, hk3⟩ | ⟨rfl, hJx3⟩)
      · have hb3 := hk3.2 _ HHB.out
        have hR3 := HRK.out.below hk3.1 hp hg
        have HF := Lib.hid (And.intro hJ3 (And.intro hb3 hR3))
        clear hJ3 hk3 hb3 hR3
        gi_wp2
        go_roundw
        case rel => exact ⟨i + 1, by push_cast; rfl, by omega, by rw [HTK.out]; exact HF.out.1, HF.out.2.1, HF.out.2.2⟩
        case measure => simp [intOf]; omega
      · gi_wp2
        refine bodyPost_ret (results_none rfl _ _ _) rfl ?_
        exact ⟨⟨_, rfl⟩, .inr ⟨xs.take i ++ [xs[i]'hil], by rw [← HTK.out]; exact List.take_prefix _ _, hJx3⟩⟩
    · obtain rfl : i = xs.length := by omega
      rw [List.take_of_length_le (Nat.le_refl _)] at hJi
      gi_wp2
      go_end0
      exact ⟨⟨_, rfl⟩, .inl ⟨xs, rfl, hJi⟩⟩

theorem ringAll_stops (n : Nat) (hn : 1 ≤ n) (Bn n₀ p g N fr : Nat) (xs : List Int) (w : World) (hn₀ : n₀ ≤ w.heap.size) (hc : Boxed w Bn 36 (.pointer (some ⟨p, 0, none⟩))) (hR : RI.Ring w p g N fr (ints xs)) (hp : p < n₀) (hg : g < n₀) :
    SeqStopsK Fence.wide n Try.prog 88 #[.pointer (some ⟨Bn, 0, none⟩)] (fun x : Int => #[Value.int .i64 x]) (KeepB n₀ Bn) (fun ys => ys = xs) (fun pre => pre <+: xs) xs.length w := fun l J Jx W hW hJ _ hY h0 => by
  have hb := hW.mono hn₀
  have hbx : Boxed W Bn 36 (.pointer (some ⟨p, 0, none⟩)) := (hW.block Bn hc.lt).trans hc
  exact ringAll1_in n hn l Bn n₀ p g N fr xs J Jx (fun pre W' k hJ' => by
    refine hJ pre W' (W'.drewN k) none hJ' ⟨rfl, rfl, rfl, Nat.le_refl _, fun _ _ _ => rfl⟩ (fun r hr => by cases hr)) hY W hbx (hR.below hb hp hg) hp hg h0

set_option maxRecDepth 100000 in
set_option maxHeartbeats 2000000 in
/-- All that a ring has, as a row. -/
theorem all_in (p g N fr : Nat) (xs : List Int) (w : World) (hR : RI.Ring w p g N fr (ints xs)) (hlen : xs.length ≤ 100000) :
    Calls Try.prog 21 #[.pointer (some ⟨p, 0, none⟩)] w fun e W' => ∃ v, e = .returned v ∧ W'.ownsRow w.heap.size 3 1 v xs.length (ints xs) ∧ Below w.heap.size w W' := by
  refine (callsIn_wide (n := 6)).1 ?_
  obtain ⟨i0, hi, hz0, hz1, hz2⟩ := info_parts RI.info
  obtain ⟨hpl, hgl⟩ := hR.lt
  refine callsIn_of_wp_marks Try.func21 rfl trivial ?_ rfl
  simp only [Try.ntmps21, List.size_toArray, List.length_cons, List.length_nil, Nat.reduceAdd, Nat.reduceSub, Array.replicate_succ, Array.replicate_zero, List.push_toArray, List.append_toArray, List.nil_append, List.cons_append]
  gi_wp2_with fail
  refine ⟨trivial, ?_⟩
  refine (ringAll_in _ _ _).mono ?_
  rintro e w' ⟨rfl, rfl⟩
  have bO := Boxed.new w 23 (.slice none 0 0)
  have bN := Boxed.new (w.alloc (.cells #[.slice none 0 0] 23)) 36 (.pointer (some ⟨p, 0, none⟩))
  rw [World.size_alloc] at bN
  have hB0 : Below w.heap.size w ((w.alloc (.cells #[.slice none 0 0] 23)).alloc (.cells #[.pointer (some ⟨p, 0, none⟩)] 36)) := ((Below.refl _ w).alloc (Nat.le_refl _) _).alloc (by simp) _
  have he := run_eql_func_nil (P := Try.prog) (f := .func 88) (ta := #[]) (lb := #[.pointer (some ⟨w.heap.size + 1, 0, none⟩)]) ((w.alloc (.cells #[.slice none 0 0] 23)).alloc (.cells #[.pointer (some ⟨p, 0, none⟩)] 36)) Try.underlying109
  have hRl : RI.Ring ((w.alloc (.cells #[.slice none 0 0] 23)).alloc (.cells #[.pointer (some ⟨p, 0, none⟩)] 36)) p g N fr (ints xs) := hR.keep (((Chg.refl [] w).alloc _).alloc _)
  have KB_t : ∀ {A B C : World}, KeepB w.heap.size (w.heap.size + 1) A B → KeepB w.heap.size (w.heap.size + 1) B C → KeepB w.heap.size (w.heap.size + 1) A C := fun h k => ⟨h.1.trans k.1, fun v hv => k.2 v (h.2 v hv)⟩
  gi_wp2_with fail
  refine wpIn_rangeFunc_ownG rfl (by decide) (gf := 88) (lb := #[.pointer (some ⟨w.heap.size + 1, 0, none⟩)]) rfl trivial (enters_of Try.func88 (by kernel_rfl) rfl)
    (ringAll_stops (6 - 1) (by decide) (w.heap.size + 1) w.heap.size p g N fr xs _ (by simp; omega) bN hRl hpl hgl) KB_t (fun W l o o' hl ho hc hw => ⟨belowK_b (by simp; omega) W l o o' hl ho hc hw, fun v hv => hv.kept (grownBy_putObj' W l o') (fun e => by cases e; simp at hl; omega)⟩) (Below.refl _ _) (fun _ => rfl)
    (fun pre W => (∃ v, Boxed W w.heap.size 23 v ∧ W.ownsRow w.heap.size 3 1 v pre.length (ints pre) ∧ (v = .slice none 0 0 ↔ pre = [])) ∧ Below w.heap.size w W)
    (fun _ _ _ => False)
    (OwnFrom.and (Own.from (holdsRow_own w.heap.size w.heap.size 23 3 1 (fun pre : List Int => pre.length) (fun pre => ints pre) (fun pre v => v = .slice none 0 0 ↔ pre = [])) _) (ownFrom_below (Nat.le_refl _) (by simp; omega)))
    (fun _ _ _ _ _ hs _ _ => hs)
    ⟨⟨_, bO.alloc _, World.ownsRow_nil _ _ _ _, by simp⟩, hB0⟩
    (fun x => { tmps := #[.pointer (some ⟨p, 0, none⟩), undef, .slice none 0 0, .pointer (some ⟨w.heap.size, 0, none⟩), .func (.func 88) #[] #[.pointer (some ⟨w.heap.size + 1, 0, none⟩)], .int .i64 x, .pointer (some ⟨p, 0, none⟩), .func (.func 88) #[] #[.pointer (some ⟨w.heap.size + 1, 0, none⟩)], .func (.func 88) #[] #[.pointer (some ⟨w.heap.size + 1, 0, none⟩)], .bool false, .func (.func 88) #[] #[.pointer (some ⟨w.heap.size + 1, 0, none⟩)], .int .i64 x, undef, undef, undef, undef, undef], defers := [] }) ?assign ?body ?done ?stop
  case assign =>
    intro l x W K hK
    gi_wp2
    exact hK
  case body =>
    rintro l pre x W ⟨⟨v, hv, hrow, hnil⟩, hB⟩ hlt
    have hc := hv.cell
    have hmx : pre.length + 1 ≤ maxLen := by unfold maxLen; omega
    gi_wp2_with (gi_at_builtin; refine wpListIn_append_own _ rfl _ _ 23 rfl w.heap.size 3 i0 (.int .i64 0) 1 8 Try.underlying23 hi hz0 hz1 hz2 rfl (by decide) _ _ _ rfl (hrow.alloc _) ⟨W.heap.size, 0, none⟩ 1 1 [.int .i64 x] rfl rfl (cell_one_new _ _ _) (by simp [Value.oneCell']) (by omega) (by omega) (by have := hB.size; simp; omega) ?_; intro v' w1 hown' hgrow _; obtain ⟨g', cap', rfl⟩ := ownsRow_succ hown'; obtain ⟨hv1, hv2, hr2, hk2, hb2⟩ := hv.appended (by decide) hrow hB.size (Nat.le_refl _) hown' hgrow; have hc1 := hv1.cell; have hf1 := hv1.frozen; have hbx : ∀ u, Boxed W (w.heap.size + 1) 36 u → Boxed (w1.setCell ⟨w.heap.size, 0, none⟩ (.slice (some ⟨g', 0, none⟩) (pre.length + 1) cap')) (w.heap.size + 1) 36 u := fun u hu => Boxed.other (Boxed.kept (hu.alloc (.cells #[.int .i64 x] 3)) hgrow (hu.not_row (by decide) hrow)) (by omega) _)
    exact ⟨hk2.from _, ⟨hb2, hbx⟩, ⟨_, hv2, by simpa [ints] using hr2, by simp⟩, hB.trans hb2⟩
  case done =>
    rintro D ys W hD rfl ⟨⟨v, hv, hrow, hnil⟩, hB⟩ hK
    have hc := hv.cell
    gi_wp2
    refine ⟨by simp, .inl ⟨_, _, rfl, run_takeDeferred hK, ?_⟩⟩
    exact ⟨_, results_tmp rfl _ _ _, v, rfl, ownsRow_putObj hrow _ hK rfl, hB.trans (belowK_b (w := w) (Nat.le_refl _) W D _ _ (by simp at hD; omega) hK rfl rfl)⟩
  case stop =>
    rintro D c pre W _ _ h _
    exact h.elim
end Go.Proofs.Ytkmjpphmciaklaa
