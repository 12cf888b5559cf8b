/- RingPlays: a call of both; two rows of ints are the same; the chapter's example. -/
import Derived.Test.YtkmjpphmciaklaaRingP1
namespace Go.Proofs.Ytkmjpphmciaklaa
open Go.RowKit
set_option linter.unusedVariables false
set_option linter.unusedSimpArgs false
attribute [local go_sem ↓] Go.wp_at_zero Go.wp_at_succ

theorem RI.Ring.keep {w w' : World} {p g N fr : Nat} {l : List Value} (h : RI.Ring w p g N fr l) (c : Chg [] w w') : RI.Ring w' p g N fr l := h.chg c (by simp) (by simp)
def ints (l : List Int) : List Value := l.map (Value.int .i64)
/-- What there is behind a call. -/
def stepF (N : Nat) (kind n : Int) (l : List Int) : List Int :=
  if kind % 7 = 3 ∨ kind % 7 = 4 then l.tail else if kind % 7 = 5 then l else if kind % 7 = 6 then [] else if N ≤ l.length then l else l ++ [n]
def StepPost (p g N : Nat) (l' : List Int) (w : World) (e : Ending) (w' : World) : Prop :=
  ∃ v', e = .returned (.tuple #[v', .bool true]) ∧ (∃ fr', RI.Ring w' p g N fr' (ints l')) ∧ IntS (fun b => b ≠ p ∧ b ≠ g) w' v' l' ∧ Chg [p, g] w w'
theorem IntS.pg {p g : Nat} {w w' : World} {v : Value} {d : List Int} (h : IntS (fun b => b ≠ p ∧ b ≠ g) w v d) (c : Chg [p, g] w w') : IntS (fun b => b ≠ p ∧ b ≠ g) w' v d :=
  h.chg c (fun b _ hs hm => by simp at hm; rcases hm with rfl | rfl; exact hs.1 rfl; exact hs.2 rfl)
/-- The first one goes. -/
theorem IntS.tail {S : Nat → Prop} {w : World} {A : Option Addr} {c x : Int} {n cc g o : Nat} {d : List Int} (h : IntS S w (.slice (some ⟨g, o, none⟩) n cc) (x :: d)) : IntS S w (.slice (if cc = 1 then some ⟨g, o, none⟩ else some ⟨g, o + 1, none⟩) d.length (cc - 1)) d := by
  obtain ⟨A', c', he, h1, h2, hd, h3⟩ := h
  simp only [Value.slice.injEq] at he
  obtain ⟨rfl, rfl, rfl⟩ := he
  simp only [List.length_cons] at h1
  obtain ⟨g', o', e, hs, hg, hc⟩ := hd (by simp)
  simp only [Option.some.injEq, Addr.mk.injEq] at e
  obtain ⟨rfl, rfl, -⟩ := e
  refine ⟨_, _, rfl, by omega, fun hh => ?_, fun hne => ⟨g, o + 1, ?_, hs, hg, fun j u hj => ?_⟩, fun y hy => ?_⟩
  · split at hh <;> cases hh
  · have : 0 < d.length := List.length_pos_iff.2 hne
    rw [if_neg (by omega)]
  · have := hc (j + 1) u (by simpa using hj)
    rw [show o + 1 + j = o + (j + 1) from by omega]
    exact this
  · split at hy <;> (cases hy; rfl)
theorem IntS.at {S : Nat → Prop} {w : World} {A : Option Addr} {n c k : Nat} {d : List Int} {x : Int} (h : IntS S w (.slice A n c) d) (hk : d[k]? = some x) : n = d.length ∧ ∃ g o, A = some ⟨g, o, none⟩ ∧ S g ∧ g < w.heap.size ∧ w.cell? ⟨g, o + k, none⟩ = some (.int .i64 x) := by
  obtain ⟨A', c', he, h1, h2, hd, h3⟩ := h
  simp only [Value.slice.injEq] at he
  obtain ⟨rfl, rfl, rfl⟩ := he
  obtain ⟨g, o, rfl, hs, hg, hc⟩ := hd (by intro e; rw [e] at hk; simp at hk)
  exact ⟨rfl, g, o, rfl, hs, hg, hc k x hk⟩
theorem IntS.form {S : Nat → Prop} {w : World} {v : Value} {d : List Int} (h : IntS S w v d) : ∃ A c, v = .slice A d.length c ∧ d.length ≤ c := by
  obtain ⟨A', c', he, h1, _⟩ := h
  exact ⟨A', c', he, h1⟩

set_option maxRecDepth 100000 in
set_option maxHeartbeats 2000000 in
theorem step_pop (w : World) (p g N fr : Nat) (l : List Int) (A : Option Addr) (c : Nat) (kind n most : Int) (h : RI.Ring w p g N fr (ints l)) (hv : IntS (fun b => b ≠ p ∧ b ≠ g) w (.slice A l.length c) l) (hk0 : 0 ≤ kind) (hk : kind % 7 = 3 ∨ kind % 7 = 4) :
    Calls Try.prog 17 #[.pointer (some ⟨p, 0, none⟩), .slice A l.length c, .agg #[.int .i64 kind, .int .i64 n], .int .i64 most] w (StepPost p g N l.tail w) := by
  obtain ⟨wx, hwx⟩ : ∃ wx, wx = w.alloc (.cells #[.int .i64 kind, .int .i64 n] 39) := ⟨_, rfl⟩
  have hcx : Chg [] w wx := by rw [hwx]; exact (Chg.refl _ _).alloc _
  have HX := Lib.hid hwx
  have HC := Lib.hid hcx
  have HV := Lib.hid (hv.chg hcx (by simp))
  have HR := Lib.hid (h.chg hcx (by simp) (by simp))
  cases l with
  | nil =>
    have CT := Lib.hid (RI.pop_none wx p g N fr (HR.out))
    clear h hv hwx hcx
    simp only [List.length_nil]
    rcases hk with hk | hk
    all_goals
      go_enter Try.func17, Try.ntmps17
      go_wp2_with fail
      rw [← HX.out]
      refine CT.out.mono ?_
      rintro e w2 ⟨rfl, rfl⟩
      go_wp2_with fail
      go_ret2
      exact ⟨_, rfl, ⟨fr, HR.out⟩, HV.out, HC.out.mono (by simp)⟩
  | cons x l =>
    have CT := Lib.hid (RI.pop_some wx p g N fr (.int .i64 x) (ints l) HR.out)
    obtain ⟨hn, gv, o, rfl, hs, hg, hc⟩ := HV.out.at (k := 0) rfl
    obtain ⟨_, cc, hcc, hlc⟩ := HV.out.form
    simp only [Value.slice.injEq] at hcc
    obtain ⟨-, -, rfl⟩ := hcc
    obtain ⟨A', hA'⟩ : ∃ A', A' = (if c = 1 then some ⟨gv, o, none⟩ else some ⟨gv, o + 1, none⟩ : Option Addr) := ⟨_, rfl⟩
    have HT := HV.out.tail (A := none) (c := 0)
    rw [← hA'] at HT
    have hif := hA'.symm
    simp only [List.length_cons] at hlc
    have hl1 : ((l.length + 1 : Nat) : Int) ≠ 0 := by omega
    have hlb : (((l.length + 1 : Nat) : Int) == 0) = false := beq_eq_false_iff_ne.2 hl1
    have hgn : gv ∉ [p, g] := by simp; exact ⟨hs.1, hs.2⟩
    clear h hv hwx hcx hA' hn
    simp only [List.length_cons, List.tail_cons]
    rcases hk with hk | hk
    all_goals
      go_enter Try.func17, Try.ntmps17
      go_wp2_with fail
      rw [← HX.out]
      refine CT.out.mono ?_
      rintro e w2 ⟨rfl, hr2, hc2⟩
      have hc' : w2.cell? ⟨gv, o, none⟩ = some (.int .i64 x) := (hc2.cell (p := ⟨gv, o, none⟩) hg hgn).trans hc
      have HF := Lib.hid (And.intro hr2 (And.intro (HT.pg hc2) ((HC.out.mono (by simp)).trans hc2 : Chg [p, g] w w2)))
      clear hr2 hc2
      go_upto_region 7 with (fail)
      go_quiet (fail)
      clear hc'
      go_wp2_with fail
      go_ret2
      have hcd : ∀ k, Chg [] w2 (w2.drewN k) := fun k => (Chg.refl [] w2).drewN k
      exact ⟨_, rfl, ⟨_, HF.out.1.keep (hcd _)⟩, HF.out.2.1.chg (hcd _) (by simp), HF.out.2.2.trans' (hcd _) (by simp)⟩

set_option maxRecDepth 100000 in
set_option maxHeartbeats 2000000 in
theorem step_get (w : World) (p g N fr : Nat) (l : List Int) (A : Option Addr) (c : Nat) (kind n most : Int) (h : RI.Ring w p g N fr (ints l)) (hv : IntS (fun b => b ≠ p ∧ b ≠ g) w (.slice A l.length c) l) (hk0 : 0 ≤ kind) (hk : kind % 7 = 5) :
    Calls Try.prog 17 #[.pointer (some ⟨p, 0, none⟩), .slice A l.length c, .agg #[.int .i64 kind, .int .i64 n], .int .i64 most] w (StepPost p g N l w) := by
  obtain ⟨wx, hwx⟩ : ∃ wx, wx = w.alloc (.cells #[.int .i64 kind, .int .i64 n] 39) := ⟨_, rfl⟩
  have hcx : Chg [] w wx := by rw [hwx]; exact (Chg.refl _ _).alloc _
  have hX : At wx w.heap.size 39 [.int .i64 kind, .int .i64 n] := by rw [hwx]; exact At.new w 39 [_, _]
  have HX := Lib.hid hwx
  have HC := Lib.hid hcx
  have HV := Lib.hid (hv.chg hcx (by simp))
  have HR := Lib.hid (h.chg hcx (by simp) (by simp))
  have hil : (ints l).length = l.length := by simp [ints]
  by_cases hin : n < 0 ∨ (l.length : Int) ≤ n
  · have CT := Lib.hid (RI.get_none wx p g N fr (ints l) n HR.out (by rw [hil]; exact hin))
    obtain ⟨x0, x1, _⟩ := hX.two
    clear h hv hwx hcx hX hil
    rcases hin with h0 | h0
    · go_enter Try.func17, Try.ntmps17
      go_wp2_with fail
      rw [← HX.out]
      refine CT.out.mono ?_
      rintro e w2 ⟨rfl, rfl⟩
      go_wp2_with fail
      go_ret2
      exact ⟨_, rfl, ⟨fr, HR.out⟩, HV.out, HC.out.mono (by simp)⟩
    · have h1 : ¬ n < 0 := by omega
      go_enter Try.func17, Try.ntmps17
      go_wp2_with fail
      rw [← HX.out]
      refine CT.out.mono ?_
      rintro e w2 ⟨rfl, rfl⟩
      go_wp2_with fail
      go_ret2
      exact ⟨_, rfl, ⟨fr, HR.out⟩, HV.out, HC.out.mono (by simp)⟩
  · obtain ⟨i, rfl⟩ : ∃ i : Nat, n = i := ⟨n.toNat, by omega⟩
    have hi : i < l.length := by omega
    obtain ⟨x, hx⟩ : ∃ x, x = l[i]'hi := ⟨_, rfl⟩
    have hxi : l[i]? = some x := by rw [List.getElem?_eq_getElem hi, hx]
    have CT := Lib.hid (RI.get_some wx p g N fr (ints l) i x HR.out (by simp [ints, hxi]))
    obtain ⟨_, gv, o, rfl, hs, hg, hc⟩ := HV.out.at hxi
    obtain ⟨x0, x1, _⟩ := hX.two
    have hi0 : ¬ (i : Int) < 0 := by omega
    have hi1 : ¬ (l.length : Int) ≤ (i : Int) := by omega
    have hi2 : (0 : Int) ≤ (i : Int) := by omega
    have hi3 : (i : Int) < (l.length : Int) := by omega
    clear h hv hwx hcx hX hil hin hx hxi
    go_enter Try.func17, Try.ntmps17
    go_wp2_with fail
    rw [← HX.out]
    refine CT.out.mono ?_
    rintro e w2 ⟨rfl, m, rfl⟩
    have y1 : (wx.drewN m).cell? ⟨w.heap.size, 1, none⟩ = some (.int .i64 (i : Int)) := x1
    have y2 : (wx.drewN m).cell? ⟨gv, o + i, none⟩ = some (.int .i64 x) := hc
    go_upto_region 12 with (fail)
    go_quiet (fail)
    clear y1 y2 x0 x1 hc
    go_wp2_with fail
    go_ret2
    have hcd : ∀ k, Chg [] wx (((wx.drewN m).drewN k)) := fun k => ((Chg.refl [] wx).drewN m).drewN k
    exact ⟨_, rfl, ⟨fr, HR.out.keep (hcd _)⟩, HV.out.chg (hcd _) (by simp), (HC.out.trans (hcd _)).mono (by simp)⟩

set_option maxRecDepth 100000 in
set_option maxHeartbeats 2000000 in
theorem step_clear (w : World) (p g N fr : Nat) (l : List Int) (A : Option Addr) (c : Nat) (kind n most : Int) (h : RI.Ring w p g N fr (ints l)) (hv : IntS (fun b => b ≠ p ∧ b ≠ g) w (.slice A l.length c) l) (hk0 : 0 ≤ kind) (hk : kind % 7 = 6) :
    Calls Try.prog 17 #[.pointer (some ⟨p, 0, none⟩), .slice A l.length c, .agg #[.int .i64 kind, .int .i64 n], .int .i64 most] w (StepPost p g N [] w) := by
  obtain ⟨wx, hwx⟩ : ∃ wx, wx = w.alloc (.cells #[.int .i64 kind, .int .i64 n] 39) := ⟨_, rfl⟩
  have hcx : Chg [] w wx := by rw [hwx]; exact (Chg.refl _ _).alloc _
  have HX := Lib.hid hwx
  have HC := Lib.hid hcx
  have CT := Lib.hid (RI.clear_any wx p g N fr (ints l) (h.chg hcx (by simp) (by simp)))
  clear h hv hwx hcx
  go_enter Try.func17, Try.ntmps17
  go_wp2_with fail
  rw [← HX.out]
  refine CT.out.mono ?_
  rintro e w2 ⟨⟨v, rfl⟩, hr, hc2⟩
  have HF := Lib.hid (And.intro hr ((HC.out.mono (by simp)).trans hc2 : Chg [p, g] w w2))
  clear hr hc2 CT
  go_wp2_with fail
  go_ret2
  exact ⟨_, rfl, HF.out.1, IntS.nil _ _, HF.out.2⟩

set_option maxRecDepth 100000 in
set_option maxHeartbeats 2000000 in
theorem step_push (w : World) (p g N fr : Nat) (l : List Int) (A : Option Addr) (c : Nat) (kind n : Int) (h : RI.Ring w p g N fr (ints l)) (hv : IntS (fun b => b ≠ p ∧ b ≠ g) w (.slice A l.length c) l) (hk0 : 0 ≤ kind) (hk : kind % 7 = 0 ∨ kind % 7 = 1 ∨ kind % 7 = 2) :
    Calls Try.prog 17 #[.pointer (some ⟨p, 0, none⟩), .slice A l.length c, .agg #[.int .i64 kind, .int .i64 n], .int .i64 (N : Int)] w (StepPost p g N (if N ≤ l.length then l else l ++ [n]) w) := by
  obtain ⟨wx, hwx⟩ : ∃ wx, wx = w.alloc (.cells #[.int .i64 kind, .int .i64 n] 39) := ⟨_, rfl⟩
  have hcx : Chg [] w wx := by rw [hwx]; exact (Chg.refl _ _).alloc _
  have hX : At wx w.heap.size 39 [.int .i64 kind, .int .i64 n] := by rw [hwx]; exact At.new w 39 [_, _]
  have HX := Lib.hid hwx
  have HC := Lib.hid hcx
  have HV := Lib.hid (hv.chg hcx (by simp))
  have HR := Lib.hid (h.chg hcx (by simp) (by simp))
  have hil : (ints l).length = l.length := by simp [ints]
  have z3 : ¬ kind % 7 = 3 := by omega
  have z4 : ¬ kind % 7 = 4 := by omega
  have z5 : ¬ kind % 7 = 5 := by omega
  have z6 : ¬ kind % 7 = 6 := by omega
  obtain ⟨x0, x1, _⟩ := hX.two
  by_cases hin : N ≤ l.length
  · rw [if_pos hin]
    have hfit := h.fits
    rw [hil] at hfit
    have CT := Lib.hid (RI.push_full wx p g N fr (ints l) (.int .i64 n) HR.out (by rw [hil]; omega))
    have hin' : (N : Int) ≤ (l.length : Int) := by omega
    clear h hv hwx hcx hX hil hk hfit
    go_enter Try.func17, Try.ntmps17
    go_wp2_with fail
    rw [← HX.out]
    refine CT.out.mono ?_
    rintro e w2 ⟨rfl, m, rfl⟩
    have hcd := (Chg.refl [] wx).drewN m
    have HF := Lib.hid hcd
    clear hcd CT x0 x1
    go_wp2_with fail
    go_ret2
    exact ⟨_, rfl, ⟨fr, HR.out.keep HF.out⟩, HV.out.chg HF.out (by simp), (HC.out.trans HF.out).mono (by simp)⟩
  · rw [if_neg hin]
    have hin' : ¬ (N : Int) ≤ (l.length : Int) := by omega
    have hsm := h.small
    obtain ⟨_, _, hcc, hlc⟩ := HV.out.form
    simp only [Value.slice.injEq] at hcc
    obtain ⟨-, -, rfl⟩ := hcc
    have hvl : IntS (fun b => b ≠ p ∧ b ≠ g) wx.drew (.slice A l.length l.length) l := by
      obtain ⟨A', c', he, h1, h2, hd, h3⟩ := HV.out
      simp only [Value.slice.injEq] at he
      obtain ⟨rfl, -, rfl⟩ := he
      exact ⟨_, _, rfl, Nat.le_refl _, fun hh => by have := h2 hh; omega, fun hne => hd hne, h3⟩
    obtain ⟨v', w2, happ, hv2, hc2⟩ := ints_push hvl n (by omega)
    have hl1 := HR.out.lt
    have hR2 := (HR.out.chg (Chg.refl [] wx).drew (by simp) (by simp)).chg hc2 (by simp) (by simp)
    have CT := Lib.hid (RI.push_ok w2 p g N fr (ints l) n hR2 (by rw [hil]; omega))
    have hX2 := hX.drew.chg hc2 (by simp)
    have hxd : wx.drew.cell? ⟨w.heap.size, 1, none⟩ = some (.int .i64 n) := x1
    have hx2 : w2.cell? ⟨w.heap.size, 1, none⟩ = some (.int .i64 n) := hX2.two.2.1
    have hpl : wx.drew.heap.size = wx.heap.size := rfl
    have hv3 : IntS (fun b => b ≠ p ∧ b ≠ g) w2 v' (l ++ [n]) := hv2.mono (fun b _ hs => by
      have h1 := hl1.1
      have h2 := hl1.2
      rw [hpl] at hs
      exact ⟨by omega, by omega⟩)
    have hxw : w.heap.size < wx.drew.heap.size := hX.lt
    have e4 : wx.drew.alloc (.cells #[.int .i64 n] 3) = (wx.alloc (.cells #[.int .i64 n] 3)).drew := rfl
    rw [e4] at happ
    have HXL : Hid (w.heap.size < w2.heap.size ∧ w.heap.size ∉ [p, g]) := Lib.hid ⟨Nat.lt_of_lt_of_le hxw hc2.size, by have h1 := h.lt; simp; omega⟩
    have HAP := Lib.hid happ
    have HV3 := Lib.hid hv3
    have HC2 := Lib.hid hc2
    have KK : ∀ o, (wx.drew.alloc o).cell? ⟨w.heap.size, 1, none⟩ = some (.int .i64 n) := fun o => (((Chg.refl [] wx.drew).alloc o).cell (p := ⟨w.heap.size, 1, none⟩) hxw (by simp)).trans hxd
    have HKK := Lib.hid KK
    clear h hv hX hil hk hvl happ hv2 hc2 hR2 hX2 hv3 KK hcx e4 hwx hpl
    go_enter Try.func17, Try.ntmps17
    go_upto_region 18 with (fail)
    rw [← HX.out]
    refine wp_region_phase 15 (fun w' => w'.cell? ⟨w.heap.size, 1, none⟩ = some (.int .i64 n)) (by kernel_rfl) ?_
    refine wpAnyP_with (by exact hxd) (fun hSw => ?_)
    refine wpAnyP_take 0 [] (v := ?_) rfl (by kernel_rfl) (fun _ _ _ h => h) (by assumption) (Or.inl ⟨by rfl, ?_⟩) ?_
    rotate_left
    · (intro w hSw; (try dsimp only at hSw); go_simp; try with_reducible rfl)
    simp only [List.getElem_toArray, List.getElem_cons_succ, List.getElem_cons_zero, Act.put, List.setIfInBounds_toArray, List.set_cons_zero, List.set_cons_succ]
    refine wpAnyP_take 1 [] (v := ?_) rfl (by kernel_rfl) (fun _ _ _ h => h) (by assumption) (Or.inl ⟨by rfl, ?_⟩) ?_
    rotate_left
    · (intro w hSw; (try dsimp only at hSw); go_simp; try with_reducible rfl)
    simp only [List.getElem_toArray, List.getElem_cons_succ, List.getElem_cons_zero, Act.put, List.setIfInBounds_toArray, List.set_cons_zero, List.set_cons_succ]
    refine wpAnyP_take 2 [] (v := ?_) rfl (by kernel_rfl) (fun _ _ _ h => h) (by assumption) (Or.inl ⟨by rfl, ?_⟩) ?_
    rotate_left
    · (intro w hSw; (try dsimp only at hSw); go_simp; try with_reducible rfl)
    simp only [List.getElem_toArray, List.getElem_cons_succ, List.getElem_cons_zero, Act.put, List.setIfInBounds_toArray, List.set_cons_zero, List.set_cons_succ]
    refine wpAnyP_take 3 [] (v := ?_) rfl (by kernel_rfl) (fun _ _ _ h => h) (by assumption) (Or.inl ⟨by rfl, ?_⟩) ?_
    rotate_left
    · (intro w hSw; (try dsimp only at hSw); go_simp; try with_reducible rfl)
    simp only [List.getElem_toArray, List.getElem_cons_succ, List.getElem_cons_zero, Act.put, List.setIfInBounds_toArray, List.set_cons_zero, List.set_cons_succ]
    refine wpAnyP_take 4 [] (v := ?_) rfl (by kernel_rfl) (fun _ _ _ h => h) (by assumption) (Or.inl ⟨by rfl, ?_⟩) ?_
    rotate_left
    · (intro w hSw; (try dsimp only at hSw); go_simp; try with_reducible rfl)
    simp only [List.getElem_toArray, List.getElem_cons_succ, List.getElem_cons_zero, Act.put, List.setIfInBounds_toArray, List.set_cons_zero, List.set_cons_succ]
    refine wpAnyP_take 5 [] (v := ?_) rfl (by kernel_rfl) (fun _ _ _ h => h) (by assumption) (Or.inl ⟨by rfl, ?_⟩) ?_
    rotate_left
    · (intro w hSw; (try dsimp only at hSw); go_simp; try with_reducible rfl)
    simp only [List.getElem_toArray, List.getElem_cons_succ, List.getElem_cons_zero, Act.put, List.setIfInBounds_toArray, List.set_cons_zero, List.set_cons_succ]
    refine wpAnyP_take 6 [] (v := ?_) rfl (by kernel_rfl) (fun _ _ _ h => h) (by assumption) (Or.inl ⟨by rfl, ?_⟩) ?_
    rotate_left
    · (intro w hSw; (try dsimp only at hSw); go_simp; try with_reducible rfl)
    simp only [List.getElem_toArray, List.getElem_cons_succ, List.getElem_cons_zero, Act.put, List.setIfInBounds_toArray, List.set_cons_zero, List.set_cons_succ]
    refine wpAnyP_take 7 [] (v := ?_) rfl (by kernel_rfl) (fun _ _ _ h => h) (by assumption) (Or.inl ⟨by rfl, ?_⟩) ?_
    rotate_left
    · (intro w hSw; (try dsimp only at hSw); go_simp; try with_reducible rfl)
    simp only [List.getElem_toArray, List.getElem_cons_succ, List.getElem_cons_zero, Act.put, List.setIfInBounds_toArray, List.set_cons_zero, List.set_cons_succ]
    refine wpAnyP_take 10 [] (v := ?_) rfl (by kernel_rfl) (fun _ _ _ h => h) (by assumption) (Or.inl ⟨by rfl, ?_⟩) ?_
    rotate_left
    · (intro w hSw; (try dsimp only at hSw); go_simp; try with_reducible rfl)
    simp only [List.getElem_toArray, List.getElem_cons_succ, List.getElem_cons_zero, Act.put, List.setIfInBounds_toArray, List.set_cons_zero, List.set_cons_succ]
    refine wpAnyP_take 11 [] (v := ?_) rfl (by kernel_rfl) (fun _ _ _ h => h) (by assumption) (Or.inl ⟨by rfl, ?_⟩) ?_
    rotate_left
    · (intro w hSw; (try dsimp only at hSw); go_simp; try with_reducible rfl)
    simp only [List.getElem_toArray, List.getElem_cons_succ, List.getElem_cons_zero, Act.put, List.setIfInBounds_toArray, List.set_cons_zero, List.set_cons_succ]
    refine wpAnyP_take 12 [] (v := ?_) rfl (by kernel_rfl) (fun _ _ _ h => h) (by assumption) (Or.inl ⟨by rfl, ?_⟩) ?_
    rotate_left
    · (intro w hSw; (try dsimp only at hSw); go_simp; try with_reducible rfl)
    simp only [List.getElem_toArray, List.getElem_cons_succ, List.getElem_cons_zero, Act.put, List.setIfInBounds_toArray, List.set_cons_zero, List.set_cons_succ]
    refine wpAnyP_one 8 rfl (by kernel_rfl) (fun K hK => ?_)
    rw [if_pos (by rfl)]
    go_wp2_with (fail)
    refine hold_with (by (try dsimp only at hSw); exact HKK.out _) (fun hSn => ?_)
    clear hSw; have hSw := hSn; clear hSn
    refine wpAnyP_one 9 rfl (by kernel_rfl) (fun K hK => ?_)
    rw [if_pos (by rfl)]
    simp only [List.getElem_toArray, List.getElem_cons_succ, List.getElem_cons_zero, Act.put, List.setIfInBounds_toArray, List.set_cons_zero, List.set_cons_succ]
    (refine wp_app_eq _ _ 23 rfl rfl rfl HAP.out ?_; go_wp2_with (fail))
    refine hold_with (by (try dsimp only at hSw); exact hx2) (fun hSn => ?_)
    clear hSw; have hSw := hSn; clear hSn
    refine wpAnyP_one 13 rfl (by kernel_rfl) (fun K hK => ?_)
    rw [if_pos (by rfl)]
    go_wp2_with ((refine CT.out.mono ?_; rintro e w3 ⟨rfl, hr3, hc3⟩; have z13 : w3.cell? ⟨w.heap.size, 1, none⟩ = some (.int .i64 n) := (hc3.cell (p := ⟨w.heap.size, 1, none⟩) HXL.out.1 HXL.out.2).trans hx2; have HR3 := Lib.hid hr3; have HC3 := Lib.hid hc3; clear hr3 hc3))
    refine hold_with (by (try dsimp only at hSw); exact z13) (fun hSn => ?_)
    clear hSw; have hSw := hSn; clear hSn
    refine wpAnyP_one 14 rfl (by kernel_rfl) (fun K hK => ?_)
    rw [if_pos (by rfl)]
    go_wp2_with (fail)
    refine hold_with (by (try dsimp only at hSw); exact hSw) (fun hSn => ?_)
    clear hSw; have hSw := hSn; clear hSn
    refine wpAnyP_one 15 rfl (by kernel_rfl) (fun K hK => ?_)
    rw [if_pos (by rfl)]
    go_wp2_with (fail)
    refine ⟨fun hz => (by simp at hz), ?_⟩
    refine wpAnyP_done (by kernel_rfl) ?_ _
    skip
    clear hSw hxd hx2 z13 CT
    go_wp2_with fail
    go_ret2
    refine ⟨_, rfl, ⟨fr, ?_⟩, HV3.out.pg HC3.out, ((((HC.out.trans (Chg.refl [] wx).drew).trans HC2.out).mono (by simp)).trans HC3.out)⟩
    have h := HR3.out
    simpa [ints] using h
end Go.Proofs.Ytkmjpphmciaklaa
