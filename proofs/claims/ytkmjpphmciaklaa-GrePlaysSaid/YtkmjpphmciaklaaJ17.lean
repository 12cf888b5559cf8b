/- The reference's sender (catwalkref30): rows that are read; how it lies in memory; New, Clear, Push. The reference's sender (catwalkref30): Late. -/
import Derived.Test.YtkmjpphmciaklaaJ15
import Derived.Test.YtkmjpphmciaklaaJ16
namespace Go.Proofs.Ytkmjpphmciaklaa
open Go.RowKit
set_option linter.unusedVariables false
set_option linter.unusedSimpArgs false
attribute [local go_sem ↓] Go.wp_at_zero Go.wp_at_succ

/-- A slice value that reads as this row, in a block of element type E, anywhere in it. -/
def View (E sz : Nat) (w : World) (v : Value) (xs : List (List Value)) : Prop :=
  Flat sz xs ∧ ∃ A c, v = .slice A xs.length c ∧ xs.length ≤ c ∧ (A = none → c = 0) ∧ (∀ a, A = some a → a.spot = none ∧ IsT w a.block E) ∧
    (xs ≠ [] → ∃ g o, A = some ⟨g, o, none⟩ ∧ ∀ j u, xs.flatten[j]? = some u → w.cell? ⟨g, o + j, none⟩ = some u)
theorem IsT.lt {w : World} {x T : Nat} (h : IsT w x T) : x < w.heap.size := by
  obtain ⟨cs, fz, e⟩ := h
  exact (Array.getElem?_eq_some_iff.1 e).1
section
variable {E sz : Nat} {w w' : World} {v : Value} {xs : List (List Value)}
theorem View.nil (E sz : Nat) (w : World) : View E sz w (.slice none 0 0) [] := ⟨Flat.nil _, none, 0, rfl, Nat.le_refl _, fun _ => rfl, fun a h => by (cases h), fun h => absurd rfl h⟩
theorem View.lt (h : View E sz w v xs) : ∀ b, v.ownBlock = some b → b < w.heap.size ∧ IsT w b E := fun b hb => by
  obtain ⟨_, A, c, rfl, _, _, h3, _⟩ := h
  cases A with
  | none => simp [Value.ownBlock] at hb
  | some a =>
    simp [Value.ownBlock] at hb
    subst hb
    exact ⟨(h3 a rfl).2.lt, (h3 a rfl).2⟩
theorem View.chg {F : List Nat} (h : View E sz w v xs) (c : Chg F w w') (hF : ∀ x ∈ F, v.ownBlock ≠ some x) : View E sz w' v xs := by
  obtain ⟨h0, A, n, rfl, h1, h2, h3, h4⟩ := h
  refine ⟨h0, A, n, rfl, h1, h2, fun a ha => ?_, fun hne => ?_⟩
  · obtain ⟨k1, cs, fz, k2⟩ := h3 a ha
    refine ⟨k1, cs, fz, ?_⟩
    rw [c.block a.block (Array.getElem?_eq_some_iff.1 k2).1 (fun hm => hF _ hm (by rw [ha]; rfl))]
    exact k2
  · obtain ⟨g, o, rfl, hc⟩ := h4 hne
    exact ⟨g, o, rfl, fun j u hu => (c.cell (p := ⟨g, o + j, none⟩) (h3 _ rfl).2.lt (fun hm => hF _ hm rfl)).trans (hc j u hu)⟩
theorem View.keep (h : View E sz w v xs) (c : Chg [] w w') : View E sz w' v xs := h.chg c (by simp)
theorem View.ne {b T : Nat} {cs : List Value} (h : View E sz w v xs) (hA : At w b T cs) (hT : T ≠ E) : v.ownBlock ≠ some b := fun e => hA.isT.ne (h.lt b e).2 hT rfl
theorem Own.view {base : Nat} (h : Own E sz w base v xs) : View E sz w v xs := by
  obtain ⟨a, c, hv⟩ := h.slice
  subst hv
  refine ⟨h.1, ?_⟩
  rcases h.2.2 with ⟨he, h0⟩ | ⟨g, cap, cur, he, hg, hb, hn, _⟩
  · rw [he]
    obtain rfl := List.eq_nil_of_length_eq_zero h0
    exact ⟨none, 0, rfl, Nat.le_refl _, fun _ => rfl, fun a h => by (cases h), fun h => absurd rfl h⟩
  · rw [he]
    simp only [Value.slice.injEq] at he
    obtain ⟨rfl, -, rfl⟩ := he
    refine ⟨_, _, rfl, hn, fun e => by (cases e), fun a ha => ?_, fun hne => ?_⟩
    · cases ha
      exact ⟨rfl, _, _, hb⟩
    · obtain ⟨g', e', hc⟩ := h.cells rfl (List.length_pos_iff.2 hne)
      simp only [Option.some.injEq, Addr.mk.injEq] at e'
      obtain ⟨rfl, -⟩ := e'
      exact ⟨g, 0, rfl, fun j u hu => by rw [Nat.zero_add]; exact hc j u hu⟩
theorem View.form (h : View E sz w v xs) : ∃ A c, v = .slice A xs.length c ∧ xs.length ≤ c ∧ Flat sz xs := by
  obtain ⟨h0, A, n, rfl, h1, _⟩ := h
  exact ⟨A, n, rfl, h1, h0⟩
theorem View.cells {A : Option Addr} {n c : Nat} (h : View E sz w (.slice A n c) xs) (hn : 0 < xs.length) : ∃ g o, A = some ⟨g, o, none⟩ ∧ IsT w g E ∧ ∀ j u, xs.flatten[j]? = some u → w.cell? ⟨g, o + j, none⟩ = some u := by
  obtain ⟨h0, A', n', e, h1, h2, h3, h4⟩ := h
  simp only [Value.slice.injEq] at e
  obtain ⟨rfl, -, -⟩ := e
  obtain ⟨g, o, rfl, hc⟩ := h4 (List.length_pos_iff.1 hn)
  exact ⟨g, o, rfl, (h3 _ rfl).2, hc⟩
/-- The first k go. -/
theorem View.drop {g o n c k : Nat} (h : View E sz w (.slice (some ⟨g, o, none⟩) n c) xs) (hk : k ≤ xs.length) : View E sz w (.slice (if c = k then some ⟨g, o, none⟩ else some ⟨g, o + k * sz, none⟩) (xs.length - k) (c - k)) (xs.drop k) := by
  obtain ⟨h0, A', n', e, h1, h2, h3, h4⟩ := h
  simp only [Value.slice.injEq] at e
  obtain ⟨rfl, rfl, rfl⟩ := e
  refine ⟨h0.sub fun y hy => List.mem_of_mem_drop hy, _, _, by rw [List.length_drop], by rw [List.length_drop]; omega, fun e => ?_, fun a ha => ?_, fun hne => ?_⟩
  · split at e <;> cases e
  · have hT := (h3 _ rfl).2
    split at ha <;> (cases ha; exact ⟨rfl, hT⟩)
  · have hl : k < xs.length := by
      have := List.length_pos_iff.2 hne
      rw [List.length_drop] at this
      omega
    obtain ⟨g', o', e', hc⟩ := h4 (fun e => by rw [e] at hl; simp at hl)
    simp only [Option.some.injEq, Addr.mk.injEq] at e'
    obtain ⟨rfl, rfl, -⟩ := e'
    rw [if_neg (by omega)]
    refine ⟨g, o + k * sz, rfl, fun j u hu => ?_⟩
    rw [h0.drop k, List.getElem?_drop] at hu
    have := hc _ u hu
    rw [Nat.add_assoc]
    exact this
end
theorem Try.info166 : (Try.prog.info? 166).map (fun i => (i.zero, i.size, i.bytes)) = some (some (.agg #[.int .u32 0, .int .i64 0]), 2, 16) := by kernel_rfl
theorem elem166 : Elem Try.prog 147 166 2 16 (.agg #[.int .u32 0, .int .i64 0]) := ⟨Try.underlying147, Try.info166, rfl, by decide, by decide⟩

/-- Values as rows of one cell. -/
def ones (l : List Value) : List (List Value) := l.map (fun u => [u])
theorem ones_len (l : List Value) : (ones l).length = l.length := by simp [ones]
theorem fl_flat (l : List (Int × Int)) : Flat 2 (fl l) := fun x hx => by
  simp only [fl, List.mem_map] at hx
  obtain ⟨f, _, rfl⟩ := hx
  exact ⟨rfl, fun u hu => by simp at hu; rcases hu with rfl | rfl <;> rfl⟩
/-- The reference's sender lies at q. -/
structure RSAt (w : World) (q : Nat) (vw va : Value) (x : Snd Value) : Prop where
  str : At w q 153 [.int .u32 x.nx, vw, va, .int .i64 x.s, .int .i64 x.a, .int .i64 x.mo, .int .i64 x.m, .int .i64 x.d, .int .i64 x.lost]
  wait : View 29 1 w vw (ones x.wait)
  air : View 166 2 w va (fl x.air)
section
variable {w w' : World} {q : Nat} {vw va : Value} {x : Snd Value}
/-- All that it reads and writes. -/
def rsF (q : Nat) (vw va : Value) : List Nat := q :: (vw.ownBlock.toList ++ va.ownBlock.toList)
theorem RSAt.lt (h : RSAt w q vw va x) : ∀ b ∈ rsF q vw va, b < w.heap.size := fun b hb => by
  simp only [rsF, List.mem_cons, List.mem_append] at hb
  rcases hb with rfl | hb | hb
  · exact h.str.lt
  · exact (h.wait.lt b (by simpa using hb)).1
  · exact (h.air.lt b (by simpa using hb)).1
theorem RSAt.chg {F : List Nat} (h : RSAt w q vw va x) (c : Chg F w w') (hF : ∀ b ∈ F, b ∉ rsF q vw va) : RSAt w' q vw va x :=
  ⟨h.str.chg c (fun hm => hF _ hm (by simp [rsF])), h.wait.chg c (fun b hb e => hF b hb (by simp [rsF, e])), h.air.chg c (fun b hb e => hF b hb (by simp [rsF, e]))⟩
theorem RSAt.keep (h : RSAt w q vw va x) (c : Chg [] w w') : RSAt w' q vw va x := h.chg c (by simp)
end

def NewRS (first most ticks : Int) (w : World) (e : Ending) (w' : World) : Prop :=
  ∃ q, e = .returned (.pointer (some ⟨q, 0, none⟩)) ∧ w.heap.size ≤ q ∧ RSAt w' q (.slice none 0 0) (.slice none 0 0) ⟨first, [], [], (cutZ most 1 16 + 1) / 2, 0, cutZ most 1 16, 8 * cutZ ticks 1 64, 0, 0⟩ ∧ Chg [] w w'
set_option maxRecDepth 100000 in
set_option maxHeartbeats 1000000 in
theorem rs_new (first most ticks : Int) (w : World) : Calls Try.prog 76 #[.int .u32 first, .int .i64 most, .int .i64 ticks] w (NewRS first most ticks w) := by
  go_enter Try.func76, Try.ntmps76
  go_wp2_with fail
  refine (rw_new _ _).mono ?_
  rintro e w1 ⟨rfl, hc1⟩
  have HC1 := Lib.hid hc1
  clear hc1
  go_wp2_with fail
  refine (rrtt_new _ _).mono ?_
  rintro e w2 ⟨rfl, hc2⟩
  have HC2 := Lib.hid (HC1.out.trans hc2)
  clear hc2
  go_wp2_with fail
  go_ret
  exact ⟨w2.heap.size, rfl, HC2.out.size, ⟨At.new w2 153 [_, _, _, _, _, _, _, _, _], View.nil _ _ _, View.nil _ _ _⟩, HC2.out.alloc _⟩

def ClearRS (q : Nat) (va : Value) (x : Snd Value) (w : World) (e : Ending) (w' : World) : Prop :=
  e = .returned (.int .i64 x.wait.length) ∧ RSAt w' q (.slice none 0 0) va { x with wait := [] } ∧ Chg [q] w w'
set_option maxRecDepth 100000 in
set_option maxHeartbeats 1000000 in
theorem rs_clear (w : World) (q : Nat) (vw va : Value) (x : Snd Value) (h : RSAt w q vw va x) :
    Calls Try.prog 98 #[.pointer (some ⟨q, 0, none⟩)] w (ClearRS q va x w) := by
  obtain ⟨A, c, rfl, hc, _⟩ := h.wait.form
  obtain ⟨c0, c1, _⟩ := h.str.nine
  have f1 := h.str.frozen 1
  have hcs : ∀ v, Chg [q] w (w.setCell ⟨q, 1, none⟩ v) := fun v => (Chg.refl _ _).set (by simp) _
  have hfin : ClearRS q va x w (.returned (.int .i64 x.wait.length)) (w.setCell ⟨q, 1, none⟩ (.slice none 0 0)) :=
    ⟨rfl, ⟨h.str.set 1 _, View.nil _ _ _, h.air.chg (hcs _) (by simp; exact h.air.ne h.str (by decide))⟩, hcs _⟩
  have HF := Lib.hid hfin
  rw [ones_len] at c1
  clear h hfin hcs
  go_enter Try.func98, Try.ntmps98
  go_wp2_with fail
  go_ret
  exact HF.out

def PushRS (q : Nat) (vw va : Value) (x : Snd Value) (v : Value) (w : World) (e : Ending) (w' : World) : Prop :=
  e = .returned (.bool (decide (x.wait.length < 16))) ∧ ∃ vw', RSAt w' q vw' va (x.push v) ∧ Chg [q] w w' ∧ (vw' = vw ∨ ∀ b, vw'.ownBlock = some b → w.heap.size ≤ b)
set_option maxRecDepth 100000 in
set_option maxHeartbeats 1000000 in
theorem rs_push (w : World) (q : Nat) (vw va : Value) (x : Snd Value) (a : Option Addr) (n c : Nat) (h : RSAt w q vw va x) (hl : x.wait.length ≤ 16) :
    Calls Try.prog 105 #[.pointer (some ⟨q, 0, none⟩), .slice a n c] w (PushRS q vw va x (.slice a n c) w) := by
  obtain ⟨A, cc, rfl, hcc, _⟩ := h.wait.form
  have H := Lib.hid h
  obtain ⟨c0, c1, _⟩ := h.str.nine
  by_cases hs : x.wait.length < 16
  · obtain ⟨v1, w1, r1, r2, r3, r4⟩ := own_app elem29 63 (Own.nil 29 1 w w.heap.size) (Nat.le_refl _) (A := A) (m := x.wait.length) (c := cc) (news := ones x.wait) (ones_len _) h.wait.1 (fun hp => by
      obtain ⟨g, o, e, _, hc⟩ := h.wait.cells (by rw [ones_len]; exact hp)
      exact ⟨g, o, e, hc⟩) (by simp; omega)
    have hc1 : Chg [] w w1 := r3
    obtain ⟨v2, w2, p1, p2, p3, p4⟩ := own_push elem29 63 r2 hc1.size (x := [.slice a n c]) (c := 1) rfl (by intro u hu; simp at hu; subst hu; rfl) (by simp [ones_len]; omega)
    have hc2 : Chg [] w w2 := hc1.trans' p3 (fun b hb => .inr (r2.lt b (by simpa using hb)).1)
    have hA2 := h.str.chg hc2 (by simp)
    have f1 := hA2.frozen 1
    have d1 := hA2.nine.2.1
    obtain ⟨a2, n2, hv2⟩ := p2.slice
    have hfin : RSAt (w2.setCell ⟨q, 1, none⟩ v2) q v2 va (x.push (.slice a n c)) ∧ Chg [q] w (w2.setCell ⟨q, 1, none⟩ v2) ∧ (v2 = .slice A (ones x.wait).length cc ∨ ∀ b, v2.ownBlock = some b → w.heap.size ≤ b) := by
      have hcs : Chg [q] w2 (w2.setCell ⟨q, 1, none⟩ v2) := (Chg.refl _ _).set (by simp) _
      have hp : x.push (.slice a n c) = { x with wait := x.wait ++ [.slice a n c] } := by unfold Snd.push; rw [if_pos hs]
      refine ⟨?_, (hc2.mono (by simp)).trans hcs, .inr fun b hb => (p2.lt b hb).1⟩
      rw [hp]
      refine ⟨hA2.set 1 _, ?_, (h.air.keep hc2).chg hcs (by simp; exact (h.air.keep hc2).ne hA2 (by decide))⟩
      have hv := p2.view.chg hcs (by simp; exact p2.ne hA2 (by decide))
      simpa [ones] using hv
    have HF := Lib.hid hfin
    have HD := Lib.hid (decide_eq_true hs)
    obtain ⟨k2, hk2⟩ : ∃ k, k = ([] ++ ones x.wait ++ [[Value.slice a n c]]).length := ⟨_, rfl⟩
    rw [← hk2] at hv2
    subst hv2
    obtain ⟨a1, n1, hv1⟩ := r2.slice
    obtain ⟨k1, hk1⟩ : ∃ k, k = ([] ++ ones x.wait).length := ⟨_, rfl⟩
    rw [← hk1] at hv1
    subst hv1
    have hA1 := h.str.chg hc1 (by simp)
    have R1 := Lib.hid r1
    have P1 := Lib.hid p1
    rw [ones_len] at c1
    clear hfin h r1 r2 r3 r4 p1 p2 p3 p4 hc1 hc2 hk1 hk2
    go_enter Try.func105, Try.ntmps105
    go_upto_region 4 with (fail)
    go_upto_region 5 with (at_builtin; refine wpList_app_eq rfl _ _ 63 rfl rfl rfl R1.out ?_)
    go_wp2_with (at_builtin; refine wpList_app_eq rfl _ _ 63 rfl rfl rfl P1.out ?_)
    go_ret
    exact ⟨by rw [HD.out]; rfl, _, HF.out⟩
  · have hp : x.push (.slice a n c) = x := by unfold Snd.push; rw [if_neg hs]
    have HD := Lib.hid (decide_eq_false hs)
    have HP := Lib.hid hp
    rw [ones_len] at c1
    have hle : (16 : Int) ≤ (x.wait.length : Int) := by omega
    clear h hp
    go_enter Try.func105, Try.ntmps105
    go_wp2_with fail
    go_ret
    exact ⟨by rw [HD.out]; rfl, _, by rw [HP.out]; exact H.out, Chg.refl _ _, .inl rfl⟩
end Go.Proofs.Ytkmjpphmciaklaa
namespace Go.Proofs.Ytkmjpphmciaklaa
open Go.RowKit
set_option linter.unusedVariables false
set_option linter.unusedSimpArgs false
attribute [local go_sem ↓] Go.wp_at_zero Go.wp_at_succ

def LateRS (q : Nat) (vw va : Value) (x : Snd Value) (now : Int) (w : World) (e : Ending) (w' : World) : Prop :=
  e = .returned (.int .i64 (x.late now).2) ∧ ∃ va', RSAt w' q vw va' (x.late now).1 ∧ Chg [q] w w' ∧ (va' = va ∨ va' = .slice none 0 0)
set_option maxRecDepth 100000 in
set_option maxHeartbeats 1000000 in
theorem rs_late (w : World) (q : Nat) (vw va : Value) (x : Snd Value) (now : Int) (h : RSAt w q vw va x) (ok : x.Ok) (hn0 : -1000000000 ≤ now) (hn1 : now ≤ 1000000000) :
    Calls Try.prog 103 #[.pointer (some ⟨q, 0, none⟩), .int .i64 now] w (LateRS q vw va x now w) := by
  obtain ⟨A, vc, rfl, hvc, _⟩ := h.air.form
  rw [fl_len] at h hvc
  have H := Lib.hid h
  have OK := Lib.hid ok
  rw [fl_len]
  have hA := h.str
  obtain ⟨c0, c1, c2, c3, c4, c5, c6, c7, c8⟩ := hA.nine
  have HA := Lib.hid hA
  have hm0 := ok.m0
  have hm1 := ok.m1
  have hd0 := ok.d0
  have hd1 := ok.d1
  have hl0 := ok.l0
  have hl1 := ok.l1
  have ha16 := ok.air
  have HATS := Lib.hid ok.ats
  have HAIR := Lib.hid h.air
  clear h ok hA
  cases hair : x.air with
  | nil =>
    have hlt : x.late now = (x, 0) := by unfold Snd.late; rw [hair]
    have hl : x.air.length = 0 := by rw [hair]; rfl
    have hfin : ∀ n, LateRS q vw (.slice A x.air.length vc) x now w (.returned (.int .i64 0)) (w.drewN n) := fun n => by
      refine ⟨?_, _, ?_, (Chg.refl _ _).drewN n, .inl rfl⟩
      · rw [hlt]; rfl
      · rw [hlt]; exact H.out.keep ((Chg.refl _ _).drewN n)
    rw [hl] at c2 hfin
    have HF := Lib.hid hfin
    clear hlt hl hfin hair H HA HATS HAIR OK
    go_enter Try.func103, Try.ntmps103
    go_wp2_with fail
    go_quiet (fail)
    go_wp2_with fail
    go_ret
    exact HF.out _
  | cons f l =>
    have hl : x.air.length = l.length + 1 := by rw [hair]; rfl
    obtain ⟨f1, f2⟩ := f
    have hf := HATS.out (f1, f2) (by rw [hair]; simp)
    simp only at hf
    obtain ⟨hf0, hf1⟩ := hf
    obtain ⟨ga, oa, rfl, hgT, hcell⟩ := HAIR.out.cells (by rw [fl_len]; omega)
    have hgl := hgT.lt
    have ct : w.cell? ⟨ga, oa + 1, none⟩ = some (.int .i64 f2) := hcell 1 _ (by rw [hair]; rfl)
    have hneq : ga ≠ q := fun e => HA.out.isT.ne hgT (by decide) e.symm
    have hl16 : l.length ≤ 15 := by omega
    rw [hl] at c2 H HA HAIR hvc
    rw [List.length_cons]
    have HL := Lib.hid hl
    have HX := Lib.hid hair
    have hz0 : (((l.length : Nat) : Int) + 1 == 0) = false := beq_eq_false_iff_ne.2 (by omega)
    have hw1 : IntKind.i64.wrap (now - f2) = now - f2 := IntWalk.i64_in _ (by omega)
    have hz1 : (0 : Int) < ((l.length + 1 : Nat) : Int) := by omega
    clear hair hl hcell HATS hgT
    go_enter Try.func103, Try.ntmps103
    go_upto_region 2 with (fail)
    refine wp_region_phase 18 (fun w' => w'.cell? ⟨q, 2, none⟩ = some (.slice (some ⟨ga, oa, none⟩) (l.length + 1) vc) ∧ w'.cell? ⟨q, 6, none⟩ = some (.int .i64 x.m) ∧ w'.cell? ⟨q, 7, none⟩ = some (.int .i64 x.d) ∧ w'.cell? ⟨ga, oa + 1, none⟩ = some (.int .i64 f2)) (by kernel_rfl) ?_
    refine wpAnyP_with (by exact ⟨c2, c6, c7, ct⟩) (fun hSw => ?_)
    refine wpAnyP_take 0 [2, 1] (v := ?_) rfl (by kernel_rfl) (fun _ _ _ h => h) (by assumption) (Or.inl ⟨by rfl, ?_⟩) ?_
    rotate_left
    · (intro w hSw; (try dsimp only at hSw); obtain ⟨y1, y6, y7, yt⟩ := hSw; go_simp; try with_reducible rfl)
    simp only [List.getElem_toArray, List.getElem_cons_succ, List.getElem_cons_zero, Act.put, List.setIfInBounds_toArray, List.set_cons_zero, List.set_cons_succ]
    refine wpAnyP_take 1 [2] (v := ?_) rfl (by kernel_rfl) (fun _ _ _ h => h) (by assumption) (Or.inl ⟨by rfl, ?_⟩) ?_
    rotate_left
    · (intro w hSw; (try dsimp only at hSw); obtain ⟨y1, y6, y7, yt⟩ := hSw; go_simp; try with_reducible rfl)
    simp only [List.getElem_toArray, List.getElem_cons_succ, List.getElem_cons_zero, Act.put, List.setIfInBounds_toArray, List.set_cons_zero, List.set_cons_succ]
    refine wpAnyP_take 2 [] (v := ?_) rfl (by kernel_rfl) (fun _ _ _ h => h) (by assumption) (Or.inl ⟨by rfl, ?_⟩) ?_
    rotate_left
    · (intro w hSw; (try dsimp only at hSw); obtain ⟨y1, y6, y7, yt⟩ := hSw; go_simp; try with_reducible rfl)
    simp only [List.getElem_toArray, List.getElem_cons_succ, List.getElem_cons_zero, Act.put, List.setIfInBounds_toArray, List.set_cons_zero, List.set_cons_succ]
    refine wpAnyP_take 3 [17, 11] (v := ?_) rfl (by kernel_rfl) (fun _ _ _ h => h) (by assumption) (Or.inl ⟨by rfl, ?_⟩) ?_
    rotate_left
    · (intro w hSw; (try dsimp only at hSw); obtain ⟨y1, y6, y7, yt⟩ := hSw; go_simp; try with_reducible rfl)
    simp only [List.getElem_toArray, List.getElem_cons_succ, List.getElem_cons_zero, Act.put, List.setIfInBounds_toArray, List.set_cons_zero, List.set_cons_succ]
    refine wpAnyP_take 4 [17, 11, 10, 9, 8, 7, 6, 5] (v := ?_) rfl (by kernel_rfl) (fun _ _ _ h => h) (by assumption) (Or.inl ⟨by rfl, ?_⟩) ?_
    rotate_left
    · (intro w hSw; (try dsimp only at hSw); obtain ⟨y1, y6, y7, yt⟩ := hSw; go_simp; try with_reducible rfl)
    simp only [List.getElem_toArray, List.getElem_cons_succ, List.getElem_cons_zero, Act.put, List.setIfInBounds_toArray, List.set_cons_zero, List.set_cons_succ]
    refine wpAnyP_take 5 [17, 11, 10, 9, 8, 7, 6] (v := ?_) rfl (by kernel_rfl) (fun _ _ _ h => h) (by assumption) (Or.inl ⟨by rfl, ?_⟩) ?_
    rotate_left
    · (intro w hSw; (try dsimp only at hSw); obtain ⟨y1, y6, y7, yt⟩ := hSw; go_simp; try with_reducible rfl)
    simp only [List.getElem_toArray, List.getElem_cons_succ, List.getElem_cons_zero, Act.put, List.setIfInBounds_toArray, List.set_cons_zero, List.set_cons_succ]
    refine wpAnyP_take 6 [17, 11, 10, 9, 8, 7] (v := ?_) rfl (by kernel_rfl) (fun _ _ _ h => h) (by assumption) (Or.inl ⟨by rfl, ?_⟩) ?_
    rotate_left
    · (intro w hSw; (try dsimp only at hSw); obtain ⟨y1, y6, y7, yt⟩ := hSw; go_simp; try with_reducible rfl)
    simp only [List.getElem_toArray, List.getElem_cons_succ, List.getElem_cons_zero, Act.put, List.setIfInBounds_toArray, List.set_cons_zero, List.set_cons_succ]
    refine wpAnyP_take 7 [17, 11, 10, 9, 8] (v := ?_) rfl (by kernel_rfl) (fun _ _ _ h => h) (by assumption) (Or.inl ⟨by rfl, ?_⟩) ?_
    rotate_left
    · (intro w hSw; (try dsimp only at hSw); obtain ⟨y1, y6, y7, yt⟩ := hSw; go_simp; try with_reducible rfl)
    simp only [List.getElem_toArray, List.getElem_cons_succ, List.getElem_cons_zero, Act.put, List.setIfInBounds_toArray, List.set_cons_zero, List.set_cons_succ]
    refine wpAnyP_take 8 [17, 11, 10, 9] (v := ?_) rfl (by kernel_rfl) (fun _ _ _ h => h) (by assumption) (Or.inl ⟨by rfl, ?_⟩) ?_
    rotate_left
    · (intro w hSw; (try dsimp only at hSw); obtain ⟨y1, y6, y7, yt⟩ := hSw; go_simp; try with_reducible rfl)
    simp only [List.getElem_toArray, List.getElem_cons_succ, List.getElem_cons_zero, Act.put, List.setIfInBounds_toArray, List.set_cons_zero, List.set_cons_succ]
    refine wpAnyP_take 9 [17, 11, 10] (v := ?_) rfl (by kernel_rfl) (fun _ _ _ h => h) (by assumption) (Or.inl ⟨by rfl, ?_⟩) ?_
    rotate_left
    · (intro w hSw; (try dsimp only at hSw); obtain ⟨y1, y6, y7, yt⟩ := hSw; go_simp; try with_reducible rfl)
    simp only [List.getElem_toArray, List.getElem_cons_succ, List.getElem_cons_zero, Act.put, List.setIfInBounds_toArray, List.set_cons_zero, List.set_cons_succ]
    refine wpAnyP_take 10 [17, 11] (v := ?_) rfl (by kernel_rfl) (fun _ _ _ h => h) (by assumption) (Or.inl ⟨by rfl, ?_⟩) ?_
    rotate_left
    · (intro w hSw; (try dsimp only at hSw); obtain ⟨y1, y6, y7, yt⟩ := hSw; go_simp; try with_reducible rfl)
    simp only [List.getElem_toArray, List.getElem_cons_succ, List.getElem_cons_zero, Act.put, List.setIfInBounds_toArray, List.set_cons_zero, List.set_cons_succ]
    refine wpAnyP_take 11 [17] (v := ?_) rfl (by kernel_rfl) (fun _ _ _ h => h) (by assumption) (Or.inl ⟨by rfl, ?_⟩) ?_
    rotate_left
    · (intro w hSw; (try dsimp only at hSw); obtain ⟨y1, y6, y7, yt⟩ := hSw; go_simp; try with_reducible rfl)
    simp only [List.getElem_toArray, List.getElem_cons_succ, List.getElem_cons_zero, Act.put, List.setIfInBounds_toArray, List.set_cons_zero, List.set_cons_succ]
    refine wpAnyP_take 12 [17, 16, 15, 14, 13] (v := ?_) rfl (by kernel_rfl) (fun _ _ _ h => h) (by assumption) (Or.inl ⟨by rfl, ?_⟩) ?_
    rotate_left
    · (intro w hSw; (try dsimp only at hSw); obtain ⟨y1, y6, y7, yt⟩ := hSw; go_simp; try with_reducible rfl)
    simp only [List.getElem_toArray, List.getElem_cons_succ, List.getElem_cons_zero, Act.put, List.setIfInBounds_toArray, List.set_cons_zero, List.set_cons_succ]
    refine wpAnyP_take 13 [17, 16, 15, 14] (v := ?_) rfl (by kernel_rfl) (fun _ _ _ h => h) (by assumption) (Or.inl ⟨by rfl, ?_⟩) ?_
    rotate_left
    · (intro w hSw; (try dsimp only at hSw); obtain ⟨y1, y6, y7, yt⟩ := hSw; go_simp; try with_reducible rfl)
    simp only [List.getElem_toArray, List.getElem_cons_succ, List.getElem_cons_zero, Act.put, List.setIfInBounds_toArray, List.set_cons_zero, List.set_cons_succ]
    refine wpAnyP_take 14 [17, 16, 15] (v := ?_) rfl (by kernel_rfl) (fun _ _ _ h => h) (by assumption) (Or.inl ⟨by rfl, ?_⟩) ?_
    rotate_left
    · (intro w hSw; (try dsimp only at hSw); obtain ⟨y1, y6, y7, yt⟩ := hSw; go_simp; try with_reducible rfl)
    simp only [List.getElem_toArray, List.getElem_cons_succ, List.getElem_cons_zero, Act.put, List.setIfInBounds_toArray, List.set_cons_zero, List.set_cons_succ]
    refine wpAnyP_take 15 [17, 16] (v := ?_) rfl (by kernel_rfl) (fun _ _ _ h => h) (by assumption) (Or.inl ⟨by rfl, ?_⟩) ?_
    rotate_left
    · (intro w hSw; (try dsimp only at hSw); obtain ⟨y1, y6, y7, yt⟩ := hSw; go_simp; try with_reducible rfl)
    simp only [List.getElem_toArray, List.getElem_cons_succ, List.getElem_cons_zero, Act.put, List.setIfInBounds_toArray, List.set_cons_zero, List.set_cons_succ]
    refine wpAnyP_one 16 rfl (by kernel_rfl) (fun K hK => ?_)
    rw [if_pos (by rfl)]
    go_wp2_with ((refine (rrtt_wait x.m x.d _ hm0 hm1 hd0 hd1).mono ?_; rintro e w1 ⟨rfl, hc1⟩; have z1 := (hc1.cell (p := ⟨q, 2, none⟩) HA.out.lt (by simp)).trans c2; have z6 := (hc1.cell (p := ⟨q, 6, none⟩) HA.out.lt (by simp)).trans c6; have z7 := (hc1.cell (p := ⟨q, 7, none⟩) HA.out.lt (by simp)).trans c7; have zt := (hc1.cell (p := ⟨ga, oa + 1, none⟩) hgl (by simp)).trans ct; have HC1 : Hid (Chg [] w w1) := Lib.hid ((Chg.refl [] w).drew.trans hc1); clear hc1))
    refine hold_with (by (try dsimp only at hSw); exact ⟨z1, z6, z7, zt⟩) (fun hSn => ?_)
    clear hSw; have hSw := hSn; clear hSn
    refine wpAnyP_take 17 [] (v := ?_) rfl (by kernel_rfl) (fun _ _ _ h => h) (by assumption) (Or.inl ⟨by rfl, ?_⟩) ?_
    rotate_left
    · (intro w hSw; (try dsimp only at hSw); obtain ⟨y1, y6, y7, yt⟩ := hSw; go_simp; try with_reducible rfl)
    simp only [List.getElem_toArray, List.getElem_cons_succ, List.getElem_cons_zero, Act.put, List.setIfInBounds_toArray, List.set_cons_zero, List.set_cons_succ]
    refine wpAnyP_one 18 rfl (by kernel_rfl) (fun K hK => ?_)
    rw [if_pos (by rfl)]
    go_wp2_with (fail)
    refine ⟨fun hz => (by simp at hz), ?_⟩
    refine wpAnyP_done (by kernel_rfl) ?_ _
    skip
    clear hSw z1 z6 z7 zt hw1 c0 c1 c2 c3 c4 c5 c6 c7 c8 ct
    have hA1 := HA.out.chg HC1.out (by simp)
    obtain ⟨c0, c1, c2, c3, c4, c5, c6, c7, c8⟩ := hA1.nine
    have HA1 := Lib.hid hA1
    have g2 := hA1.frozen 2
    have g8 := hA1.frozen 8
    clear hA1
    by_cases qq : now - f2 < rwait x.m x.d
    · have hlt : x.late now = (x, 0) := by unfold Snd.late; rw [HX.out]; simp only; rw [if_pos qq]
      have hfin : LateRS q vw (.slice (some ⟨ga, oa, none⟩) (l.length + 1) vc) x now w (.returned (.int .i64 0)) w1 := by
        refine ⟨?_, _, ?_, HC1.out.mono (by simp), .inl rfl⟩
        · rw [hlt]; rfl
        · rw [hlt]; exact H.out.keep HC1.out
      have HF := Lib.hid hfin
      clear hlt hfin
      go_wp2_with fail
      go_ret
      exact HF.out
    · have hlt : x.late now = ({ x with air := [], lost := x.lost + (l.length + 1 : Nat), s := (x.s + 1) / 2, a := 0, m := lm x.m }, l.length + 1) := by
        unfold Snd.late; rw [HX.out]; simp only; rw [if_neg qq]
      have HLT := Lib.hid hlt
      clear hlt
      have hs1 : x.lost + ((l.length + 1 : Nat) : Int) ≤ 1000000100 := by omega
      have CWL := Lib.hid OK.out.win
      go_upto_region 6 with (fail)
      obtain ⟨L, hL⟩ : ∃ L, L = x.lost + ((l.length : Int) + 1) := ⟨_, rfl⟩
      obtain ⟨w5, hw5⟩ : ∃ w5, w5 = (w1.setCell ⟨q, 2, none⟩ (.slice none 0 0)).setCell ⟨q, 8, none⟩ (.int .i64 L) := ⟨_, rfl⟩
      rw [← hL, ← hw5]
      have hA5 : At w5 q 153 [.int .u32 x.nx, vw, .slice none 0 0, .int .i64 x.s, .int .i64 x.a, .int .i64 x.mo, .int .i64 x.m, .int .i64 x.d, .int .i64 L] := by
        rw [hw5]; exact (HA1.out.set 2 _).set 8 _
      have hC5 : Chg [q] w w5 := by rw [hw5]; exact ((HC1.out.mono (F' := [q]) (by simp)).set (by simp) _).set (by simp) _
      clear hw5 c0 c1 c2 c3 c4 c5 c6 c7 c8 g2 g8
      obtain ⟨c0, c1, c2, c3, c4, c5, c6, c7, c8⟩ := hA5.nine
      have HA5 := Lib.hid hA5
      have HC5 := Lib.hid hC5
      have HLL := Lib.hid hL
      clear hA5 hC5 hL
      go_wp2_with fail
      refine (rw_late x.s x.a x.mo _ CWL.out).mono ?_
      rintro e w6 ⟨rfl, hc6⟩
      have hA6 := HA5.out.chg hc6 (by simp)
      have HC6 := Lib.hid (HC5.out.trans (hc6.mono (F' := [q]) (by simp)))
      have k3 := hA6.frozen 3
      have k4 := hA6.frozen 4
      have k5 := hA6.frozen 5
      clear c0 c1 c2 c3 c4 c5 c6 c7 c8 hc6
      obtain ⟨c0, c1, c2, c3, c4, c5, c6, c7, c8⟩ := hA6.nine
      have HA6 := Lib.hid hA6
      clear hA6
      go_upto_region 7 with (fail)
      obtain ⟨w7, hw7⟩ : ∃ w7, w7 = ((w6.setCell ⟨q, 3, none⟩ (.int .i64 ((x.s + 1) / 2))).setCell ⟨q, 4, none⟩ (.int .i64 0)).setCell ⟨q, 5, none⟩ (.int .i64 x.mo) := ⟨_, rfl⟩
      rw [← hw7]
      have hA7 : At w7 q 153 [.int .u32 x.nx, vw, .slice none 0 0, .int .i64 ((x.s + 1) / 2), .int .i64 0, .int .i64 x.mo, .int .i64 x.m, .int .i64 x.d, .int .i64 L] := by
        rw [hw7]; exact ((HA6.out.set 3 _).set 4 _).set 5 _
      have hC7 : Chg [q] w w7 := by rw [hw7]; exact ((HC6.out.set (by simp) _).set (by simp) _).set (by simp) _
      clear hw7 c0 c1 c2 c3 c4 c5 c6 c7 c8 k3 k4 k5
      obtain ⟨c0, c1, c2, c3, c4, c5, c6, c7, c8⟩ := hA7.nine
      have HA7 := Lib.hid hA7
      have HC7 := Lib.hid hC7
      clear hA7 hC7
      go_wp2_with fail
      refine (rrtt_late x.m x.d _ hm0 hm1).mono ?_
      rintro e w8 ⟨rfl, hc8⟩
      have hA8 := HA7.out.chg hc8 (by simp)
      have hC8 := HC7.out.trans (hc8.mono (F' := [q]) (by simp))
      have k6 := hA8.frozen 6
      have k7 := hA8.frozen 7
      clear c0 c1 c2 c3 c4 c5 c6 c7 c8 hc8
      obtain ⟨c0, c1, c2, c3, c4, c5, c6, c7, c8⟩ := hA8.nine
      have hfin : LateRS q vw (.slice (some ⟨ga, oa, none⟩) (l.length + 1) vc) x now w (.returned (.int .i64 ((l.length + 1 : Nat) : Int))) ((w8.setCell ⟨q, 6, none⟩ (.int .i64 (lm x.m))).setCell ⟨q, 7, none⟩ (.int .i64 x.d)) := by
        have hCf : Chg [q] w ((w8.setCell ⟨q, 6, none⟩ (.int .i64 (lm x.m))).setCell ⟨q, 7, none⟩ (.int .i64 x.d)) := (hC8.set (by simp) _).set (by simp) _
        refine ⟨by rw [HLT.out], .slice none 0 0, ?_, hCf, .inr rfl⟩
        rw [HLT.out]
        refine ⟨((hA8.set 6 _).set 7 _).to ?_, H.out.wait.chg hCf (by simp; exact H.out.wait.ne H.out.str (by decide)), View.nil _ _ _⟩
        rw [HLL.out]
        rfl
      have HF := Lib.hid hfin
      clear hfin hC8 hA8
      go_wp2_with fail
      go_ret
      exact HF.out
end Go.Proofs.Ytkmjpphmciaklaa
