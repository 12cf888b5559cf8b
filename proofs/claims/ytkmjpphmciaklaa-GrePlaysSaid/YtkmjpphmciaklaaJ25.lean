/- The reference's end (catwalkref32): New, owe, ack, data. The reference's end (catwalkref32): ack, data. -/
import Derived.Test.YtkmjpphmciaklaaJ24
namespace Go.Proofs.Ytkmjpphmciaklaa
open Go.RowKit
set_option linter.unusedVariables false
set_option linter.unusedSimpArgs false
attribute [local go_sem ↓] Go.wp_at_zero Go.wp_at_succ

section
variable {w w' : World} {B q p rq : Nat} {vw va v : Value} {E : End}
theorem REAt.own_to (h : REAt w B q p vw va rq v E) {o : Bool} {s : Int} (hA : At w' q 142 [.int .u16 E.call, .pointer (some ⟨p, 0, none⟩), .pointer (some ⟨rq, 0, none⟩), .bool o, .int .i64 s]) (c : Chg [q] w w') :
    REAt w' B q p vw va rq v { E with owes := o, since := s } := by
  have hFB : ∀ b ∈ [q], B ≤ b := fun b hb => by simp at hb; subst hb; exact h.hq
  refine ⟨hA, h.snd.chg c (fun b hb hm => ?_) hFB, ?_, h.hq, h.hp, h.hr⟩
  · simp at hb; subst hb
    rcases h.snd.kind b hm with k | k | k <;> exact h.str.isT.ne k (by decide) rfl
  · obtain ⟨r, k1, k2⟩ := h.rcv
    exact ⟨r, k1.chg c (by simp; exact fun e => k1.1.isT.ne h.str.isT (by decide) e) (fun x hx e => by simp at hx; subst hx; exact (k1.2.1.isT e).ne h.str.isT (by decide) rfl), k2.mono fun _ _ hb => hb.kept c hFB⟩
theorem REAt.nx_at (h : REAt w B q p vw va rq v E) : rq < w.heap.size ∧ w.cell? ⟨rq, 0, none⟩ = some (.int .u32 E.r.nx) := by
  obtain ⟨r, k1, k2⟩ := h.rcv
  have hc := k1.1.cell 0
  rw [← k2.1]
  exact ⟨k1.1.lt, hc⟩
end

def NewRE (call most ticks : Int) (w : World) (e : Ending) (w' : World) : Prop :=
  ∃ q p rq, e = .returned (.pointer (some ⟨q, 0, none⟩)) ∧ REAt w' w.heap.size q p (.slice none 0 0) (.slice none 0 0) rq (.slice none 0 0) (newEnd call most ticks) ∧ Chg [] w w'
set_option maxRecDepth 100000 in
set_option maxHeartbeats 400000 in
theorem re_new (call most ticks : Int) (w : World) : Calls Try.prog 43 #[.int .u16 call, .int .i64 most, .int .i64 ticks] w (NewRE call most ticks w) := by
  go_enter Try.func43, Try.ntmps43
  go_wp2_with fail
  refine (rs_new _ _ _ _).mono ?_
  rintro e w1 ⟨p, rfl, hp, hS, hc1⟩
  have HS := Lib.hid hS
  have HC1 := Lib.hid hc1
  clear hS hc1
  go_wp2_with fail
  go_ret
  have hca : Chg [] w1 (w1.alloc (.cells #[.int .u32 0, .slice none 0 0, .int .i64 0, .int .i64 0] 55)) := (Chg.refl _ _).alloc _
  have hcb : Chg [] (w1.alloc (.cells #[.int .u32 0, .slice none 0 0, .int .i64 0, .int .i64 0] 55)) ((w1.alloc (.cells #[.int .u32 0, .slice none 0 0, .int .i64 0, .int .i64 0] 55)).alloc (.cells #[.int .u16 call, .pointer (some ⟨p, 0, none⟩), .pointer (some ⟨w1.heap.size, 0, none⟩), .bool false, .int .i64 0] 142)) := (Chg.refl _ _).alloc _
  have hs1 := HC1.out.size
  have hAr : At (w1.alloc (.cells #[.int .u32 0, .slice none 0 0, .int .i64 0, .int .i64 0] 55)) w1.heap.size 55 [.int .u32 0, .slice none 0 0, .int .i64 0, .int .i64 0] := At.new w1 55 [_, _, _, _]
  have hAq := At.new (w1.alloc (.cells #[.int .u32 0, .slice none 0 0, .int .i64 0, .int .i64 0] 55)) 142 [.int .u16 call, .pointer (some ⟨p, 0, none⟩), .pointer (some ⟨w1.heap.size, 0, none⟩), .bool false, .int .i64 0]
  have hSx : RSIs w1 w.heap.size p (.slice none 0 0) (.slice none 0 0) (newEnd call most ticks).s := ⟨[], HS.out, trivial⟩
  have hsz : (w1.alloc (.cells #[.int .u32 0, .slice none 0 0, .int .i64 0, .int .i64 0] 55)).heap.size = w1.heap.size + 1 := by simp
  rw [hsz] at hAq
  exact ⟨w1.heap.size + 1, p, w1.heap.size, by first | rfl | rw [hsz], ⟨hAq, (hSx.keep hca).keep hcb, ⟨⟨0, [], 0, 0⟩, ⟨hAr.chg hcb (by simp), Own.nil _ _ _ _, by simp, fun p hp => by cases hp⟩, rfl, trivial, rfl, rfl⟩, by omega, hp, hs1⟩, (HC1.out.trans hca).trans hcb⟩

def OweRE (B q p : Nat) (vw va : Value) (rq : Nat) (v : Value) (E : End) (now : Int) (w : World) (e : Ending) (w' : World) : Prop :=
  (∃ u, e = .returned u) ∧ REAt w' B q p vw va rq v { E with owes := true, since := if E.owes then E.since else now } ∧ Chg [q] w w'
set_option maxRecDepth 100000 in
set_option maxHeartbeats 400000 in
theorem re_owe (w : World) (B q p : Nat) (vw va : Value) (rq : Nat) (v : Value) (E : End) (now : Int) (h : REAt w B q p vw va rq v E) :
    Calls Try.prog 100 #[.pointer (some ⟨q, 0, none⟩), .int .i64 now] w (OweRE B q p vw va rq v E now w) := by
  have H := Lib.hid h
  obtain ⟨c0, c1, c2, c3, c4, fz⟩ := h.str.five
  have f3 := fz 3
  have f4 := fz 4
  cases how : E.owes with
  | true =>
    have hfin : OweRE B q p vw va rq v E now w (.returned (.tuple #[])) w := by
      refine ⟨⟨_, rfl⟩, ?_, Chg.refl _ _⟩
      have he : ({ E with owes := true, since := if E.owes then E.since else now } : End) = E := by rw [how]; cases E; simp at how; subst how; rfl
      rw [he]; exact H.out
    have HF := Lib.hid hfin
    rw [how] at c3
    clear h fz hfin how
    go_enter Try.func100, Try.ntmps100
    go_wp2_with fail
    go_end0
    exact ⟨⟨_, rfl⟩, HF.out.2⟩
  | false =>
    have hcf : Chg [q] w ((w.setCell ⟨q, 3, none⟩ (.bool true)).setCell ⟨q, 4, none⟩ (.int .i64 now)) := ((Chg.refl [q] w).set (by simp) _).set (by simp) _
    have hfin := H.out.own_to ((h.str.set 3 (.bool true)).set 4 (.int .i64 now)) hcf
    have HF := Lib.hid (And.intro hfin hcf)
    rw [how] at c3
    clear h fz hfin hcf
    have HO := Lib.hid how
    clear how
    go_enter Try.func100, Try.ntmps100
    go_wp2_with fail
    go_end0
    exact ⟨⟨_, rfl⟩, by rw [HO.out]; exact HF.out.1, HF.out.2⟩
end Go.Proofs.Ytkmjpphmciaklaa
namespace Go.Proofs.Ytkmjpphmciaklaa
open Go.RowKit
set_option linter.unusedVariables false
set_option linter.unusedSimpArgs false
attribute [local go_sem ↓] Go.wp_at_zero Go.wp_at_succ

def AckRE (B q p : Nat) (vw va : Value) (rq : Nat) (v : Value) (E : End) (t : Tun Value) (w : World) (e : Ending) (w' : World) : Prop :=
  ∃ ha ak, e = .returned (.agg #[.int .u16 t.call, .bool t.hs, .int .u32 t.seq, .bool ha, .int .u32 ak, t.d]) ∧ E.ack t = { t with ha := ha, ack := ak } ∧ REAt w' B q p vw va rq v E.paid ∧ Chg [q] w w'
set_option maxRecDepth 100000 in
set_option maxHeartbeats 1000000 in
theorem re_ack (w : World) (B q p : Nat) (vw va : Value) (rq : Nat) (v : Value) (E : End) (call : Int) (hs : Bool) (seq : Int) (ha : Bool) (ak : Int) (A : Option Addr) (n c : Nat) (h : REAt w B q p vw va rq v E) (hB : B ≤ w.heap.size) (h0 : 0 ≤ E.r.nx) (h1 : E.r.nx < 4294967296) :
    Calls Try.prog 104 #[.pointer (some ⟨q, 0, none⟩), .agg #[.int .u16 call, .bool hs, .int .u32 seq, .bool ha, .int .u32 ak, .slice A n c]] w (AckRE B q p vw va rq v E ⟨call, hs, seq, ha, ak, .slice A n c⟩ w) := by
  have H := Lib.hid h
  have hA := h.str
  have hql := hA.lt
  obtain ⟨hrl, hrc⟩ := h.nx_at
  have hF : ∀ b ∈ reF q p vw va rq v, b < w.heap.size := fun b hb => by
    rcases h.kind b hb with k | k | k | k | k | k <;> exact k.lt
  have HFL := Lib.hid hF
  have HA := Lib.hid hA
  clear h hF
  go_enter Try.func104, Try.ntmps104
  go_upto_region 1 with (fail)
  obtain ⟨wx, hwx⟩ : ∃ wx, wx = (w.alloc (.cells #[.int .u16 call, .bool hs, .int .u32 seq, .bool ha, .int .u32 ak, .slice A n c] 138)).alloc (.cells #[.int .u16 0, .bool false, .int .u32 0, .bool false, .int .u32 0, .slice none 0 0] 138) := ⟨_, rfl⟩
  have hcx : Chg [] w wx := by rw [hwx]; exact ((Chg.refl _ _).alloc _).alloc _
  have hAx := HA.out.chg hcx (by simp)
  have hB1 : At wx w.heap.size 138 [.int .u16 call, .bool hs, .int .u32 seq, .bool ha, .int .u32 ak, .slice A n c] := by rw [hwx]; exact (At.new w 138 [_, _, _, _, _, _]).alloc _
  have hB2 : At wx (w.heap.size + 1) 138 [.int .u16 0, .bool false, .int .u32 0, .bool false, .int .u32 0, .slice none 0 0] := by
    rw [hwx]
    have h := At.new (w.alloc (.cells #[.int .u16 call, .bool hs, .int .u32 seq, .bool ha, .int .u32 ak, .slice A n c] 138)) 138 [.int .u16 0, .bool false, .int .u32 0, .bool false, .int .u32 0, .slice none 0 0]
    simpa using h
  rw [← hwx]
  obtain ⟨g, hg⟩ : ∃ g, g = w.heap.size := ⟨_, rfl⟩
  have HG := Lib.hid hg
  rw [← hg] at hB1 hB2 ⊢
  have hgq : g ≠ q := by omega
  have hgr : g ≠ rq := by omega
  have hrx : wx.cell? ⟨rq, 0, none⟩ = some (.int .u32 E.r.nx) := (hcx.cell (p := ⟨rq, 0, none⟩) hrl (by simp)).trans hrc
  obtain ⟨x0, x1, x2, x3, x4, fx⟩ := hAx.five
  have HB1 := Lib.hid hB1
  have HB2 := Lib.hid hB2
  have HCX := Lib.hid hcx
  clear hwx hcx hg hrc hA hB1 hB2
  by_cases hz : E.r.nx = 0
  · have hzb : (E.r.nx != 0) = false := by rw [hz]; rfl
    obtain ⟨y0, y1, y2, y3, y4, y5, fy⟩ := HB1.out.six
    obtain ⟨z0, z1, z2, z3, z4, z5, fz⟩ := HB2.out.six
    go_wp2_with fail
    obtain ⟨wf, hwf⟩ : ∃ wf, wf = ((((((wx.setCell ⟨g + 1, 0, none⟩ (.int .u16 call)).setCell ⟨g + 1, 1, none⟩ (.bool hs)).setCell ⟨g + 1, 2, none⟩ (.int .u32 seq)).setCell ⟨g + 1, 3, none⟩ (.bool ha)).setCell ⟨g + 1, 4, none⟩ (.int .u32 ak)).setCell ⟨g + 1, 5, none⟩ (.slice A n c)) := ⟨_, rfl⟩
    have hAf : At wf (g + 1) 138 [.int .u16 call, .bool hs, .int .u32 seq, .bool ha, .int .u32 ak, .slice A n c] := by
      rw [hwf]; exact ((((((HB2.out.set 0 _).set 1 _).set 2 _).set 3 _).set 4 _).set 5 _)
    have hcf : Chg [] w wf := by
      have hgs : w.heap.size ≤ g + 1 := by have := HG.out; omega
      rw [hwf]; exact ((((((HCX.out.set (.inr hgs) _).set (.inr hgs) _).set (.inr hgs) _).set (.inr hgs) _).set (.inr hgs) _).set (.inr hgs) _)
    rw [← hwf]
    obtain ⟨u0, u1, u2, u3, u4, u5, _⟩ := hAf.six
    refine bodyPost_ret (v := .agg #[.int .u16 call, .bool hs, .int .u32 seq, .bool ha, .int .u32 ak, .slice A n c]) ?_ rfl ⟨ha, ak, rfl, by unfold End.ack; rw [if_pos hz], ?_, hcf.mono (by simp)⟩
    · simp [results, Try.results104, go_sem, u0, u1, u2, u3, u4, u5]
    · rw [show E.paid = E from by unfold End.paid; rw [if_pos hz]]
      exact H.out.keep hcf
  · have hzb : (E.r.nx != 0) = true := by simpa using hz
    obtain ⟨y0, y1, y2, y3, y4, y5, fy⟩ := HB1.out.six
    have fy3 := fy 3
    have fy4 := fy 4
    clear fx
    go_upto_region 4 with (fail)
    obtain ⟨w2, hw2⟩ : ∃ w2, w2 = ((wx.setCell ⟨g, 3, none⟩ (.bool true)).setCell ⟨g, 4, none⟩ (.int .u32 (E.r.nx - 1))) := ⟨_, rfl⟩
    have hg0 : w.heap.size ≤ g := by have := HG.out; omega
    have hg1 : w.heap.size ≤ g + 1 := by omega
    have hc2 : Chg [] w w2 := by rw [hw2]; exact (HCX.out.set (.inr hg0) _).set (.inr hg0) _
    have hD1 : At w2 g 138 [.int .u16 call, .bool hs, .int .u32 seq, .bool true, .int .u32 (E.r.nx - 1), .slice A n c] := by rw [hw2]; exact (HB1.out.set 3 _).set 4 _
    have hD2 : At w2 (g + 1) 138 [.int .u16 0, .bool false, .int .u32 0, .bool false, .int .u32 0, .slice none 0 0] := by rw [hw2]; exact (HB2.out.far (by simp) _).far (by simp) _
    have hDq := HA.out.chg hc2 (by simp)
    rw [← hw2]
    have k3 := hDq.frozen 3
    have k4 := hDq.five.2.2.2.1
    clear hw2 y0 y1 y2 y3 y4 y5 fy fy3 fy4 x0 x1 x2 x3 x4 hrx
    go_upto_region 5 with (fail)
    obtain ⟨w3, hw3⟩ : ∃ w3, w3 = w2.setCell ⟨q, 3, none⟩ (.bool false) := ⟨_, rfl⟩
    have hcq : Chg [q] w2 w3 := by rw [hw3]; exact (Chg.refl [q] w2).set (by simp) _
    have hc3 : Chg [q] w w3 := (hc2.mono (by simp)).trans hcq
    have hDq3 : At w3 q 142 [.int .u16 E.call, .pointer (some ⟨p, 0, none⟩), .pointer (some ⟨rq, 0, none⟩), .bool false, .int .i64 E.since] := by rw [hw3]; exact hDq.set 3 _
    have hD13 : At w3 g 138 [.int .u16 call, .bool hs, .int .u32 seq, .bool true, .int .u32 (E.r.nx - 1), .slice A n c] := by rw [hw3]; exact hD1.far hgq _
    have hD23 : At w3 (g + 1) 138 [.int .u16 0, .bool false, .int .u32 0, .bool false, .int .u32 0, .slice none 0 0] := by rw [hw3]; exact hD2.far (by simp; omega) _
    rw [← hw3]
    have hend : REAt w3 B q p vw va rq v E.paid := by
      have hpe : E.paid = { E with owes := false, since := E.since } := by unfold End.paid; rw [if_neg hz]
      rw [hpe]
      exact (H.out.keep hc2).own_to hDq3 hcq
    have HE := Lib.hid hend
    have HC3 := Lib.hid hc3
    have HD := Lib.hid hD23
    obtain ⟨y0, y1, y2, y3, y4, y5, fy⟩ := hD13.six
    obtain ⟨z0, z1, z2, z3, z4, z5, fz⟩ := hD23.six
    clear hend hc3 hw3 hD23 hD13 hDq3 hDq hD1 hD2 hc2 k3 k4 hg0 hcq
    go_wp2_with fail
    obtain ⟨wf, hwf⟩ : ∃ wf, wf = ((((((w3.setCell ⟨g + 1, 0, none⟩ (.int .u16 call)).setCell ⟨g + 1, 1, none⟩ (.bool hs)).setCell ⟨g + 1, 2, none⟩ (.int .u32 seq)).setCell ⟨g + 1, 3, none⟩ (.bool true)).setCell ⟨g + 1, 4, none⟩ (.int .u32 (E.r.nx - 1))).setCell ⟨g + 1, 5, none⟩ (.slice A n c)) := ⟨_, rfl⟩
    have hAf : At wf (g + 1) 138 [.int .u16 call, .bool hs, .int .u32 seq, .bool true, .int .u32 (E.r.nx - 1), .slice A n c] := by
      rw [hwf]; exact ((((((HD.out.set 0 _).set 1 _).set 2 _).set 3 _).set 4 _).set 5 _)
    have hcf : Chg [q] w wf := by
      rw [hwf]; exact ((((((HC3.out.set (.inr hg1) _).set (.inr hg1) _).set (.inr hg1) _).set (.inr hg1) _).set (.inr hg1) _).set (.inr hg1) _)
    have hcg : Chg [g + 1] w3 wf := by
      have hm : ∀ x, x = g + 1 → x ∈ [g + 1] := by simp
      rw [hwf]; exact (((((((Chg.refl [g + 1] w3).set (.inl (hm _ rfl)) _).set (.inl (hm _ rfl)) _).set (.inl (hm _ rfl)) _).set (.inl (hm _ rfl)) _).set (.inl (hm _ rfl)) _).set (.inl (hm _ rfl)) _)
    rw [← hwf]
    obtain ⟨u0, u1, u2, u3, u4, u5, _⟩ := hAf.six
    refine bodyPost_ret (v := .agg #[.int .u16 call, .bool hs, .int .u32 seq, .bool true, .int .u32 (E.r.nx - 1), .slice A n c]) ?_ rfl ⟨true, E.r.nx - 1, rfl, by unfold End.ack; rw [if_neg hz], ?_, hcf⟩
    · simp [results, Try.results104, go_sem, u0, u1, u2, u3, u4, u5]
    · refine HE.out.chg hcg (fun b hb hm => ?_) (fun b hb => by simp at hb; subst hb; omega)
      simp at hb
      subst hb
      have := HFL.out _ hm
      omega

theorem OutR.keep {w w' : World} {B base : Nat} {v : Value} {out : List (Int × List Int)} (h : OutR w B base v out) (c : Chg [] w w') : OutR w' B base v out := h.chg c (by simp) (by simp)
theorem OutR.slice {w : World} {B base : Nat} {v : Value} {out : List (Int × List Int)} (h : OutR w B base v out) : ∃ a c, v = .slice a out.length c := by
  obtain ⟨o, h1, h2⟩ := h
  obtain ⟨a, c, hv⟩ := h1.slice
  rw [pk_len, h2.len] at hv
  exact ⟨a, c, hv⟩
theorem OutR.at {w : World} {B base : Nat} {a : Option Addr} {n c : Nat} {out : List (Int × List Int)} (h : OutR w B base (.slice a n c) out) {i : Nat} (hi : i < out.length) :
    ∃ g A m mc, a = some ⟨g, 0, none⟩ ∧ g < w.heap.size ∧ base ≤ g ∧ IsT w g 31 ∧ w.cell? ⟨g, i * 2, none⟩ = some (.int .u32 (out[i]'hi).1) ∧ w.cell? ⟨g, i * 2 + 1, none⟩ = some (.slice A m mc) ∧ BytS (· < B) w (.slice A m mc) (out[i]'hi).2 := by
  obtain ⟨o, h1, h2⟩ := h
  have hl := h2.len
  have hio : i < o.length := by omega
  obtain ⟨e1, e2⟩ := h2.at hio hi
  obtain ⟨A, m, mc, hv⟩ := e2.slice
  obtain ⟨g, e, hc⟩ := h1.cells rfl (by rw [pk_len]; omega)
  subst e
  have hg := h1.lt g rfl
  have hk : (pk o)[i]? = some [.int .u32 (o[i]'hio).1, (o[i]'hio).2] := by simp [pk, hio]
  refine ⟨g, A, m, mc, rfl, hg.2, hg.1, h1.isT rfl, ?_, ?_, ?_⟩
  · have := hc _ _ (h1.1.at (j := 0) hk rfl)
    rw [e1] at this
    exact this
  · have := hc _ _ (h1.1.at (j := 1) hk rfl)
    rw [hv] at this
    exact this
  · rw [← hv]; exact e2
end Go.Proofs.Ytkmjpphmciaklaa
