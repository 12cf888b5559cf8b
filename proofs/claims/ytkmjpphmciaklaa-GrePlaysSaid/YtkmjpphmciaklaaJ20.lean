/- An end of a call (catwalk/gre): how it lies in memory; the ack that goes with a packet. -/
import Derived.Test.YtkmjpphmciaklaaJ19
import Derived.Test.YtkmjpphmciaklaaJ12
namespace Go.Proofs.Ytkmjpphmciaklaa
open Go.RowKit
set_option linter.unusedVariables false
set_option linter.unusedSimpArgs false
attribute [local go_sem ↓] Go.wp_at_zero Go.wp_at_succ

/-- A packet of the tunnel. -/
structure Tun (α : Type) where
  call : Int
  hs : Bool
  seq : Int
  ha : Bool
  ack : Int
  d : α
/-- An end of a call. -/
structure End where
  call : Int
  s : Snd (List Int)
  r : Rcv (List Int)
  owes : Bool
  since : Int
def End.paid (E : End) : End := if E.r.nx = 0 then E else { E with owes := false }
def End.ack {α : Type} (E : End) (t : Tun α) : Tun α := if E.r.nx = 0 then t else { t with ha := true, ack := E.r.nx - 1 }

def tunC (t : Tun Value) : List Value := [.int .u16 t.call, .bool t.hs, .int .u32 t.seq, .bool t.ha, .int .u32 t.ack, t.d]
def TunIs (R : Value → List Int → Prop) (t : Tun Value) (u : Tun (List Int)) : Prop := t.call = u.call ∧ t.hs = u.hs ∧ t.seq = u.seq ∧ t.ha = u.ha ∧ t.ack = u.ack ∧ R t.d u.d
theorem Try.info138 : (Try.prog.info? 138).map (fun i => (i.zero, i.size, i.bytes)) = some (some (.agg #[.int .u16 0, .bool false, .int .u32 0, .bool false, .int .u32 0, .slice none 0 0]), 6, 40) := by kernel_rfl
theorem elem138 : Elem Try.prog 78 138 6 40 (.agg #[.int .u16 0, .bool false, .int .u32 0, .bool false, .int .u32 0, .slice none 0 0]) := ⟨Try.underlying78, Try.info138, rfl, by decide, by decide⟩
/-- A row of packets of the call's own. -/
def RowT (R : Value → List Int → Prop) (w : World) (B : Nat) (v : Value) (P : List (Tun (List Int))) : Prop := ∃ l : List (Tun Value), Own 138 6 w B v (l.map tunC) ∧ RelV (TunIs R) l P

/-- The end lies at q; F are its blocks. -/
def EndOf (w : World) (B q : Nat) (F : List Nat) (E : End) : Prop :=
  ∃ p pr g va fr rp m, F = q :: rp :: m :: sndF p pr g va ∧ At w q 129 [.int .u16 E.call, .pointer (some ⟨p, 0, none⟩), .pointer (some ⟨rp, 0, none⟩), .bool E.owes, .int .i64 E.since] ∧
    SndIs w B p pr g va fr E.s ∧ RcvIs w rp m E.r ∧ B ≤ q ∧ B ≤ rp ∧ B ≤ m
theorem At.five {w : World} {b T : Nat} {v0 v1 v2 v3 v4 : Value} (h : At w b T [v0, v1, v2, v3, v4]) :
    w.cell? ⟨b, 0, none⟩ = some v0 ∧ w.cell? ⟨b, 1, none⟩ = some v1 ∧ w.cell? ⟨b, 2, none⟩ = some v2 ∧ w.cell? ⟨b, 3, none⟩ = some v3 ∧ w.cell? ⟨b, 4, none⟩ = some v4 ∧ (∀ i, w.frozen? ⟨b, i, none⟩ = false) :=
  ⟨by rw [h.cell]; rfl, by rw [h.cell]; rfl, by rw [h.cell]; rfl, by rw [h.cell]; rfl, by rw [h.cell]; rfl, h.frozen⟩
theorem At.six {w : World} {b T : Nat} {v0 v1 v2 v3 v4 v5 : Value} (h : At w b T [v0, v1, v2, v3, v4, v5]) :
    w.cell? ⟨b, 0, none⟩ = some v0 ∧ w.cell? ⟨b, 1, none⟩ = some v1 ∧ w.cell? ⟨b, 2, none⟩ = some v2 ∧ w.cell? ⟨b, 3, none⟩ = some v3 ∧ w.cell? ⟨b, 4, none⟩ = some v4 ∧ w.cell? ⟨b, 5, none⟩ = some v5 ∧ (∀ i, w.frozen? ⟨b, i, none⟩ = false) :=
  ⟨by rw [h.cell]; rfl, by rw [h.cell]; rfl, by rw [h.cell]; rfl, by rw [h.cell]; rfl, by rw [h.cell]; rfl, by rw [h.cell]; rfl, h.frozen⟩
theorem RcvIs.lt {w : World} {p m : Nat} {a : Rcv (List Int)} (h : RcvIs w p m a) : p < w.heap.size ∧ m < w.heap.size := by
  obtain ⟨r, h1, _⟩ := h
  exact ⟨h1.1.lt, h1.2.lt⟩
section
variable {w w' : World} {B q : Nat} {F : List Nat} {E : End}
theorem EndOf.kind (h : EndOf w B q F E) : ∀ b ∈ F, B ≤ b ∧ b < w.heap.size ∧ NoB w b ∧ ¬ IsT w b 31 ∧ ¬ IsT w b 138 ∧ ¬ IsT w b 81 := by
  obtain ⟨p, pr, g, va, fr, rp, m, rfl, hA, hS, hR, h1, h2, h3⟩ := h
  have no : ∀ {b T U : Nat}, IsT w b T → T ≠ U → ¬ IsT w b U := fun hb hT hU => hb.ne hU hT rfl
  intro b hb
  rcases List.mem_cons.1 hb with rfl | hb
  · exact ⟨h1, hA.lt, hA.noB (by decide), no hA.isT (by decide), no hA.isT (by decide), no hA.isT (by decide)⟩
  rcases List.mem_cons.1 hb with rfl | hb
  · exact ⟨h2, hR.lt.1, hR.kind.1.noB (by decide), no hR.kind.1 (by decide), no hR.kind.1 (by decide), no hR.kind.1 (by decide)⟩
  rcases List.mem_cons.1 hb with rfl | hb
  · exact ⟨h3, hR.lt.2, hR.noB b (by simp), hR.kind.2 _, hR.kind.2 _, hR.kind.2 _⟩
  obtain ⟨k1, k2, k3⟩ := hS.kind b hb
  rcases k3 with k | k | k | k <;> exact ⟨k1, k2, k.noB (by decide), no k (by decide), no k (by decide), no k (by decide)⟩
theorem EndOf.chg {G : List Nat} (h : EndOf w B q F E) (c : Chg G w w') (hG : ∀ b ∈ G, b ∉ F) (hN : ∀ b ∈ G, NoB w b) : EndOf w' B q F E := by
  obtain ⟨p, pr, g, va, fr, rp, m, rfl, hA, hS, hR, h1, h2, h3⟩ := h
  exact ⟨p, pr, g, va, fr, rp, m, rfl, hA.chg c (fun hm => hG q hm (by simp)), hS.chg c (fun b hb hm => hG b hb (by simp [hm])) hN, hR.chg c (fun hm => hG rp hm (by simp)) (fun hm => hG m hm (by simp)) hN, h1, h2, h3⟩
theorem EndOf.keep (h : EndOf w B q F E) (c : Chg [] w w') : EndOf w' B q F E := h.chg c (by simp) (by simp)
theorem EndOf.q_mem (h : EndOf w B q F E) : q ∈ F := by
  obtain ⟨p, pr, g, va, fr, rp, m, rfl, _⟩ := h; simp
end

def AckEnd (B q : Nat) (F : List Nat) (E : End) (t : Tun Value) (w : World) (e : Ending) (w' : World) : Prop :=
  ∃ ha ak, e = .returned (.agg #[.int .u16 t.call, .bool t.hs, .int .u32 t.seq, .bool ha, .int .u32 ak, t.d]) ∧ E.ack t = { t with ha := ha, ack := ak } ∧ EndOf w' B q F E.paid ∧ Chg [q] w w'
set_option maxRecDepth 100000 in
set_option maxHeartbeats 1000000 in
theorem ack_end (w : World) (B q : Nat) (F : List Nat) (E : End) (call : Int) (hs : Bool) (seq : Int) (ha : Bool) (ak : Int) (A : Option Addr) (n c : Nat) (h : EndOf w B q F E) (h0 : 0 ≤ E.r.nx) (h1 : E.r.nx < 4294967296) :
    Calls Try.prog 93 #[.pointer (some ⟨q, 0, none⟩), .agg #[.int .u16 call, .bool hs, .int .u32 seq, .bool ha, .int .u32 ak, .slice A n c]] w (AckEnd B q F E ⟨call, hs, seq, ha, ak, .slice A n c⟩ w) := by
  have H := Lib.hid h
  obtain ⟨p, pr, g, va, fr, rp, m, hF, hA, hS, hR, k1, k2, k3⟩ := h
  obtain ⟨r, hr, hrel⟩ := hR
  have hnx : r.nx = E.r.nx := hrel.1
  have HR := Lib.hid (And.intro hr hnx)
  have HF := Lib.hid hF
  have hql := hA.lt
  have CN : ∀ w', Chg [] w w' → Calls Try.prog 27 #[.pointer (some ⟨rp, 0, none⟩)] w' fun e w'' => e = .returned (.int .u32 E.r.nx) ∧ w' = w'' := fun w' c => by
    have h := next_any rp m r w' (hr.chg c (by simp) (by simp))
    rw [hnx] at h
    exact h
  have HCN := Lib.hid CN
  have HA := Lib.hid hA
  obtain ⟨c0, c1, c2, c3, c4, fz⟩ := hA.five
  have hf3 := fz 3
  clear CN hr hrel hnx hF hS k1 k2 k3 hA fz
  go_enter Try.func93, Try.ntmps93
  go_wp2_with fail
  obtain ⟨wx, hwx⟩ : ∃ wx, wx = (w.alloc (.cells #[.int .u16 call, .bool hs, .int .u32 seq, .bool ha, .int .u32 ak, .slice A n c] 138)).alloc (.cells #[.int .u16 0, .bool false, .int .u32 0, .bool false, .int .u32 0, .slice none 0 0] 138) := ⟨_, rfl⟩
  have hcx : Chg [] w wx := by rw [hwx]; exact ((Chg.refl _ _).alloc _).alloc _
  have hAx := HA.out.chg hcx (by simp)
  have hB1 : At wx w.heap.size 138 [.int .u16 call, .bool hs, .int .u32 seq, .bool ha, .int .u32 ak, .slice A n c] := by rw [hwx]; exact (At.new w 138 [_, _, _, _, _, _]).alloc _
  have hB2 : At wx (w.heap.size + 1) 138 [.int .u16 0, .bool false, .int .u32 0, .bool false, .int .u32 0, .slice none 0 0] := by
    rw [hwx]
    have h := At.new (w.alloc (.cells #[.int .u16 call, .bool hs, .int .u32 seq, .bool ha, .int .u32 ak, .slice A n c] 138)) 138 [.int .u16 0, .bool false, .int .u32 0, .bool false, .int .u32 0, .slice none 0 0]
    simpa using h
  rw [← hwx]
  obtain ⟨g, hg⟩ : ∃ g, g = w.heap.size := ⟨_, rfl⟩
  have HG := Lib.hid hg
  rw [← hg] at hB1 hB2 ⊢
  have hgq : g ≠ q := by omega
  obtain ⟨x0, x1, x2, x3, x4, fx⟩ := hAx.five
  have HB1 := Lib.hid hB1
  have HB2 := Lib.hid hB2
  have HCX := Lib.hid hcx
  refine (HCN.out _ hcx).mono ?_
  rintro e w' ⟨rfl, rfl⟩
  clear hwx hcx hg c0 c1 c2 c3 c4 hf3
  by_cases hz : E.r.nx = 0
  · have hzb : (E.r.nx != 0) = false := by rw [hz]; rfl
    obtain ⟨y0, y1, y2, y3, y4, y5, fy⟩ := HB1.out.six
    obtain ⟨z0, z1, z2, z3, z4, z5, fz⟩ := HB2.out.six
    go_wp2_with fail
    obtain ⟨wf, hwf⟩ : ∃ wf, wf = ((((((wx.setCell ⟨g + 1, 0, none⟩ (.int .u16 call)).setCell ⟨g + 1, 1, none⟩ (.bool hs)).setCell ⟨g + 1, 2, none⟩ (.int .u32 seq)).setCell ⟨g + 1, 3, none⟩ (.bool ha)).setCell ⟨g + 1, 4, none⟩ (.int .u32 ak)).setCell ⟨g + 1, 5, none⟩ (.slice A n c)) := ⟨_, rfl⟩
    have hAf : At wf (g + 1) 138 [.int .u16 call, .bool hs, .int .u32 seq, .bool ha, .int .u32 ak, .slice A n c] := by
      rw [hwf]; exact ((((((HB2.out.set 0 _).set 1 _).set 2 _).set 3 _).set 4 _).set 5 _)
    have hcf : Chg [] w wf := by
      have hgs : w.heap.size ≤ g + 1 := by have := HG.out; omega
      rw [hwf]; exact ((((((HCX.out.set (.inr hgs) _).set (.inr hgs) _).set (.inr hgs) _).set (.inr hgs) _).set (.inr hgs) _).set (.inr hgs) _)
    rw [← hwf]
    obtain ⟨u0, u1, u2, u3, u4, u5, _⟩ := hAf.six
    refine bodyPost_ret (v := .agg #[.int .u16 call, .bool hs, .int .u32 seq, .bool ha, .int .u32 ak, .slice A n c]) ?_ rfl ⟨ha, ak, rfl, by unfold End.ack; rw [if_pos hz], ?_, hcf.mono (by simp)⟩
    · simp [results, Try.results93, go_sem, u0, u1, u2, u3, u4, u5]
    · rw [show E.paid = E from by unfold End.paid; rw [if_pos hz]]
      exact H.out.keep hcf
  · have hzb : (E.r.nx != 0) = true := by simpa using hz
    obtain ⟨y0, y1, y2, y3, y4, y5, fy⟩ := HB1.out.six
    have fx3 := fx 3
    have fy3 := fy 3
    have fy4 := fy 4
    clear fx
    go_wp2_with fail
    refine (HCN.out _ HCX.out).mono ?_
    rintro e w' ⟨rfl, rfl⟩
    go_upto_region 3 with (fail)
    obtain ⟨w2, hw2⟩ : ∃ w2, w2 = ((wx.setCell ⟨g, 3, none⟩ (.bool true)).setCell ⟨g, 4, none⟩ (.int .u32 (E.r.nx - 1))) := ⟨_, rfl⟩
    have hg0 : w.heap.size ≤ g := by have := HG.out; omega
    have hg1 : w.heap.size ≤ g + 1 := by omega
    have hc2 : Chg [] w w2 := by rw [hw2]; exact (HCX.out.set (.inr hg0) _).set (.inr hg0) _
    have hD1 : At w2 g 138 [.int .u16 call, .bool hs, .int .u32 seq, .bool true, .int .u32 (E.r.nx - 1), .slice A n c] := by rw [hw2]; exact (HB1.out.set 3 _).set 4 _
    have hD2 : At w2 (g + 1) 138 [.int .u16 0, .bool false, .int .u32 0, .bool false, .int .u32 0, .slice none 0 0] := by rw [hw2]; exact (HB2.out.far (by simp) _).far (by simp) _
    have hDq := HA.out.chg hc2 (by simp)
    rw [← hw2]
    have k3 := hDq.frozen 3
    have k4 := hDq.five.2.2.2.1
    clear hw2 y0 y1 y2 y3 y4 y5 fy fx3 fy3 fy4 x0 x1 x2 x3 x4
    go_upto_region 4 with (fail)
    obtain ⟨w3, hw3⟩ : ∃ w3, w3 = w2.setCell ⟨q, 3, none⟩ (.bool false) := ⟨_, rfl⟩
    have hc3 : Chg [q] w w3 := by rw [hw3]; exact (hc2.mono (by simp)).set (by simp) _
    have hDq3 : At w3 q 129 [.int .u16 E.call, .pointer (some ⟨p, 0, none⟩), .pointer (some ⟨rp, 0, none⟩), .bool false, .int .i64 E.since] := by rw [hw3]; exact hDq.set 3 _
    have hD13 : At w3 g 138 [.int .u16 call, .bool hs, .int .u32 seq, .bool true, .int .u32 (E.r.nx - 1), .slice A n c] := by rw [hw3]; exact hD1.far hgq _
    have hD23 : At w3 (g + 1) 138 [.int .u16 0, .bool false, .int .u32 0, .bool false, .int .u32 0, .slice none 0 0] := by rw [hw3]; exact hD2.far (by simp; omega) _
    rw [← hw3]
    have hend : EndOf w3 B q F E.paid := by
      obtain ⟨p', pr', g', va', fr', rp', m', hF', hA', hS', hR', k1, k2, k3⟩ := H.out.keep hc2
      have hpe : E.paid = { E with owes := false } := by unfold End.paid; rw [if_neg hz]
      have hcq : Chg [q] w2 w3 := by rw [hw3]; exact (Chg.refl [q] w2).set (by simp) _
      have hk := (H.out.keep hc2).kind
      have hA3 : At w3 q 129 [.int .u16 E.call, .pointer (some ⟨p', 0, none⟩), .pointer (some ⟨rp', 0, none⟩), .bool false, .int .i64 E.since] := by rw [hw3]; exact hA'.set 3 _
      have hqn : NoB w2 q := hA'.noB (by decide)
      have hqS : q ∉ sndF p' pr' g' va' := fun hm => by
        rcases (hS'.kind q hm).2.2 with k | k | k | k <;> exact hA'.isT.ne k (by decide) rfl
      have hqr : rp' ∉ [q] := by simp; exact fun e => hA'.isT.ne hR'.kind.1 (by decide) e.symm
      have hqm : m' ∉ [q] := by simp; rintro rfl; exact hR'.kind.2 _ hA'.isT
      rw [hpe]
      exact ⟨p', pr', g', va', fr', rp', m', hF', hA3, hS'.chg hcq (by simpa using hqS) (by simpa using hqn), hR'.chg hcq hqr hqm (by simpa using hqn), k1, k2, k3⟩
    have HE := Lib.hid hend
    have HC3 := Lib.hid hc3
    have HD := Lib.hid hD23
    have hnq : g + 1 ≠ q := by omega
    obtain ⟨y0, y1, y2, y3, y4, y5, fy⟩ := hD13.six
    obtain ⟨z0, z1, z2, z3, z4, z5, fz⟩ := hD23.six
    clear hend hc3 hw3 hD23 hD13 hDq3 hDq hD1 hD2 hc2 k3 k4 hg0
    go_wp2_with fail
    obtain ⟨wf, hwf⟩ : ∃ wf, wf = ((((((w3.setCell ⟨g + 1, 0, none⟩ (.int .u16 call)).setCell ⟨g + 1, 1, none⟩ (.bool hs)).setCell ⟨g + 1, 2, none⟩ (.int .u32 seq)).setCell ⟨g + 1, 3, none⟩ (.bool true)).setCell ⟨g + 1, 4, none⟩ (.int .u32 (E.r.nx - 1))).setCell ⟨g + 1, 5, none⟩ (.slice A n c)) := ⟨_, rfl⟩
    have hAf : At wf (g + 1) 138 [.int .u16 call, .bool hs, .int .u32 seq, .bool true, .int .u32 (E.r.nx - 1), .slice A n c] := by
      rw [hwf]; exact ((((((HD.out.set 0 _).set 1 _).set 2 _).set 3 _).set 4 _).set 5 _)
    have hcf : Chg [q] w wf := by
      rw [hwf]; exact ((((((HC3.out.set (.inr hg1) _).set (.inr hg1) _).set (.inr hg1) _).set (.inr hg1) _).set (.inr hg1) _).set (.inr hg1) _)
    have hcg : Chg [g + 1] w3 wf := by
      have hm : ∀ x, x = g + 1 → x ∈ [g + 1] := by simp
      rw [hwf]; exact (((((((Chg.refl [g + 1] w3).set (.inl (hm _ rfl)) _).set (.inl (hm _ rfl)) _).set (.inl (hm _ rfl)) _).set (.inl (hm _ rfl)) _).set (.inl (hm _ rfl)) _).set (.inl (hm _ rfl)) _)
    rw [← hwf]
    obtain ⟨u0, u1, u2, u3, u4, u5, _⟩ := hAf.six
    refine bodyPost_ret (v := .agg #[.int .u16 call, .bool hs, .int .u32 seq, .bool true, .int .u32 (E.r.nx - 1), .slice A n c]) ?_ rfl ⟨true, E.r.nx - 1, rfl, by unfold End.ack; rw [if_neg hz], ?_, hcf⟩
    · simp [results, Try.results93, go_sem, u0, u1, u2, u3, u4, u5]
    · exact HE.out.chg hcg (by
        intro b hb hm
        simp at hb
        subst hb
        have := (HE.out.kind _ hm).2.2.2.2.1
        exact this HD.out.isT) (by
        intro b hb
        simp at hb
        subst hb
        exact HD.out.noB (by decide))
end Go.Proofs.Ytkmjpphmciaklaa
