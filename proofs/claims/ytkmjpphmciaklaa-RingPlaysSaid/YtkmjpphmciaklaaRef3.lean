/- Contracts of catwalkref31 over this seat's translation: skip, Tick. -/
import Derived.Test.YtkmjpphmciaklaaRef2
namespace Go.Proofs.Ytkmjpphmciaklaa
open Go.RowKit
set_option linter.unusedVariables false
set_option linter.unusedSimpArgs false
attribute [local go_sem ↓] Go.wp_at_zero Go.wp_at_succ

def RefPost (B q : Nat) (r' : Rcv Value) (out : List (Int × Value)) (v0 : Value) (w : World) (e : Ending) (w' : World) : Prop :=
  ∃ o v, e = .returned o ∧ Own 31 2 w' w.heap.size o (pk out) ∧ RefAt w' B q v r' ∧ Chg (q :: v0.ownBlock.toList) w w'
theorem HandPost.ref {B q : Nat} {r : Rcv Value} {v0 : Value} {now : Int} {w : World} {e : Ending} {w' : World} (h : HandPost B q r v0 now w e w') : RefPost B q (r.run r.nx now).1 (r.run r.nx now).2 v0 w e w' := by
  obtain ⟨o, v, he, h1, h2, h3, _⟩ := h
  exact ⟨o, v, he, h1, h2, h3.mono (fun x hx => by simp at hx; subst hx; left; simp)⟩

set_option maxRecDepth 100000 in
set_option maxHeartbeats 2000000 in
theorem skip_any (B q : Nat) (v0 : Value) (r : Rcv Value) (now : Int) (w : World) (hr : RefAt w B q v0 r) (hB : B ≤ w.heap.size) (ok : r.Ok) (hne : r.l ≠ []) (hlen : r.l.length ≤ 1000) :
    Calls Try.prog 54 #[.pointer (some ⟨q, 0, none⟩), .int .i64 now] w (RefPost B q (r.run (leastK r.nx r.l) now).1 (r.run (leastK r.nx r.l) now).2 v0 w) := by
  have HR := Lib.hid hr
  have OK := Lib.hid ok
  have hq : q < w.heap.size := hr.1.lt
  have hpos : 0 < r.l.length := List.length_pos_iff.2 hne
  obtain ⟨a, cap, rfl, hcap, hcell⟩ := hr.cells
  obtain ⟨g0, rfl, hg0, hgl0, e00, e01⟩ := hcell 0 hpos
  have hcells : ∀ k (hk : k < r.l.length), w.cell? ⟨g0, k * 2, none⟩ = some (.int .u32 (r.l[k]'hk).1) := fun k hk => by
    obtain ⟨g, e, _, _, e0, _⟩ := hcell k hk
    simp only [Option.some.injEq, Addr.mk.injEq, and_true] at e
    rw [e]; exact e0
  obtain ⟨c0, c1, c2, c3, f0, f1, f2, f3⟩ := hr.1.four
  obtain ⟨b0, hb0⟩ : ∃ b0, b0 = (r.l[0]'hpos).1 := ⟨_, rfl⟩
  have d0 : w.cell? ⟨g0, 0, none⟩ = some (.int .u32 b0) := by rw [hb0]; exact hcells 0 hpos
  have HB0 := Lib.hid hb0
  have HC := Lib.hid hcells
  have hpos' : (0 : Int) < (r.l.length : Nat) := by omega
  have hkb : ∀ k (hk : k < r.l.length), 0 ≤ (r.l[k]'hk).1 ∧ (r.l[k]'hk).1 < 4294967296 ∧ off r.nx (r.l[k]'hk).1 < 2147483648 := fun k hk => ok.keys _ (List.getElem_mem hk)
  have HKB := Lib.hid hkb
  clear hr ok hne hcell hb0 e00 e01 hcells hkb
  go_enter Try.func54, Try.ntmps54
  go_wp2_with fail
  go_loopg [5, 6] r.l.length (fun g s5 s6 wr => ∃ (k j : Nat) (hj : j < r.l.length), k ≤ r.l.length ∧ g = r.l.length - k ∧ s6 = .int .i64 k ∧ s5 = .int .u32 (r.l[j]'hj).1 ∧ (∀ i (hi : i < r.l.length), i < k → off r.nx (r.l[j]'hj).1 ≤ off r.nx (r.l[i]'hi).1) ∧ w = wr)
  case atStart => exact ⟨0, 0, hpos, by omega, rfl, rfl, by rw [HB0.out], fun i hi h => by omega, rfl⟩
  case round =>
    obtain ⟨k, j, hj, hk, rfl, rfl, rfl, hmin, rfl⟩ := hrel
    obtain ⟨best, hbest⟩ : ∃ b, b = (r.l[j]'hj).1 := ⟨_, rfl⟩
    have hbb := HKB.out j hj
    rw [← hbest] at hmin hbb ⊢
    have HM := Lib.hid hmin
    have HBE := Lib.hid hbest
    clear hmin hbest
    obtain ⟨hb1, hb2, hb3⟩ := hbb
    by_cases hkl : k < r.l.length
    · have hkl' : ((k : Nat) : Int) < (r.l.length : Nat) := by omega
      have hxb := HKB.out k hkl
      have ck := HC.out k hkl
      obtain ⟨x, hx⟩ : ∃ x, x = (r.l[k]'hkl).1 := ⟨_, rfl⟩
      rw [← hx] at hxb ck
      obtain ⟨hx1, hx2, hx3⟩ := hxb
      have HX := Lib.hid hx
      have CL := Lib.hid (less02_any x best w hx1 hx2 hb1 hb2)
      have HL := Lib.hid (less_off r.nx x best hx1 hx2 hb1 hb2 hx3 hb3)
      clear hx
      by_cases hlt : off r.nx x < off r.nx best
      · have hd := decide_eq_true hlt
        rw [← HL.out] at hd
        have HD := Lib.hid hd
        have HLT := Lib.hid hlt
        clear hd hlt
        go_wp2_with fail
        refine CL.out.mono ?_; rintro e' w' ⟨rfl, rfl⟩
        rw [HD.out]
        go_wp2_with fail
        go_roundg (r.l.length - (k + 1))
        case measure => omega
        case rel =>
          refine ⟨k + 1, k, hkl, by omega, rfl, rfl, by rw [HX.out], fun i hi h => ?_, rfl⟩
          rw [← HX.out]
          by_cases e : i = k
          · subst e; rw [← HX.out]; omega
          · have h1 := HM.out i hi (by omega)
            have h2 := HLT.out
            omega
      · have hd := decide_eq_false hlt
        rw [← HL.out] at hd
        have HD := Lib.hid hd
        have HLT := Lib.hid hlt
        clear hd hlt
        go_wp2_with fail
        refine CL.out.mono ?_; rintro e' w' ⟨rfl, rfl⟩
        rw [HD.out]
        go_wp2_with fail
        go_roundg (r.l.length - (k + 1))
        case measure => omega
        case rel =>
          refine ⟨k + 1, j, hj, by omega, rfl, rfl, by rw [HBE.out], fun i hi h => ?_, rfl⟩
          rw [← HBE.out]
          by_cases e : i = k
          · subst e; have := HLT.out; rw [← HX.out]; omega
          · exact HM.out i hi (by omega)
    · obtain rfl : k = r.l.length := by omega
      have hkk : best = leastK r.nx r.l := by
        obtain ⟨⟨p, hp, e1⟩, e2⟩ := leastK_spec r.nx r.l (List.ne_nil_of_length_pos hpos)
        obtain ⟨i, hi, rfl⟩ := List.mem_iff_getElem.1 hp
        have h2 := HKB.out i hi
        have h3 := e2 _ (List.getElem_mem hj)
        have h4 := HM.out i hi hi
        rw [e1] at h3 ⊢
        rw [← HBE.out] at h3
        exact off_inj r.nx best _ hb1 hb2 h2.1 h2.2.1 (by omega)
      have hcs : Chg [q] w (w.setCell ⟨q, 0, none⟩ (.int .u32 best)) := (Chg.refl _ _).set (by simp) _
      have hr2 : RefAt (w.setCell ⟨q, 0, none⟩ (.int .u32 best)) B q (.slice (some ⟨g0, 0, none⟩) r.l.length cap) ⟨best, r.l, r.since, r.twice⟩ :=
        ⟨HR.out.1.set 0 _, HR.out.2.1.chg hcs (fun x hx => by simp at hx; subst hx; exact HR.out.2.1.ne HR.out.1 (by decide)), HR.out.2.2⟩
      have CT := Lib.hid (hand_any B q _ _ now _ hr2 (Nat.le_trans hB hcs.size) hb1 hb2 hlen)
      have HK := Lib.hid hkk
      have HCS := Lib.hid hcs
      clear hcs hr2 hkk
      go_wp2_with fail
      refine CT.out.mono ?_
      rintro e' w' hp
      obtain ⟨o, v, rfl, h1, h2, h3⟩ := hp.ref
      have H1 := Lib.hid h1
      have H2 := Lib.hid h2
      have H3 := Lib.hid h3
      clear h1 h2 h3 hp CT
      go_wp2_with fail
      go_ret
      rw [← HK.out]
      refine ⟨o, v, rfl, ?_, H2.out, ?_⟩
      · exact H1.out.mono HCS.out.size
      · exact (HCS.out.mono (fun x hx => by simp at hx; subst hx; left; simp)).trans H3.out
end Go.Proofs.Ytkmjpphmciaklaa
