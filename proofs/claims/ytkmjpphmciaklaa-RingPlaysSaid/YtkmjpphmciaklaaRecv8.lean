/- The chapter's example of layer 31. -/
import Derived.Test.YtkmjpphmciaklaaRecv7
namespace Go.Proofs.Ytkmjpphmciaklaa
open Go.RowKit
set_option linter.unusedVariables false
set_option linter.unusedSimpArgs false
attribute [local go_sem ↓] Go.wp_at_zero Go.wp_at_succ

theorem ex31_1 : (⟨0, [], 0, 0⟩ : Rcv (List Int)).put 0 1 [] = (⟨0, [(1, [])], 0, 0⟩, []) := by rfl
theorem ex31_2 : (⟨0, [(1, [])], 0, 0⟩ : Rcv (List Int)).put 0 0 [] = (⟨2, [], 0, 0⟩, [(0, []), (1, [])]) := by rfl

set_option maxRecDepth 100000 in
set_option maxHeartbeats 2000000 in
theorem alive31_any (w : World) : Calls Try.prog 15 #[] w fun e w' => e = .returned (.bool true) ∧ Chg [] w w' := by
  go_enter Try.func15, Try.ntmps15
  go_wp2_with fail
  refine (recv_new _ _).mono ?_
  rintro e w1 ⟨p, m, rfl, hp, hm, hrc, hch⟩
  have h1 : RcvIs w1 p m ⟨0, [], 0, 0⟩ := ⟨_, hrc, rfl, trivial, rfl, rfl⟩
  have H1 := Lib.hid h1
  have C1 := Lib.hid hch
  clear hrc hch h1
  go_wp2_with fail
  refine (put_is p m ⟨0, [], 0, 0⟩ 0 1 _ [] w1 H1.out ⟨by decide, by decide, by simp⟩ (by simp) (Bytes.nil _) (by simp) (by decide) (by decide) (by decide) (by decide)).mono ?_
  rintro e w2 ⟨o, rfl, ho, hrc, hch⟩
  rw [ex31_1] at ho hrc
  obtain ⟨oa, oc, rfl, -⟩ := ho.at
  have H2 := Lib.hid hrc
  have C2 := Lib.hid (C1.out.trans' hch (by intro x hx; simp at hx; rcases hx with rfl | rfl <;> right <;> assumption))
  clear hrc hch ho
  go_wp2_with fail
  refine (put_is p m ⟨0, [(1, [])], 0, 0⟩ 0 0 _ [] w2 H2.out ⟨by decide, by decide, by intro q hq; simp at hq; subst hq; decide⟩ (by simp) (Bytes.nil _) (by simp) (by decide) (by decide) (by decide) (by decide)).mono ?_
  rintro e w3 ⟨o, rfl, ho, hrc, hch⟩
  rw [ex31_2] at ho hrc
  obtain ⟨pa, pc, rfl, hat⟩ := ho.at
  obtain ⟨g, d0, rfl, hg0, hg1, hnb, e0, e1, hb0⟩ := hat 0 (by simp)
  obtain ⟨g', d1, hgg, hg0', hg1', hnb', e2, e3, hb1⟩ := hat 1 (by simp)
  obtain rfl : g = g' := by simpa using hgg
  have H3 := Lib.hid hrc
  have C3 := Lib.hid (C2.out.trans' hch (by intro x hx; simp at hx; rcases hx with rfl | rfl <;> right <;> assumption))
  obtain ⟨r3, hr3, hrel3⟩ := hrc
  have hx : r3.nx = 2 := hrel3.1
  have e0' : w3.cell? ⟨g, 0, none⟩ = some (.int .u32 0) := e0
  have e2' : w3.cell? ⟨g, 2, none⟩ = some (.int .u32 1) := e2
  have CT := Lib.hid (next_any p m r3 w3 hr3)
  have HX := Lib.hid hx
  clear hch ho hat hgg e0 e1 e2 e3 hr3 hrel3 hx hnb hnb' hb0 hb1
  go_wp2_with fail
  refine CT.out.mono ?_
  rintro e w4 ⟨rfl, rfl⟩
  rw [HX.out]
  go_wp2_with fail
  go_ret
  exact ⟨rfl, C3.out⟩
end Go.Proofs.Ytkmjpphmciaklaa
