/- Contracts of catwalk/recv over this seat's translation: Tick; and both, said of lists of bytes. -/
import Derived.Test.YtkmjpphmciaklaaRecv4
namespace Go.Proofs.Ytkmjpphmciaklaa
open Go.RowKit
set_option linter.unusedVariables false
set_option linter.unusedSimpArgs false
attribute [local go_sem ↓] Go.wp_at_zero Go.wp_at_succ

/-- What Tick leaves. -/
def TickPost (p m : Nat) (r : Rcv Value) (now : Int) (w : World) (e : Ending) (w' : World) : Prop :=
  ∃ o, e = .returned o ∧ w'.ownsRow w.heap.size 31 2 o (r.tick now).2.length (cellsOf (r.tick now).2) ∧ RcvAt w' p m (r.tick now).1 ∧ Chg [p, m] w w'

set_option maxRecDepth 100000 in
set_option maxHeartbeats 2000000 in
theorem tick_any (p m : Nat) (r : Rcv Value) (now : Int) (w : World) (hr : RcvAt w p m r) (ok : r.Ok) (hv : Vals r.l) (hlen : r.l.length ≤ 1000) (hn0 : 0 ≤ now) (hn1 : now ≤ 1000000000) (hs0 : 0 ≤ r.since) (hs1 : r.since ≤ 1000000000) :
    Calls Try.prog 23 #[.pointer (some ⟨p, 0, none⟩), .int .i64 now] w (TickPost p m r now w) := by
  have HR := Lib.hid hr
  have HV := Lib.hid hv
  have OK := Lib.hid ok
  obtain ⟨c0, c1, c2, c3, f0, f1, f2, f3⟩ := hr.1.four
  have hln := len_map (P := Try.prog) (w := w) Try.underlying97 3 hr.2
  clear hr hv ok
  by_cases he : r.l = []
  · have hz : r.l.length = 0 := by rw [he]; rfl
    rw [hz] at hln
    have HE := Lib.hid he
    clear he hz
    go_enter Try.func23, Try.ntmps23
    go_wp2_with fail
    go_ret
    have ht : r.tick now = (r, []) := by unfold Rcv.tick; rw [HE.out]; rfl
    refine ⟨_, rfl, ?_, ?_, Chg.refl _ _⟩
    · rw [ht]; exact ⟨rfl, .inl ⟨rfl, rfl⟩⟩
    · rw [ht]; exact HR.out
  · have hz : 0 < r.l.length := List.length_pos_iff.2 he
    have HE := Lib.hid he
    clear he
    by_cases hd : now - r.since < 4
    · go_enter Try.func23, Try.ntmps23
      go_wp2_with fail
      go_ret
      have ht : r.tick now = (r, []) := by unfold Rcv.tick; simp [hd]
      refine ⟨_, rfl, ?_, ?_, Chg.refl _ _⟩
      · rw [ht]; exact ⟨rfl, .inl ⟨rfl, rfl⟩⟩
      · rw [ht]; exact HR.out
    · have HD := Lib.hid hd
      have CT := Lib.hid (least_any p m r w HR.out OK.out HE.out)
      have hpl := HR.out.1.lt
      go_enter Try.func23, Try.ntmps23
      go_wp2_with fail
      refine CT.out.mono ?_
      rintro e w' ⟨k, kv, hk, hmin, rfl, hch⟩
      have hkk : k = leastK r.nx r.l := by
        obtain ⟨⟨q, hq, e1⟩, e2⟩ := leastK_spec r.nx r.l HE.out
        have h1 := OK.out.keys _ hk
        have h2 := OK.out.keys _ hq
        have h3 := e2 _ hk
        have h4 := hmin _ hq
        rw [e1] at h3 ⊢
        exact off_inj r.nx k q.1 h1.1 h1.2.1 h2.1 h2.2.1 (by
          have h4' : off r.nx k ≤ off r.nx q.1 := h4
          have h3' : off r.nx q.1 ≤ off r.nx k := h3
          omega)
      have hk0 := (OK.out.keys _ hk).1
      have hk1 := (OK.out.keys _ hk).2.1
      have HK := Lib.hid hkk
      have HP2 := Lib.hid (HR.out.1.chg hch (by simp))
      have HM2 := Lib.hid (HR.out.2.chg hch (by simp))
      have HW2 := Lib.hid ((Chg.refl [p, m] w).trans' hch (by simp))
      have hs2 : w.heap.size ≤ w'.heap.size := hch.size
      clear hch hkk hk hmin CT hln c0 c1 c2 c3 f0 f1 f2 f3
      obtain ⟨c0, c1, c2, c3, f0, f1, f2, f3⟩ := HP2.out.four
      go_upto_region 4 with (fail)
      have hc3 : Chg [p] w' (w'.setCell ⟨p, 0, none⟩ (.int .u32 k)) := (Chg.refl [p] w').set (by simp) _
      have hx : RcvAt (w'.setCell ⟨p, 0, none⟩ (.int .u32 k)) p m ⟨k, r.l, r.since, r.twice⟩ :=
        ⟨HP2.out.set 0 (.int .u32 k), HM2.out.chg hc3 (by simp; exact fun e => Rcv.ne HR.out e.symm)⟩
      have HX := Lib.hid hx
      have HW3 := Lib.hid (HW2.out.trans' hc3 (by intro x hx; simp at hx; simp [hx]))
      have hs3 := hc3.size
      clear hx hc3 c0 c1 c2 c3 f0 f1 f2 f3
      generalize w'.setCell ⟨p, 0, none⟩ (.int .u32 k) = wx at *
      have CT := Lib.hid (run_any p m _ now wx HX.out HV.out hk0 hk1 (by show r.l.length ≤ _; omega))
      go_wp2_with fail
      refine CT.out.mono ?_
      rintro e w2 ⟨o, rfl, ho, hrc, hch⟩
      have HO := Lib.hid ho
      have HRC := Lib.hid hrc
      have HCH := Lib.hid hch
      clear ho hrc hch CT
      go_wp2_with fail
      go_ret
      have ht : r.tick now = r.run k now := by
        unfold Rcv.tick
        have h1 : r.l.isEmpty = false := by simpa using HE.out
        rw [h1, decide_eq_false (show ¬ (now - r.since < 4) by have := HD.out; omega), ← HK.out]
        rfl
      refine ⟨o, rfl, ?_, ?_, HW3.out.trans HCH.out⟩
      · rw [ht]; exact owns_mono HO.out (by omega)
      · rw [ht]; exact HRC.out
end Go.Proofs.Ytkmjpphmciaklaa
