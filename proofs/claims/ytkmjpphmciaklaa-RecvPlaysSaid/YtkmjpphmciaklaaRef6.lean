/- The plain parts of RecvPlays. -/
import Derived.Test.YtkmjpphmciaklaaRef5
import Derived.Test.YtkmjpphmciaklaaRisesLaw
namespace Go.Proofs.Ytkmjpphmciaklaa
open Go.RowKit
set_option linter.unusedVariables false
set_option linter.unusedSimpArgs false

/-- Behind k rounds. -/
def PlaySt (first : Int) (p m q : Nat) (k : Nat) (now : Int) (w wr : World) : Prop :=
  ∃ (a : Rcv (List Int)) (v : Value), a.Ok ∧ a.l.length ≤ 8 ∧ 0 ≤ a.twice ∧ a.twice ≤ k ∧ 0 ≤ a.since ∧ a.since ≤ now ∧ now ≤ 100 * k ∧ (∀ x ∈ a.l, x.2.length ≤ 100) ∧ RcvIs wr p m a ∧ RefIs wr w.heap.size q v a ∧ Chg [] w wr
theorem PlaySt.chg {first : Int} {p m q k : Nat} {now : Int} {w wr wx : World} (h : PlaySt first p m q k now w wr) (c : Chg [] wr wx) : PlaySt first p m q k now w wx := by
  obtain ⟨a, v, r1, r2, r3, r4, r5, r6, r7, r8, r9, r10, r11⟩ := h
  exact ⟨a, v, r1, r2, r3, r4, r5, r6, r7, r8, r9.chg c (by simp) (by simp) (by simp), r10.chg c (by simp) (by simp), r11.trans c⟩
theorem PlaySt.below {first : Int} {p m q k : Nat} {now : Int} {w wr : World} (h : PlaySt first p m q k now w wr) : Below w.heap.size w wr := by
  obtain ⟨a, v, r1, r2, r3, r4, r5, r6, r7, r8, r9, r10, r11⟩ := h
  exact r11.below (Nat.le_refl _) (by simp)
/-- What both hand on in a round. -/
def PlayGot (p m q : Nat) (k : Nat) (now : Int) (s10 s11 : Value) (w wr : World) : Prop :=
  ∃ (a : Rcv (List Int)) (v : Value) (out : List (Int × List Int)), SeqAt (fun _ => True) wr s10 out ∧ SeqAt (fun _ => True) wr s11 out ∧ out.length ≤ 9 ∧ (∀ x ∈ out, x.2.length ≤ 100) ∧
    a.Ok ∧ a.l.length ≤ 8 ∧ 0 ≤ a.twice ∧ a.twice ≤ k + 1 ∧ 0 ≤ a.since ∧ a.since ≤ now ∧ (∀ x ∈ a.l, x.2.length ≤ 100) ∧ RcvIs wr p m a ∧ RefIs wr w.heap.size q v a ∧ Chg [] w wr

section
variable {p m q k : Nat} {now : Int} {w wx w3 w4 : World} {o o2 v v' : Value} {a a' : Rcv (List Int)} {out : List (Int × List Int)}
/-- Behind the receiver's call: the reference's receiver is as it was. -/
theorem play_mid (hr : RcvIs wx p m a) (hR : RefIs wx w.heap.size q v a) (hch : Chg [p, m] wx w3) (hp : w.heap.size ≤ p) (hm : w.heap.size ≤ m) : RefIs w3 w.heap.size q v a :=
  hR.chg hch (by intro x hx; simp at hx; rcases hx with rfl | rfl <;> assumption) (by
    intro x hx
    simp at hx
    rcases hx with rfl | rfl
    · exact ⟨fun h => h.ne hr.kind.1 (by decide) rfl, fun h => h.ne hr.kind.1 (by decide) rfl⟩
    · exact ⟨hr.kind.2 _, hr.kind.2 _⟩)
/-- Behind both calls. -/
theorem play_got (hr : RcvIs wx p m a) (hR : RefIs wx w.heap.size q v a) (hw : Chg [] w wx) (hp : w.heap.size ≤ p) (hm : w.heap.size ≤ m) (hq : w.heap.size ≤ q)
    (ho : OutIs w3 wx.heap.size o out) (hrc : RcvIs w3 p m a') (hch : Chg [p, m] wx w3) (ho2 : OutR w4 w.heap.size w3.heap.size o2 out) (hR2 : RefIs w4 w.heap.size q v' a') (hch2 : Chg (refF q v) w3 w4)
    (b1 : out.length ≤ 9) (b2 : ∀ x ∈ out, x.2.length ≤ 100) (b3 : a'.Ok) (b4 : a'.l.length ≤ 8) (b5 : 0 ≤ a'.twice) (b6 : a'.twice ≤ k + 1) (b7 : 0 ≤ a'.since) (b8 : a'.since ≤ now) (b9 : ∀ x ∈ a'.l, x.2.length ≤ 100) :
    PlayGot p m q k now o o2 w w4 := by
  have hk := hR.kind hq
  have hk3 := (play_mid hr hR hch hp hm).kind hq
  have hnb : ∀ x ∈ refF q v, NoB w3 x := fun x hx => by
    rcases (hk3 x hx).2.2 with h | h
    · exact h.noB (by decide)
    · exact h.noB (by decide)
  refine ⟨a', v', out, (ho.chg hch2 (fun x hx => ⟨(hk x hx).2.1, hnb x hx⟩)).seq, ho2.seq, b1, b2, b3, b4, b5, b6, b7, b8, b9, hrc.chg hch2 ?_ ?_ hnb, hR2, ?_⟩
  · intro hx
    rcases (hk3 p hx).2.2 with h | h
    · exact h.ne hrc.kind.1 (by decide) rfl
    · exact h.ne hrc.kind.1 (by decide) rfl
  · intro hx
    rcases (hk3 m hx).2.2 with h | h
    · exact hrc.kind.2 _ h
    · exact hrc.kind.2 _ h
  · exact (hw.trans' hch (by intro x hx; simp at hx; rcases hx with rfl | rfl <;> right <;> assumption)).trans' hch2 (fun x hx => Or.inr (hk3 x hx).1)
end

theorem quiet_l {P : Program} {f : FuncId} {args : Array Value} {w : World} {n : Nat} {v : Value}
    (h : Calls P f args (w.drewN n) fun e w' => e = .returned v ∧ w.drewN n = w') : Calls P f args (w.drewN n) fun e w'' => e = .returned v ∧ ∃ m, w'' = w.drewN m :=
  h.mono fun _ _ ⟨he, hm⟩ => ⟨he, n, hm.symm⟩

end Go.Proofs.Ytkmjpphmciaklaa
