/- slices.Equal of bytes; reading a slice of packets; the chapter's example. -/
import Derived.Test.YtkmjpphmciaklaaRecv6
namespace Go.Proofs.Ytkmjpphmciaklaa
open Go.RowKit
set_option linter.unusedVariables false
set_option linter.unusedSimpArgs false
attribute [local go_sem ↓] Go.wp_at_zero Go.wp_at_succ

theorem Bytes.at {w : World} {a : Option Addr} {n c : Nat} {d : List Int} (h : Bytes w (.slice a n c) d) : n = d.length ∧ ∀ k (hk : k < d.length), ∃ g o, a = some ⟨g, o, none⟩ ∧ g < w.heap.size ∧ w.cell? ⟨g, o + k, none⟩ = some (.int .u8 (d[k]'hk)) := by
  obtain ⟨A, c', he, hd⟩ := h
  simp only [Value.slice.injEq] at he
  obtain ⟨rfl, rfl, rfl⟩ := he
  refine ⟨rfl, fun k hk => ?_⟩
  obtain ⟨g, o, rfl, cs, fz, hg, hc⟩ := hd (by intro e; rw [e] at hk; simp at hk)
  refine ⟨g, o, rfl, (Array.getElem?_eq_some_iff.1 hg).1, ?_⟩
  have := hc k _ (List.getElem?_eq_getElem hk)
  simp [World.cell?, hg, this]

/-- Nothing but the tape's draws. -/
def Drawn (w wr : World) : Prop := ∃ n, wr = w.drewN n
theorem Drawn.refl (w : World) : Drawn w w := ⟨0, by rw [World.drewN_zero]⟩
theorem Drawn.drewN {w wr : World} (h : Drawn w wr) (k : Nat) : Drawn w (wr.drewN k) := by
  obtain ⟨n, rfl⟩ := h
  exact ⟨n + k, by rw [World.drewN_drewN]⟩
theorem Drawn.cell {w wr : World} (h : Drawn w wr) {p : Addr} : wr.cell? p = w.cell? p := by
  obtain ⟨n, rfl⟩ := h
  rfl
theorem Drawn.chg {w wr : World} (h : Drawn w wr) (F : List Nat) : Chg F w wr := by
  obtain ⟨n, rfl⟩ := h
  exact (Chg.refl _ _).drewN n

theorem take_step {l m : List Int} (k : Nat) (h : l.take k = m.take k) (h1 : k < l.length) (h2 : k < m.length) (e : l[k] = m[k]) : l.take (k + 1) = m.take (k + 1) := by
  rw [List.take_add_one, List.take_add_one, h, List.getElem?_eq_getElem h1, List.getElem?_eq_getElem h2, e]

set_option maxRecDepth 100000 in
set_option maxHeartbeats 2000000 in
theorem equal_q {S1 S2 : Nat → Prop} (v1 v2 : Value) (d1 d2 : List Int) (w : World) (h1 : BytS S1 w v1 d1) (h2 : BytS S2 w v2 d2) (hl : d1.length ≤ 1000000) (hl2 : d2.length ≤ 1000000) :
    Calls Try.prog 14 #[v1, v2] w fun e w' => e = .returned (.bool (decide (d1 = d2))) ∧ ∃ n, w' = w.drewN n := by
  obtain ⟨a1, n1, c1, rfl⟩ := h1.slice
  obtain ⟨a2, n2, c2, rfl⟩ := h2.slice
  obtain ⟨rfl, r1⟩ := h1.at
  obtain ⟨rfl, r2⟩ := h2.at
  have R1 := Lib.hid r1
  have R2 := Lib.hid r2
  clear r1 r2 h1 h2
  by_cases hlen : d1.length = d2.length
  · have HL := Lib.hid hlen
    rw [← hlen]
    clear hlen
    go_enter Try.func14, Try.ntmps14
    go_wp2_with fail
    go_loopg [5, 13] d1.length (fun g s5 s13 wr => ∃ k : Nat, k ≤ d1.length ∧ g = d1.length - k ∧ s13 = .int .i64 k ∧ d1.take k = d2.take k ∧ Drawn w wr)
    case atStart => exact ⟨0, by omega, by omega, rfl, by simp, Drawn.refl _⟩
    case round =>
      obtain ⟨k, hk, rfl, rfl, ht, hc⟩ := hrel
      have HT := Lib.hid ht
      have HC := Lib.hid hc
      clear ht hc
      by_cases hkl : k < d1.length
      · have hk2 : k < d2.length := by have := HL.out; omega
        obtain ⟨g1, o1, rfl, hb1, e1⟩ := R1.out k hkl
        obtain ⟨g2, o2, rfl, hb2, e2⟩ := R2.out k hk2
        have hc1 : wr.cell? ⟨g1, o1 + k, none⟩ = some (.int .u8 d1[k]) := by rw [HC.out.cell]; exact e1
        have hc2 : wr.cell? ⟨g2, o2 + k, none⟩ = some (.int .u8 d2[k]) := by rw [HC.out.cell]; exact e2
        clear e1 e2
        by_cases he : d1[k] = d2[k]
        · have HE := Lib.hid he
          rw [← he] at hc2
          clear he
          obtain ⟨x, hx⟩ : ∃ x, x = d1[k] := ⟨_, rfl⟩
          rw [← hx] at hc1 hc2
          clear hx
          go_wp2_with fail
          go_quiet (fail)
          go_wp2_with fail
          go_roundg (d1.length - (k + 1))
          case measure => omega
          case rel => exact ⟨k + 1, by omega, rfl, rfl, take_step k HT.out hkl hk2 HE.out, HC.out.drewN _⟩
        · have hne : decide (d1 = d2) = false := decide_eq_false (fun e => he (by subst e; rfl))
          have HNE := Lib.hid hne
          obtain ⟨x, hx⟩ : ∃ x, x = d1[k] := ⟨_, rfl⟩
          obtain ⟨y, hy⟩ : ∃ y, y = d2[k] := ⟨_, rfl⟩
          rw [← hx] at hc1 he
          rw [← hy] at hc2 he
          clear hx hy hne
          go_wp2_with fail
          go_quiet (fail)
          go_wp2_with fail
          go_ret
          exact ⟨by rw [HNE.out]; rfl, HC.out.drewN _⟩
      · obtain rfl : k = d1.length := by omega
        have hne : decide (d1 = d2) = true := decide_eq_true (by
          have h := HT.out
          have e := HL.out
          rw [List.take_of_length_le (Nat.le_refl _), e, List.take_of_length_le (Nat.le_refl _)] at h
          exact h)
        have HNE := Lib.hid hne
        clear hne
        go_wp2_with fail
        go_ret
        exact ⟨by rw [HNE.out]; rfl, HC.out⟩
  · have hne : decide (d1 = d2) = false := decide_eq_false (fun e => hlen (by rw [e]))
    have HNE := Lib.hid hne
    clear hne
    go_enter Try.func14, Try.ntmps14
    go_wp2_with fail
    go_ret
    exact ⟨by rw [HNE.out]; rfl, Drawn.refl _⟩

theorem equal_any (v1 v2 : Value) (d1 d2 : List Int) (w : World) (h1 : Bytes w v1 d1) (h2 : Bytes w v2 d2) (hl : d1.length ≤ 1000000) (hl2 : d2.length ≤ 1000000) :
    Calls Try.prog 14 #[v1, v2] w fun e w' => e = .returned (.bool (decide (d1 = d2))) ∧ Chg [] w w' :=
  (equal_q v1 v2 d1 d2 w h1.wide h2.wide hl hl2).mono fun e w' ⟨h1, n, h2⟩ => ⟨h1, by rw [h2]; exact (Chg.refl _ _).drewN n⟩

theorem cellsOf_at {o : List (Int × Value)} : ∀ {k : Nat} (hk : k < o.length), (cellsOf o)[k * 2]? = some (.int .u32 (o[k].1)) ∧ (cellsOf o)[k * 2 + 1]? = some (o[k].2) := by
  induction o with
  | nil => intro k hk; simp at hk
  | cons x o ih =>
    intro k hk
    cases k with
    | zero => exact ⟨rfl, rfl⟩
    | succ k =>
      have := ih (k := k) (by simpa using hk)
      have e1 : (k + 1) * 2 = k * 2 + 1 + 1 := by omega
      rw [e1]
      exact this
theorem RelL.at {α β : Type} {R : α → β → Prop} : ∀ {l : List (Int × α)} {a : List (Int × β)} (h : RelL R l a) {k : Nat} (h1 : k < l.length) (h2 : k < a.length), l[k].1 = a[k].1 ∧ R l[k].2 a[k].2
  | [], [], _, k, h1, _ => by simp at h1
  | p :: l, q :: a, hr, 0, _, _ => ⟨hr.1, hr.2.1⟩
  | p :: l, q :: a, hr, k + 1, h1, h2 => RelL.at hr.2.2 (by simpa using h1) (by simpa using h2)
  | [], _ :: _, hr, _, _, _ => hr.elim
  | _ :: _, [], hr, _, _, _ => hr.elim
/-- A slice of packets: how it looks, and each of its packets. -/
theorem OutIs.at {w : World} {base : Nat} {v : Value} {out : List (Int × List Int)} (h : OutIs w base v out) :
    ∃ a c, v = .slice a out.length c ∧ ∀ k (hk : k < out.length), ∃ g d, a = some ⟨g, 0, none⟩ ∧ base ≤ g ∧ g < w.heap.size ∧ NoB w g ∧ w.cell? ⟨g, k * 2, none⟩ = some (.int .u32 (out[k].1)) ∧ w.cell? ⟨g, k * 2 + 1, none⟩ = some d ∧ Bytes w d out[k].2 := by
  obtain ⟨o, ⟨hl, ho⟩, hr⟩ := h
  have hlen := hr.len
  rcases ho with ⟨rfl, h0⟩ | ⟨g, cap, cur, rfl, hg, hb, hn, hcap, hsz, htk⟩
  · exact ⟨none, 0, by rw [← hlen, h0], fun k hk => by omega⟩
  · refine ⟨_, _, by rw [hlen], fun k hk => ?_⟩
    have hk' : k < o.length := by omega
    obtain ⟨e1, e2⟩ := cellsOf_at hk'
    obtain ⟨r1, r2⟩ := hr.at hk' hk
    rw [← htk] at e1 e2
    rw [List.getElem?_take_of_lt (by omega)] at e1 e2
    refine ⟨g, o[k].2, rfl, hg, (Array.getElem?_eq_some_iff.1 hb).1, fun cs fz he => ?_, ?_, ?_, r2⟩
    · rw [hb] at he
      simp at he
    · rw [← r1]
      simpa [World.cell?, hb] using e1
    · simpa [World.cell?, hb] using e2
end Go.Proofs.Ytkmjpphmciaklaa
