/- The chapter's example of layer 30. -/
import Derived.Test.YtkmjpphmciaklaaSend6
namespace Go.Proofs.Ytkmjpphmciaklaa
open Go.RowKit
set_option linter.unusedVariables false
set_option linter.unusedSimpArgs false
attribute [local go_sem ↓] Go.wp_at_zero Go.wp_at_succ

theorem bytes_1 (w : World) (x : Int) : Bytes (w.alloc (.cells #[.int .u8 x] 5)) (.slice (some ⟨w.heap.size, 0, none⟩) 1 1) [x] :=
  ⟨_, _, rfl, fun _ => ⟨_, _, rfl, _, _, (MapKept.heap_alloc w _).1, fun j u hj => by
    cases j with
    | zero => simp at hj; subst hj; rfl
    | succ j => simp at hj⟩⟩

theorem ex30_0 : (⟨0, [], [], (cutZ 2 1 16 + 1) / 2, 0, cutZ 2 1 16, 8 * cutZ 1 1 64, 0, 0⟩ : Snd (List Int)) = ⟨0, [], [], 1, 0, 2, 8, 0, 0⟩ := by rfl
theorem ex30_1 : ((⟨0, [], [], 1, 0, 2, 8, 0, 0⟩ : Snd (List Int)).push [1]).push [2] = ⟨0, [], [[1], [2]], 1, 0, 2, 8, 0, 0⟩ := by rfl
theorem ex30_2 : (⟨0, [], [[1], [2]], 1, 0, 2, 8, 0, 0⟩ : Snd (List Int)).pump 0 = (⟨1, [(0, 0)], [[2]], 1, 0, 2, 8, 0, 0⟩, [(0, [1])]) := by rfl
theorem ex30_3 : ((⟨1, [(0, 0)], [[2]], 1, 0, 2, 8, 0, 0⟩ : Snd (List Int)).ack 1 0).2 = 1 ∧ ((⟨1, [(0, 0)], [[2]], 1, 0, 2, 8, 0, 0⟩ : Snd (List Int)).ack 1 0).1.air = [] := by constructor <;> rfl
theorem ex30_ok : (⟨0, [], [], 1, 0, 2, 8, 0, 0⟩ : Snd (List Int)).Ok := ⟨by decide, by decide, by decide, by decide, by unfold Win; decide, by decide, by decide, by decide, by decide, by simp, by simp, by decide, by decide⟩

theorem chg_at {F : List Nat} {w w' : World} {B : Nat} (h : Chg F w w') (hF : ∀ b ∈ F, B ≤ b) {a : World} (ha : Chg [] a w) (hB : a.heap.size ≤ B) : Chg [] a w' :=
  ha.trans' h (fun b hb => Or.inr (Nat.le_trans hB (hF b hb)))

set_option maxRecDepth 100000 in
set_option maxHeartbeats 2000000 in
theorem alive30_any (w : World) : Calls Try.prog 38 #[] w fun e w' => e = .returned (.bool true) ∧ Chg [] w w' := by
  go_enter Try.func38, Try.ntmps38
  go_wp2_with fail
  refine (send_new _ _ _ _).mono ?_
  rintro e w1 ⟨p, pr, g, rfl, hS, hch⟩
  have h1 : SndIs w1 w.heap.size p pr g (.slice none 0 0) 0 ⟨0, [], [], 1, 0, 2, 8, 0, 0⟩ := ⟨[], hS, trivial⟩
  have H1 := Lib.hid (h1.keep ((Chg.refl [] w1).alloc (.cells #[.int .u8 1] 5)))
  have C1 := Lib.hid (hch.alloc (.cells #[.int .u8 1] 5))
  have CT := Lib.hid (push_is _ _ _ _ _ _ _ _ _ _ H1.out (bytes_1 w1 1).wide (by simp))
  clear hS hch h1
  go_wp2_with fail
  refine CT.out.mono ?_
  rintro e w2 ⟨rfl, hS, hch⟩
  have C2 := Lib.hid (chg_at hch (fun b hb => (H1.out.kind b hb).1) C1.out (Nat.le_refl _))
  have H2 := Lib.hid (hS.keep ((Chg.refl [] w2).alloc (.cells #[.int .u8 2] 5)))
  have C2' := Lib.hid (C2.out.alloc (.cells #[.int .u8 2] 5))
  clear hS hch CT
  have CT := Lib.hid (push_is _ _ _ _ _ _ _ _ _ _ H2.out (bytes_1 w2 2).wide (by simp))
  go_wp2_with fail
  refine CT.out.mono ?_
  rintro e w3 ⟨rfl, hS, hch⟩
  have C3 := Lib.hid (chg_at hch (fun b hb => (H2.out.kind b hb).1) C2'.out (Nat.le_refl _))
  have H3 := Lib.hid hS
  clear hS hch CT
  have CT := Lib.hid (pump_is _ _ _ _ _ _ _ _ 0 H3.out C3.out.size (Snd.push_ok (Snd.push_ok ex30_ok [1]) [2]))
  rw [ex30_1] at CT
  go_wp2_with fail
  refine CT.out.mono ?_
  rintro e w4 ⟨o, va, fr, rfl, hO, hS, hch, hva⟩
  rw [ex30_2] at hO hS
  obtain ⟨oa, oc, rfl, hat⟩ := hO.at
  obtain ⟨go, d0, rfl, _, hgo, hnb, e0, e1, hb0⟩ := hat 0 (by simp)
  have e0' : w4.cell? ⟨go, 0, none⟩ = some (.int .u32 0) := e0
  have C4 := Lib.hid (chg_at hch (fun b hb => (H3.out.kind b hb).1) C3.out (Nat.le_refl _))
  have H4 := Lib.hid hS
  clear hS hch CT hO hva hat e0 e1 hb0 hnb hgo
  have OK4 : (⟨1, [(0, 0)], [[2]], 1, 0, 2, 8, 0, 0⟩ : Snd (List Int)).Ok := by
    have h := Snd.pump_ok (Snd.push_ok (Snd.push_ok ex30_ok [1]) [2]) (now := 0) (by decide) (by decide)
    rw [ex30_1, ex30_2] at h
    exact h
  have CT := Lib.hid (ack_is _ _ _ _ _ _ _ _ 1 0 H4.out C4.out.size OK4 (by decide) (by decide))
  rw [ex30_3.1] at CT
  have HOK := Lib.hid OK4
  clear OK4
  go_wp2_with fail
  refine CT.out.mono ?_
  rintro e w5 ⟨va', rfl, ⟨l, hS, hl⟩, hch, hva⟩
  have C5 := Lib.hid (chg_at hch (fun b hb => (H4.out.kind b hb).1) C4.out (Nat.le_refl _))
  have CA := Lib.hid (air_any _ _ _ _ _ _ _ _ hS)
  have e9 : (((⟨1, [(0, 0)], [[2]], 1, 0, 2, 8, 0, 0⟩ : Snd (List Int)).ack 1 0).1.at l).air.length = 0 := by
    show ((⟨1, [(0, 0)], [[2]], 1, 0, 2, 8, 0, 0⟩ : Snd (List Int)).ack 1 0).1.air.length = 0
    rw [ex30_3.2]; rfl
  rw [e9] at CA
  clear hS hl hch hva CT e9
  go_wp2_with fail
  refine CA.out.mono ?_
  rintro e w6 ⟨rfl, rfl⟩
  go_wp2_with fail
  go_ret
  exact ⟨rfl, C5.out⟩
end Go.Proofs.Ytkmjpphmciaklaa
