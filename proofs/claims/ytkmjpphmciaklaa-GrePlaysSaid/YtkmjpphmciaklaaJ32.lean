/- Two ends: one sends. -/
import Derived.Test.YtkmjpphmciaklaaJ31
namespace Go.Proofs.Ytkmjpphmciaklaa
open Go.RowKit
set_option linter.unusedVariables false
set_option linter.unusedSimpArgs false
attribute [local go_sem ↓] Go.wp_at_zero Go.wp_at_succ

theorem bytes_three (w : World) (x y z : Int) : Bytes (w.alloc (.cells #[.int .u8 x, .int .u8 y, .int .u8 z] 5)) (.slice (some ⟨w.heap.size, 0, none⟩) 3 3) [x, y, z] :=
  ⟨_, _, rfl, fun _ => ⟨_, _, rfl, _, _, (MapKept.heap_alloc w _).1, fun j u hj => by
    match j, hj with
    | 0, hj => simp at hj; subst hj; rfl
    | 1, hj => simp at hj; subst hj; rfl
    | 2, hj => simp at hj; subst hj; rfl
    | j + 3, hj => simp at hj⟩⟩
theorem RowT.low {R : Value → List Int → Prop} {w : World} {B B' : Nat} {v : Value} {P : List (Tun (List Int))} (h : RowT R w B v P) (hB : B' ≤ B) : RowT R w B' v P := by
  obtain ⟨l, r1, r2⟩ := h
  exact ⟨l, r1.mono hB, r2⟩

set_option maxRecDepth 100000 in
set_option maxHeartbeats 4000000 in
theorem turn_send_0 (w : World) (B pp : Nat) (kind n : Int) (q : Nat → Nat) (F : Nat → List Nat) (wv : Nat → Value) (P : Pair) (h : PairAt w B pp q F wv P) (ok : P.Ok) (hB : B ≤ w.heap.size) (hk : kind % 6 = 0 ∨ kind % 6 = 1) (hk0 : 0 ≤ kind) (hs : P.sent 0 < 10000) :
    Calls Try.prog 40 #[.pointer (some ⟨pp, 0, none⟩), .agg #[.int .i64 kind, .int .i64 n, .bool false]] w (PairPost B pp (P.sends 0) w) := by
  obtain ⟨wx, hwx⟩ : ∃ wx, wx = w.alloc (.cells #[.int .i64 kind, .int .i64 n, .bool false] 83) := ⟨_, rfl⟩
  have hcx : Chg [] w wx := by rw [hwx]; exact (Chg.refl _ _).alloc _
  have hbx := hcx.below hB (by simp)
  have hPx := h.keep hcx
  have HW := Lib.hid hwx
  have HP := Lib.hid hPx
  have HBX := Lib.hid hbx
  have OK := Lib.hid ok
  have hwxs : B ≤ wx.heap.size := Nat.le_trans hB hcx.size
  clear h ok hcx hbx hPx hwx
  go_enter Try.func40, Try.ntmps40
  go_upto_region 4 with (fail)
  go_cut [6] (fun s6 wq => wq = wx)
  case first =>
    by_cases hneg : n < 0
    · go_wp2_with fail
      go_meet
      exact HW.out.symm
    · go_wp2_with fail
      go_meet
      exact HW.out.symm
  case rest =>
    subst hcut
    obtain ⟨wx, hwx⟩ : ∃ z, z = wc := ⟨_, rfl⟩
    subst hwx
    have hbox : At wx w.heap.size 83 [.int .i64 kind, .int .i64 n, .bool false] := by rw [HW.out]; exact At.new w 83 [_, _, _]
    obtain ⟨b0, b1, b2, _⟩ := hbox.three
    obtain ⟨n0, n1, n2, n3, n4, n5, n6, n7, n8⟩ := HP.out.str.nine
    have z2 : ¬ kind % 6 = 2 := by omega
    have z3 : ¬ kind % 6 = 3 := by omega
    have z4 : ¬ kind % 6 = 4 := by omega
    have z5 : ¬ kind % 6 = 5 := by omega
    obtain ⟨kk, hkk⟩ : ∃ kk, kk = P.sent 0 + 1 := ⟨_, rfl⟩
    have hkk1 : (kk : Int) ≤ 10000 := by omega
    have hkk0 : (0 : Int) ≤ (kk : Int) := by omega
    have HKK : Hid (((P.sent 0 : Nat) : Int) + 1 = (kk : Int)) := Lib.hid (by omega)
    have HK2 := Lib.hid hkk
    clear hk hbox hkk
    go_upto_region 26 with (fail)
    rw [HKK.out]
    obtain ⟨m0, m1, m2, m3, m4, m5, m6, m7, m8⟩ := (HP.out.keep (Chg.refl [] wx).drew).str.nine
    have hcz : Chg [] wx (wx.alloc (.cells #[.int .u8 0, .int .u8 ((kk : Int) % 256), .int .u8 ((kk : Int) / 256)] 5)).drew := ((Chg.refl [] wx).alloc _).drew
    obtain ⟨wz, hwz⟩ : ∃ wz, wz = (wx.alloc (.cells #[.int .u8 0, .int .u8 ((kk : Int) % 256), .int .u8 ((kk : Int) / 256)] 5)).drew := ⟨_, rfl⟩
    rw [← hwz] at hcz
    have hby : Bytes wz (.slice (some ⟨wx.heap.size, 0, none⟩) 3 3) (say 0 kk) := by
      have h := (bytes_three wx 0 ((kk : Int) % 256) ((kk : Int) / 256)).chg (Chg.refl [] _).drew (by simp)
      have e : say 0 kk = [0, (kk : Int) % 256, (kk : Int) / 256] := by unfold say; simp
      rw [e, hwz]; exact h
    have hPz := HP.out.keep hcz
    have hBz : B ≤ wz.heap.size := Nat.le_trans hwxs hcz.size
    have CT := Lib.hid (send_end wz B (q 0) (F 0) (P.e 0) (P.now : Int) (some ⟨wx.heap.size, 0, none⟩) 3 (say 0 kk) (hPz.e 0 (by decide)) (OK.out.e 0 (by decide)).1 hBz hby.wide (by omega) (by have := OK.out.now; omega))
    have HBZ := Lib.hid (HBX.out.trans (hcz.below hwxs (by simp)))
    have HPZ := Lib.hid hPz
    have HWZ := Lib.hid hwz
    have z18 : wz.cell? ⟨pp, 0, none⟩ = some (.pointer (some ⟨q 0, 0, none⟩)) ∧ wz.cell? ⟨pp, 8, none⟩ = some (.int .i64 P.now) := ⟨hPz.str.cell 0, hPz.str.cell 8⟩
    have hwr : IntKind.u8.wrap ((kk : Int) % 256) = (kk : Int) % 256 := by rw [IntKind.wrap_u8]; omega
    have hwq : IntKind.u8.wrap ((kk : Int) / 256) = (kk : Int) / 256 := by rw [IntKind.wrap_u8]; omega
    clear hcz hwz hby hPz n0 n1 n2 n3 n4 n5 n6 n7 n8 z2 z3 z4 z5 b0 b1 b2
    refine wp_region_phase 24 (fun w' => w'.cell? ⟨pp, 0, none⟩ = some (.pointer (some ⟨q 0, 0, none⟩)) ∧ w'.cell? ⟨pp, 8, none⟩ = some (.int .i64 P.now)) (by kernel_rfl) ?_
    refine wpAnyP_with (by exact ⟨m0, m8⟩) (fun hSw => ?_)
    refine wpAnyP_take 0 [] (v := ?_) rfl (by kernel_rfl) (fun _ _ _ h => h) (by assumption) (Or.inl ⟨by rfl, ?_⟩) ?_
    rotate_left
    · (intro w hSw; (try dsimp only at hSw); obtain ⟨s0, s1⟩ := hSw; go_simp; try with_reducible rfl)
    simp only [List.getElem_toArray, List.getElem_cons_succ, List.getElem_cons_zero, Act.put, List.setIfInBounds_toArray, List.set_cons_zero, List.set_cons_succ]
    refine wpAnyP_take 1 [] (v := ?_) rfl (by kernel_rfl) (fun _ _ _ h => h) (by assumption) (Or.inl ⟨by rfl, ?_⟩) ?_
    rotate_left
    · (intro w hSw; (try dsimp only at hSw); obtain ⟨s0, s1⟩ := hSw; go_simp; try with_reducible rfl)
    simp only [List.getElem_toArray, List.getElem_cons_succ, List.getElem_cons_zero, Act.put, List.setIfInBounds_toArray, List.set_cons_zero, List.set_cons_succ]
    refine wpAnyP_take 2 [] (v := ?_) rfl (by kernel_rfl) (fun _ _ _ h => h) (by assumption) (Or.inl ⟨by rfl, ?_⟩) ?_
    rotate_left
    · (intro w hSw; (try dsimp only at hSw); obtain ⟨s0, s1⟩ := hSw; go_simp; try with_reducible rfl)
    simp only [List.getElem_toArray, List.getElem_cons_succ, List.getElem_cons_zero, Act.put, List.setIfInBounds_toArray, List.set_cons_zero, List.set_cons_succ]
    refine wpAnyP_take 3 [] (v := ?_) rfl (by kernel_rfl) (fun _ _ _ h => h) (by assumption) (Or.inl ⟨by rfl, ?_⟩) ?_
    rotate_left
    · (intro w hSw; (try dsimp only at hSw); obtain ⟨s0, s1⟩ := hSw; go_simp; try with_reducible rfl)
    simp only [List.getElem_toArray, List.getElem_cons_succ, List.getElem_cons_zero, Act.put, List.setIfInBounds_toArray, List.set_cons_zero, List.set_cons_succ]
    refine wpAnyP_take 4 [] (v := ?_) rfl (by kernel_rfl) (fun _ _ _ h => h) (by assumption) (Or.inl ⟨by rfl, ?_⟩) ?_
    rotate_left
    · (intro w hSw; (try dsimp only at hSw); obtain ⟨s0, s1⟩ := hSw; go_simp; try with_reducible rfl)
    simp only [List.getElem_toArray, List.getElem_cons_succ, List.getElem_cons_zero, Act.put, List.setIfInBounds_toArray, List.set_cons_zero, List.set_cons_succ]
    refine wpAnyP_take 5 [] (v := ?_) rfl (by kernel_rfl) (fun _ _ _ h => h) (by assumption) (Or.inl ⟨by rfl, ?_⟩) ?_
    rotate_left
    · (intro w hSw; (try dsimp only at hSw); obtain ⟨s0, s1⟩ := hSw; go_simp; try with_reducible rfl)
    simp only [List.getElem_toArray, List.getElem_cons_succ, List.getElem_cons_zero, Act.put, List.setIfInBounds_toArray, List.set_cons_zero, List.set_cons_succ]
    refine wpAnyP_take 6 [] (v := ?_) rfl (by kernel_rfl) (fun _ _ _ h => h) (by assumption) (Or.inl ⟨by rfl, ?_⟩) ?_
    rotate_left
    · (intro w hSw; (try dsimp only at hSw); obtain ⟨s0, s1⟩ := hSw; go_simp; try with_reducible rfl)
    simp only [List.getElem_toArray, List.getElem_cons_succ, List.getElem_cons_zero, Act.put, List.setIfInBounds_toArray, List.set_cons_zero, List.set_cons_succ]
    refine wpAnyP_take 7 [] (v := ?_) rfl (by kernel_rfl) (fun _ _ _ h => h) (by assumption) (Or.inl ⟨by rfl, ?_⟩) ?_
    rotate_left
    · (intro w hSw; (try dsimp only at hSw); obtain ⟨s0, s1⟩ := hSw; go_simp; try with_reducible rfl)
    simp only [List.getElem_toArray, List.getElem_cons_succ, List.getElem_cons_zero, Act.put, List.setIfInBounds_toArray, List.set_cons_zero, List.set_cons_succ]
    refine wpAnyP_take 8 [] (v := ?_) rfl (by kernel_rfl) (fun _ _ _ h => h) (by assumption) (Or.inl ⟨by rfl, ?_⟩) ?_
    rotate_left
    · (intro w hSw; (try dsimp only at hSw); obtain ⟨s0, s1⟩ := hSw; go_simp; try with_reducible rfl)
    simp only [List.getElem_toArray, List.getElem_cons_succ, List.getElem_cons_zero, Act.put, List.setIfInBounds_toArray, List.set_cons_zero, List.set_cons_succ]
    refine wpAnyP_take 9 [] (v := ?_) rfl (by kernel_rfl) (fun _ _ _ h => h) (by assumption) (Or.inl ⟨by rfl, ?_⟩) ?_
    rotate_left
    · (intro w hSw; (try dsimp only at hSw); obtain ⟨s0, s1⟩ := hSw; go_simp; try with_reducible rfl)
    simp only [List.getElem_toArray, List.getElem_cons_succ, List.getElem_cons_zero, Act.put, List.setIfInBounds_toArray, List.set_cons_zero, List.set_cons_succ]
    refine wpAnyP_take 10 [] (v := ?_) rfl (by kernel_rfl) (fun _ _ _ h => h) (by assumption) (Or.inl ⟨by rfl, ?_⟩) ?_
    rotate_left
    · (intro w hSw; (try dsimp only at hSw); obtain ⟨s0, s1⟩ := hSw; go_simp; try with_reducible rfl)
    simp only [List.getElem_toArray, List.getElem_cons_succ, List.getElem_cons_zero, Act.put, List.setIfInBounds_toArray, List.set_cons_zero, List.set_cons_succ]
    refine wpAnyP_take 11 [] (v := ?_) rfl (by kernel_rfl) (fun _ _ _ h => h) (by assumption) (Or.inl ⟨by rfl, ?_⟩) ?_
    rotate_left
    · (intro w hSw; (try dsimp only at hSw); obtain ⟨s0, s1⟩ := hSw; go_simp; try with_reducible rfl)
    simp only [List.getElem_toArray, List.getElem_cons_succ, List.getElem_cons_zero, Act.put, List.setIfInBounds_toArray, List.set_cons_zero, List.set_cons_succ]
    refine wpAnyP_take 12 [] (v := ?_) rfl (by kernel_rfl) (fun _ _ _ h => h) (by assumption) (Or.inl ⟨by rfl, ?_⟩) ?_
    rotate_left
    · (intro w hSw; (try dsimp only at hSw); obtain ⟨s0, s1⟩ := hSw; go_simp; try with_reducible rfl)
    simp only [List.getElem_toArray, List.getElem_cons_succ, List.getElem_cons_zero, Act.put, List.setIfInBounds_toArray, List.set_cons_zero, List.set_cons_succ]
    refine wpAnyP_take 13 [] (v := ?_) rfl (by kernel_rfl) (fun _ _ _ h => h) (by assumption) (Or.inl ⟨by rfl, ?_⟩) ?_
    rotate_left
    · (intro w hSw; (try dsimp only at hSw); obtain ⟨s0, s1⟩ := hSw; go_simp; try with_reducible rfl)
    simp only [List.getElem_toArray, List.getElem_cons_succ, List.getElem_cons_zero, Act.put, List.setIfInBounds_toArray, List.set_cons_zero, List.set_cons_succ]
    refine wpAnyP_take 14 [] (v := ?_) rfl (by kernel_rfl) (fun _ _ _ h => h) (by assumption) (Or.inl ⟨by rfl, ?_⟩) ?_
    rotate_left
    · (intro w hSw; (try dsimp only at hSw); obtain ⟨s0, s1⟩ := hSw; go_simp; try with_reducible rfl)
    simp only [List.getElem_toArray, List.getElem_cons_succ, List.getElem_cons_zero, Act.put, List.setIfInBounds_toArray, List.set_cons_zero, List.set_cons_succ]
    refine wpAnyP_take 15 [] (v := ?_) rfl (by kernel_rfl) (fun _ _ _ h => h) (by assumption) (Or.inl ⟨by rfl, ?_⟩) ?_
    rotate_left
    · (intro w hSw; (try dsimp only at hSw); obtain ⟨s0, s1⟩ := hSw; go_simp; try with_reducible rfl)
    simp only [List.getElem_toArray, List.getElem_cons_succ, List.getElem_cons_zero, Act.put, List.setIfInBounds_toArray, List.set_cons_zero, List.set_cons_succ]
    refine wpAnyP_take 16 [] (v := ?_) rfl (by kernel_rfl) (fun _ _ _ h => h) (by assumption) (Or.inl ⟨by rfl, ?_⟩) ?_
    rotate_left
    · (intro w hSw; (try dsimp only at hSw); obtain ⟨s0, s1⟩ := hSw; go_simp; try with_reducible rfl)
    simp only [List.getElem_toArray, List.getElem_cons_succ, List.getElem_cons_zero, Act.put, List.setIfInBounds_toArray, List.set_cons_zero, List.set_cons_succ]
    refine wpAnyP_take 17 [] (v := ?_) rfl (by kernel_rfl) (fun _ _ _ h => h) (by assumption) (Or.inl ⟨by rfl, ?_⟩) ?_
    rotate_left
    · (intro w hSw; (try dsimp only at hSw); obtain ⟨s0, s1⟩ := hSw; go_simp; try with_reducible rfl)
    simp only [List.getElem_toArray, List.getElem_cons_succ, List.getElem_cons_zero, Act.put, List.setIfInBounds_toArray, List.set_cons_zero, List.set_cons_succ]
    refine wpAnyP_one 18 rfl (by kernel_rfl) (fun K hK => ?_)
    rw [if_pos (by rfl)]
    go_wp2_with (fail)
    refine hold_with (by (try dsimp only at hSw); (have h := z18; rw [HWZ.out] at h; exact h)) (fun hSn => ?_)
    clear hSw; have hSw := hSn; clear hSn
    refine wpAnyP_one 19 rfl (by kernel_rfl) (fun K hK => ?_)
    rw [if_pos (by rfl)]
    go_wp2_with ((rw [← HWZ.out]; refine CT.out.mono ?_; rintro e w3 ⟨o, rfl, hT, hmv⟩; obtain ⟨F3, hP3, hc3⟩ := HPZ.out.end_to (t := 0) (by decide) hmv; have z19 : w3.cell? ⟨pp, 0, none⟩ = some (.pointer (some ⟨q 0, 0, none⟩)) ∧ w3.cell? ⟨pp, 8, none⟩ = some (.int .i64 P.now) := ⟨hP3.str.cell 0, hP3.str.cell 8⟩; have HP3 := Lib.hid hP3; have HT := Lib.hid (hT.low hBz); have HBL3 := Lib.hid (HBZ.out.trans (hc3.below hBz (HPZ.out.low.1 0 (by decide)))); have hs3 := Nat.le_trans hBz hc3.size; clear hT hmv hP3 hc3))
    refine hold_with (by (try dsimp only at hSw); exact z19) (fun hSn => ?_)
    clear hSw; have hSw := hSn; clear hSn
    refine wpAnyP_take 20 [] (v := ?_) rfl (by kernel_rfl) (fun _ _ _ h => h) (by assumption) (Or.inl ⟨by rfl, ?_⟩) ?_
    rotate_left
    · (intro w hSw; (try dsimp only at hSw); obtain ⟨s0, s1⟩ := hSw; go_simp; try with_reducible rfl)
    simp only [List.getElem_toArray, List.getElem_cons_succ, List.getElem_cons_zero, Act.put, List.setIfInBounds_toArray, List.set_cons_zero, List.set_cons_succ]
    refine wpAnyP_take 21 [] (v := ?_) rfl (by kernel_rfl) (fun _ _ _ h => h) (by assumption) (Or.inl ⟨by rfl, ?_⟩) ?_
    rotate_left
    · (intro w hSw; (try dsimp only at hSw); obtain ⟨s0, s1⟩ := hSw; go_simp; try with_reducible rfl)
    simp only [List.getElem_toArray, List.getElem_cons_succ, List.getElem_cons_zero, Act.put, List.setIfInBounds_toArray, List.set_cons_zero, List.set_cons_succ]
    refine wpAnyP_take 22 [] (v := ?_) rfl (by kernel_rfl) (fun _ _ _ h => h) (by assumption) (Or.inl ⟨by rfl, ?_⟩) ?_
    rotate_left
    · (intro w hSw; (try dsimp only at hSw); obtain ⟨s0, s1⟩ := hSw; go_simp; try with_reducible rfl)
    simp only [List.getElem_toArray, List.getElem_cons_succ, List.getElem_cons_zero, Act.put, List.setIfInBounds_toArray, List.set_cons_zero, List.set_cons_succ]
    refine wpAnyP_one 23 rfl (by kernel_rfl) (fun K hK => ?_)
    rw [if_pos (by rfl)]
    go_wp2_with (fail)
    refine hold_with (by (try dsimp only at hSw); exact hSw) (fun hSn => ?_)
    clear hSw; have hSw := hSn; clear hSn
    refine wpAnyP_one 24 rfl (by kernel_rfl) (fun K hK => ?_)
    rw [if_pos (by rfl)]
    go_wp2_with (fail)
    refine ⟨fun hz => (by simp at hz), ?_⟩
    refine wpAnyP_done (by kernel_rfl) ?_ _
    skip
    clear hSw z18 z19 m0 m1 m2 m3 m4 m5 m6 m7 m8 CT hwr hwq
    obtain ⟨r, hr⟩ : ∃ r, r = (P.e 0).send P.now (say 0 kk) := ⟨_, rfl⟩
    rw [← hr] at HP3 HT ⊢
    have HR := Lib.hid hr
    obtain ⟨m0, m1, m2, m3, m4, m5, m6, m7, m8⟩ := HP3.out.str.nine
    have hf4 : w3.frozen? ⟨pp, 4, none⟩ = false := HP3.out.str.frozen _
    clear hr
    go_upto_if 153 with (fail)
    go_cut [13] (fun s13 wq => PairAt wq B pp q F3 wv { P with e := upd P.e 0 r.1, sent := if r.2.2 then upd P.sent 0 kk else P.sent } ∧ RowT (Bytes wq) wq B o r.2.1 ∧ Below B w wq)
    case first =>
      cases hb : r.2.2 with
      | false =>
        go_wp2_with fail
        go_meet
        exact ⟨by simpa [hb] using HP3.out, HT.out, HBL3.out⟩
      | true =>
        go_wp2_with fail
        go_meet
        have hcs : Chg [pp] w3 (w3.setCell ⟨pp, 4, none⟩ (.int .i64 kk)) := (Chg.refl [pp] w3).set (by simp) _
        have h := HP3.out.own_to (w' := w3.setCell ⟨pp, 4, none⟩ (.int .i64 kk)) (got' := P.got) (sent' := upd P.sent 0 kk) (now' := P.now) (by
          have h2 := HP3.out.str.set 4 (.int .i64 kk)
          simpa [upd] using h2) hcs
        have hpb : NoB w3 pp := HP3.out.str.noB (by decide)
        refine ⟨by simpa [hb] using h, HT.out.chg hcs (fun b hb e => by simp at hb; subst hb; exact (HT.out.isT e).ne HP3.out.str.isT (by decide) rfl) (fun u d hd => hd.chg hcs (by simpa using hpb)), HBL3.out.trans (hcs.below hs3 (by intro b hb; simp at hb; subst hb; exact HP.out.hp))⟩
    case rest =>
      obtain ⟨hP4, hT4, hbl4⟩ := hcut
      obtain ⟨w4, hw4⟩ : ∃ z, z = wc := ⟨_, rfl⟩
      subst hw4
      have hs4 : B ≤ w4.heap.size := by have := hP4.str.lt; have := hP4.hp; omega
      have hP4d := hP4.keep (Chg.refl [] w4).drew
      obtain ⟨ta, tc, hto⟩ := hT4.slice
      subst hto
      obtain ⟨va, vc, hvv⟩ := (hP4d.way 0 (by decide)).slice
      simp only at hvv
      have hwayl := (OK.out.way 0 (by decide)).1
      have hrl : r.2.1.length ≤ 16 := by
        rw [HR.out]
        unfold End.send
        split
        · simp
        · have h := Snd.pump_len (Snd.push_ok (OK.out.e 0 (by decide)).1.s (say 0 kk)) P.now
          simpa using h
      obtain ⟨v5, w5, happ, hr5, hc5, hob5⟩ := rowT_app (hP4d.way 0 (by decide)) (hT4.keep (Chg.refl [] w4).drew) hs4 (by show (P.way 0).length + _ ≤ _; omega)
      have hP6 := hP4d.way_to (f := 0) (by decide) hc5 hr5 hob5
      have hbl5 := hc5.below hs4 (hP4d.low.2 0 (by decide))
      have hbl6 : Below B w5 (w5.setCell ⟨pp, 2, none⟩ v5) := ((Chg.refl [pp] w5).set (by simp) _).below (Nat.le_trans hs4 hc5.size) (by intro b hb; simp at hb; subst hb; exact hP4.hp)
      have hst5 := hP4d.str.chg hc5 (fun hm => ((hP4d.way 0 (by decide)).isT (by simpa using hm)).ne hP4d.str.isT (by decide) rfl)
      have hcell4 : w4.drew.cell? ⟨pp, 2, none⟩ = some (.slice va (P.way 0).length vc) := by
        have h := hP4d.str.cell 2
        rw [h]
        show some (wv 0) = _
        rw [hvv]
      have hcell5 : w5.cell? ⟨pp, 2, none⟩ = some (.slice va (P.way 0).length vc) := by
        have h := hst5.cell 2
        rw [h]
        show some (wv 0) = _
        rw [hvv]
      have hfr5 : w5.frozen? ⟨pp, 2, none⟩ = false := hst5.frozen _
      obtain ⟨va5, vc5, hv5⟩ := hr5.slice
      obtain ⟨n5, hn5⟩ : ∃ n5, n5 = (P.way 0 ++ r.2.1).length := ⟨_, rfl⟩
      simp only at hv5
      rw [← hn5] at hv5
      subst hv5
      rw [hvv] at happ
      have hfin : PairPost B pp (P.sends 0) w (.returned (.bool true)) (w5.setCell ⟨pp, 2, none⟩ (.slice va5 n5 vc5)) := by
        refine ⟨rfl, ?_, (hbl4.trans ((Chg.refl [] w4).drew.below hs4 (by simp))).trans (hbl5.trans hbl6)⟩
        have e : P.sends 0 = { P with e := upd P.e 0 r.1, sent := (if r.2.2 then upd P.sent 0 kk else P.sent), way := upd P.way 0 (P.way 0 ++ r.2.1) } := by
          unfold Pair.sends
          rw [HR.out, HK2.out]
        rw [e]
        exact ⟨_, _, _, hP6⟩
      have HF := Lib.hid hfin
      have HAP := Lib.hid happ
      clear hP4 hT4 hbl4 hP4d hvv happ hr5 hc5 hob5 hP6 hbl5 hbl6 hst5 hn5 hfin m0 m1 m2 m3 m4 m5 m6 m7 m8 hf4
      go_upto_region 29 with (fail)
      refine wp_region_phase 13 (fun w' => w'.cell? ⟨pp, 2, none⟩ = some (.slice va (P.way 0).length vc)) (by kernel_rfl) ?_
      refine wpAnyP_with (by exact hcell4) (fun hSw => ?_)
      refine wpAnyP_take 0 [] (v := ?_) rfl (by kernel_rfl) (fun _ _ _ h => h) (by assumption) (Or.inl ⟨by rfl, ?_⟩) ?_
      rotate_left
      · (intro w hSw; (try dsimp only at hSw); go_simp; try with_reducible rfl)
      simp only [List.getElem_toArray, List.getElem_cons_succ, List.getElem_cons_zero, Act.put, List.setIfInBounds_toArray, List.set_cons_zero, List.set_cons_succ]
      refine wpAnyP_take 1 [] (v := ?_) rfl (by kernel_rfl) (fun _ _ _ h => h) (by assumption) (Or.inl ⟨by rfl, ?_⟩) ?_
      rotate_left
      · (intro w hSw; (try dsimp only at hSw); go_simp; try with_reducible rfl)
      simp only [List.getElem_toArray, List.getElem_cons_succ, List.getElem_cons_zero, Act.put, List.setIfInBounds_toArray, List.set_cons_zero, List.set_cons_succ]
      refine wpAnyP_take 2 [] (v := ?_) rfl (by kernel_rfl) (fun _ _ _ h => h) (by assumption) (Or.inl ⟨by rfl, ?_⟩) ?_
      rotate_left
      · (intro w hSw; (try dsimp only at hSw); go_simp; try with_reducible rfl)
      simp only [List.getElem_toArray, List.getElem_cons_succ, List.getElem_cons_zero, Act.put, List.setIfInBounds_toArray, List.set_cons_zero, List.set_cons_succ]
      refine wpAnyP_take 3 [] (v := ?_) rfl (by kernel_rfl) (fun _ _ _ h => h) (by assumption) (Or.inl ⟨by rfl, ?_⟩) ?_
      rotate_left
      · (intro w hSw; (try dsimp only at hSw); go_simp; try with_reducible rfl)
      simp only [List.getElem_toArray, List.getElem_cons_succ, List.getElem_cons_zero, Act.put, List.setIfInBounds_toArray, List.set_cons_zero, List.set_cons_succ]
      refine wpAnyP_take 4 [] (v := ?_) rfl (by kernel_rfl) (fun _ _ _ h => h) (by assumption) (Or.inl ⟨by rfl, ?_⟩) ?_
      rotate_left
      · (intro w hSw; (try dsimp only at hSw); go_simp; try with_reducible rfl)
      simp only [List.getElem_toArray, List.getElem_cons_succ, List.getElem_cons_zero, Act.put, List.setIfInBounds_toArray, List.set_cons_zero, List.set_cons_succ]
      refine wpAnyP_take 5 [] (v := ?_) rfl (by kernel_rfl) (fun _ _ _ h => h) (by assumption) (Or.inl ⟨by rfl, ?_⟩) ?_
      rotate_left
      · (intro w hSw; (try dsimp only at hSw); go_simp; try with_reducible rfl)
      simp only [List.getElem_toArray, List.getElem_cons_succ, List.getElem_cons_zero, Act.put, List.setIfInBounds_toArray, List.set_cons_zero, List.set_cons_succ]
      refine wpAnyP_take 6 [] (v := ?_) rfl (by kernel_rfl) (fun _ _ _ h => h) (by assumption) (Or.inl ⟨by rfl, ?_⟩) ?_
      rotate_left
      · (intro w hSw; (try dsimp only at hSw); go_simp; try with_reducible rfl)
      simp only [List.getElem_toArray, List.getElem_cons_succ, List.getElem_cons_zero, Act.put, List.setIfInBounds_toArray, List.set_cons_zero, List.set_cons_succ]
      refine wpAnyP_take 7 [] (v := ?_) rfl (by kernel_rfl) (fun _ _ _ h => h) (by assumption) (Or.inl ⟨by rfl, ?_⟩) ?_
      rotate_left
      · (intro w hSw; (try dsimp only at hSw); go_simp; try with_reducible rfl)
      simp only [List.getElem_toArray, List.getElem_cons_succ, List.getElem_cons_zero, Act.put, List.setIfInBounds_toArray, List.set_cons_zero, List.set_cons_succ]
      refine wpAnyP_take 8 [] (v := ?_) rfl (by kernel_rfl) (fun _ _ _ h => h) (by assumption) (Or.inl ⟨by rfl, ?_⟩) ?_
      rotate_left
      · (intro w hSw; (try dsimp only at hSw); go_simp; try with_reducible rfl)
      simp only [List.getElem_toArray, List.getElem_cons_succ, List.getElem_cons_zero, Act.put, List.setIfInBounds_toArray, List.set_cons_zero, List.set_cons_succ]
      refine wpAnyP_take 10 [12, 11] (v := ?_) rfl (by kernel_rfl) (fun _ _ _ h => h) (by assumption) (Or.inl ⟨by rfl, ?_⟩) ?_
      rotate_left
      · (intro w hSw; (try dsimp only at hSw); go_simp; try with_reducible rfl)
      simp only [List.getElem_toArray, List.getElem_cons_succ, List.getElem_cons_zero, Act.put, List.setIfInBounds_toArray, List.set_cons_zero, List.set_cons_succ]
      refine wpAnyP_take 11 [12] (v := ?_) rfl (by kernel_rfl) (fun _ _ _ h => h) (by assumption) (Or.inl ⟨by rfl, ?_⟩) ?_
      rotate_left
      · (intro w hSw; (try dsimp only at hSw); go_simp; try with_reducible rfl)
      simp only [List.getElem_toArray, List.getElem_cons_succ, List.getElem_cons_zero, Act.put, List.setIfInBounds_toArray, List.set_cons_zero, List.set_cons_succ]
      refine wpAnyP_one 9 rfl (by kernel_rfl) (fun K hK => ?_)
      rw [if_pos (by rfl)]
      simp only [List.getElem_toArray, List.getElem_cons_succ, List.getElem_cons_zero, Act.put, List.setIfInBounds_toArray, List.set_cons_zero, List.set_cons_succ]
      (refine wp_app_eq _ _ 78 rfl rfl rfl HAP.out ?_; go_wp2_with (fail))
      refine hold_with (by (try dsimp only at hSw); exact hcell5) (fun hSn => ?_)
      clear hSw; have hSw := hSn; clear hSn
      refine wpAnyP_take 12 [] (v := ?_) rfl (by kernel_rfl) (fun _ _ _ h => h) (by assumption) (Or.inl ⟨by rfl, ?_⟩) ?_
      rotate_left
      · (intro w hSw; (try dsimp only at hSw); go_simp; try with_reducible rfl)
      simp only [List.getElem_toArray, List.getElem_cons_succ, List.getElem_cons_zero, Act.put, List.setIfInBounds_toArray, List.set_cons_zero, List.set_cons_succ]
      refine wpAnyP_one 13 rfl (by kernel_rfl) (fun K hK => ?_)
      rw [if_pos (by rfl)]
      go_wp2_with (fail)
      refine ⟨fun hz => (by simp at hz), ?_⟩
      refine wpAnyP_done (by kernel_rfl) ?_ _
      skip
      clear hSw hcell4 hcell5 hfr5 HAP
      go_wp2_with fail
      go_ret
      exact HF.out
set_option maxRecDepth 100000 in
set_option maxHeartbeats 4000000 in
theorem turn_send_1 (w : World) (B pp : Nat) (kind n : Int) (q : Nat → Nat) (F : Nat → List Nat) (wv : Nat → Value) (P : Pair) (h : PairAt w B pp q F wv P) (ok : P.Ok) (hB : B ≤ w.heap.size) (hk : kind % 6 = 0 ∨ kind % 6 = 1) (hk0 : 0 ≤ kind) (hs : P.sent 1 < 10000) :
    Calls Try.prog 40 #[.pointer (some ⟨pp, 0, none⟩), .agg #[.int .i64 kind, .int .i64 n, .bool true]] w (PairPost B pp (P.sends 1) w) := by
  obtain ⟨wx, hwx⟩ : ∃ wx, wx = w.alloc (.cells #[.int .i64 kind, .int .i64 n, .bool true] 83) := ⟨_, rfl⟩
  have hcx : Chg [] w wx := by rw [hwx]; exact (Chg.refl _ _).alloc _
  have hbx := hcx.below hB (by simp)
  have hPx := h.keep hcx
  have HW := Lib.hid hwx
  have HP := Lib.hid hPx
  have HBX := Lib.hid hbx
  have OK := Lib.hid ok
  have hwxs : B ≤ wx.heap.size := Nat.le_trans hB hcx.size
  clear h ok hcx hbx hPx hwx
  go_enter Try.func40, Try.ntmps40
  go_upto_region 4 with (fail)
  go_cut [6] (fun s6 wq => wq = wx)
  case first =>
    by_cases hneg : n < 0
    · go_wp2_with fail
      go_meet
      exact HW.out.symm
    · go_wp2_with fail
      go_meet
      exact HW.out.symm
  case rest =>
    subst hcut
    obtain ⟨wx, hwx⟩ : ∃ z, z = wc := ⟨_, rfl⟩
    subst hwx
    have hbox : At wx w.heap.size 83 [.int .i64 kind, .int .i64 n, .bool true] := by rw [HW.out]; exact At.new w 83 [_, _, _]
    obtain ⟨b0, b1, b2, _⟩ := hbox.three
    obtain ⟨n0, n1, n2, n3, n4, n5, n6, n7, n8⟩ := HP.out.str.nine
    have z2 : ¬ kind % 6 = 2 := by omega
    have z3 : ¬ kind % 6 = 3 := by omega
    have z4 : ¬ kind % 6 = 4 := by omega
    have z5 : ¬ kind % 6 = 5 := by omega
    obtain ⟨kk, hkk⟩ : ∃ kk, kk = P.sent 1 + 1 := ⟨_, rfl⟩
    have hkk1 : (kk : Int) ≤ 10000 := by omega
    have hkk0 : (0 : Int) ≤ (kk : Int) := by omega
    have HKK : Hid (((P.sent 1 : Nat) : Int) + 1 = (kk : Int)) := Lib.hid (by omega)
    have HK2 := Lib.hid hkk
    clear hk hbox hkk
    go_upto_region 26 with (fail)
    rw [HKK.out]
    obtain ⟨m0, m1, m2, m3, m4, m5, m6, m7, m8⟩ := (HP.out.keep (Chg.refl [] wx).drew).str.nine
    have hcz : Chg [] wx (wx.alloc (.cells #[.int .u8 1, .int .u8 ((kk : Int) % 256), .int .u8 ((kk : Int) / 256)] 5)).drew := ((Chg.refl [] wx).alloc _).drew
    obtain ⟨wz, hwz⟩ : ∃ wz, wz = (wx.alloc (.cells #[.int .u8 1, .int .u8 ((kk : Int) % 256), .int .u8 ((kk : Int) / 256)] 5)).drew := ⟨_, rfl⟩
    rw [← hwz] at hcz
    have hby : Bytes wz (.slice (some ⟨wx.heap.size, 0, none⟩) 3 3) (say 1 kk) := by
      have h := (bytes_three wx 1 ((kk : Int) % 256) ((kk : Int) / 256)).chg (Chg.refl [] _).drew (by simp)
      have e : say 1 kk = [1, (kk : Int) % 256, (kk : Int) / 256] := by unfold say; simp
      rw [e, hwz]; exact h
    have hPz := HP.out.keep hcz
    have hBz : B ≤ wz.heap.size := Nat.le_trans hwxs hcz.size
    have CT := Lib.hid (send_end wz B (q 1) (F 1) (P.e 1) (P.now : Int) (some ⟨wx.heap.size, 0, none⟩) 3 (say 1 kk) (hPz.e 1 (by decide)) (OK.out.e 1 (by decide)).1 hBz hby.wide (by omega) (by have := OK.out.now; omega))
    have HBZ := Lib.hid (HBX.out.trans (hcz.below hwxs (by simp)))
    have HPZ := Lib.hid hPz
    have HWZ := Lib.hid hwz
    have z18 : wz.cell? ⟨pp, 1, none⟩ = some (.pointer (some ⟨q 1, 0, none⟩)) ∧ wz.cell? ⟨pp, 8, none⟩ = some (.int .i64 P.now) := ⟨hPz.str.cell 1, hPz.str.cell 8⟩
    have hwr : IntKind.u8.wrap ((kk : Int) % 256) = (kk : Int) % 256 := by rw [IntKind.wrap_u8]; omega
    have hwq : IntKind.u8.wrap ((kk : Int) / 256) = (kk : Int) / 256 := by rw [IntKind.wrap_u8]; omega
    clear hcz hwz hby hPz n0 n1 n2 n3 n4 n5 n6 n7 n8 z2 z3 z4 z5 b0 b1 b2
    refine wp_region_phase 24 (fun w' => w'.cell? ⟨pp, 1, none⟩ = some (.pointer (some ⟨q 1, 0, none⟩)) ∧ w'.cell? ⟨pp, 8, none⟩ = some (.int .i64 P.now)) (by kernel_rfl) ?_
    refine wpAnyP_with (by exact ⟨m1, m8⟩) (fun hSw => ?_)
    refine wpAnyP_take 0 [] (v := ?_) rfl (by kernel_rfl) (fun _ _ _ h => h) (by assumption) (Or.inl ⟨by rfl, ?_⟩) ?_
    rotate_left
    · (intro w hSw; (try dsimp only at hSw); obtain ⟨s0, s1⟩ := hSw; go_simp; try with_reducible rfl)
    simp only [List.getElem_toArray, List.getElem_cons_succ, List.getElem_cons_zero, Act.put, List.setIfInBounds_toArray, List.set_cons_zero, List.set_cons_succ]
    refine wpAnyP_take 1 [] (v := ?_) rfl (by kernel_rfl) (fun _ _ _ h => h) (by assumption) (Or.inl ⟨by rfl, ?_⟩) ?_
    rotate_left
    · (intro w hSw; (try dsimp only at hSw); obtain ⟨s0, s1⟩ := hSw; go_simp; try with_reducible rfl)
    simp only [List.getElem_toArray, List.getElem_cons_succ, List.getElem_cons_zero, Act.put, List.setIfInBounds_toArray, List.set_cons_zero, List.set_cons_succ]
    refine wpAnyP_take 2 [] (v := ?_) rfl (by kernel_rfl) (fun _ _ _ h => h) (by assumption) (Or.inl ⟨by rfl, ?_⟩) ?_
    rotate_left
    · (intro w hSw; (try dsimp only at hSw); obtain ⟨s0, s1⟩ := hSw; go_simp; try with_reducible rfl)
    simp only [List.getElem_toArray, List.getElem_cons_succ, List.getElem_cons_zero, Act.put, List.setIfInBounds_toArray, List.set_cons_zero, List.set_cons_succ]
    refine wpAnyP_take 3 [] (v := ?_) rfl (by kernel_rfl) (fun _ _ _ h => h) (by assumption) (Or.inl ⟨by rfl, ?_⟩) ?_
    rotate_left
    · (intro w hSw; (try dsimp only at hSw); obtain ⟨s0, s1⟩ := hSw; go_simp; try with_reducible rfl)
    simp only [List.getElem_toArray, List.getElem_cons_succ, List.getElem_cons_zero, Act.put, List.setIfInBounds_toArray, List.set_cons_zero, List.set_cons_succ]
    refine wpAnyP_take 4 [] (v := ?_) rfl (by kernel_rfl) (fun _ _ _ h => h) (by assumption) (Or.inl ⟨by rfl, ?_⟩) ?_
    rotate_left
    · (intro w hSw; (try dsimp only at hSw); obtain ⟨s0, s1⟩ := hSw; go_simp; try with_reducible rfl)
    simp only [List.getElem_toArray, List.getElem_cons_succ, List.getElem_cons_zero, Act.put, List.setIfInBounds_toArray, List.set_cons_zero, List.set_cons_succ]
    refine wpAnyP_take 5 [] (v := ?_) rfl (by kernel_rfl) (fun _ _ _ h => h) (by assumption) (Or.inl ⟨by rfl, ?_⟩) ?_
    rotate_left
    · (intro w hSw; (try dsimp only at hSw); obtain ⟨s0, s1⟩ := hSw; go_simp; try with_reducible rfl)
    simp only [List.getElem_toArray, List.getElem_cons_succ, List.getElem_cons_zero, Act.put, List.setIfInBounds_toArray, List.set_cons_zero, List.set_cons_succ]
    refine wpAnyP_take 6 [] (v := ?_) rfl (by kernel_rfl) (fun _ _ _ h => h) (by assumption) (Or.inl ⟨by rfl, ?_⟩) ?_
    rotate_left
    · (intro w hSw; (try dsimp only at hSw); obtain ⟨s0, s1⟩ := hSw; go_simp; try with_reducible rfl)
    simp only [List.getElem_toArray, List.getElem_cons_succ, List.getElem_cons_zero, Act.put, List.setIfInBounds_toArray, List.set_cons_zero, List.set_cons_succ]
    refine wpAnyP_take 7 [] (v := ?_) rfl (by kernel_rfl) (fun _ _ _ h => h) (by assumption) (Or.inl ⟨by rfl, ?_⟩) ?_
    rotate_left
    · (intro w hSw; (try dsimp only at hSw); obtain ⟨s0, s1⟩ := hSw; go_simp; try with_reducible rfl)
    simp only [List.getElem_toArray, List.getElem_cons_succ, List.getElem_cons_zero, Act.put, List.setIfInBounds_toArray, List.set_cons_zero, List.set_cons_succ]
    refine wpAnyP_take 8 [] (v := ?_) rfl (by kernel_rfl) (fun _ _ _ h => h) (by assumption) (Or.inl ⟨by rfl, ?_⟩) ?_
    rotate_left
    · (intro w hSw; (try dsimp only at hSw); obtain ⟨s0, s1⟩ := hSw; go_simp; try with_reducible rfl)
    simp only [List.getElem_toArray, List.getElem_cons_succ, List.getElem_cons_zero, Act.put, List.setIfInBounds_toArray, List.set_cons_zero, List.set_cons_succ]
    refine wpAnyP_take 9 [] (v := ?_) rfl (by kernel_rfl) (fun _ _ _ h => h) (by assumption) (Or.inl ⟨by rfl, ?_⟩) ?_
    rotate_left
    · (intro w hSw; (try dsimp only at hSw); obtain ⟨s0, s1⟩ := hSw; go_simp; try with_reducible rfl)
    simp only [List.getElem_toArray, List.getElem_cons_succ, List.getElem_cons_zero, Act.put, List.setIfInBounds_toArray, List.set_cons_zero, List.set_cons_succ]
    refine wpAnyP_take 10 [] (v := ?_) rfl (by kernel_rfl) (fun _ _ _ h => h) (by assumption) (Or.inl ⟨by rfl, ?_⟩) ?_
    rotate_left
    · (intro w hSw; (try dsimp only at hSw); obtain ⟨s0, s1⟩ := hSw; go_simp; try with_reducible rfl)
    simp only [List.getElem_toArray, List.getElem_cons_succ, List.getElem_cons_zero, Act.put, List.setIfInBounds_toArray, List.set_cons_zero, List.set_cons_succ]
    refine wpAnyP_take 11 [] (v := ?_) rfl (by kernel_rfl) (fun _ _ _ h => h) (by assumption) (Or.inl ⟨by rfl, ?_⟩) ?_
    rotate_left
    · (intro w hSw; (try dsimp only at hSw); obtain ⟨s0, s1⟩ := hSw; go_simp; try with_reducible rfl)
    simp only [List.getElem_toArray, List.getElem_cons_succ, List.getElem_cons_zero, Act.put, List.setIfInBounds_toArray, List.set_cons_zero, List.set_cons_succ]
    refine wpAnyP_take 12 [] (v := ?_) rfl (by kernel_rfl) (fun _ _ _ h => h) (by assumption) (Or.inl ⟨by rfl, ?_⟩) ?_
    rotate_left
    · (intro w hSw; (try dsimp only at hSw); obtain ⟨s0, s1⟩ := hSw; go_simp; try with_reducible rfl)
    simp only [List.getElem_toArray, List.getElem_cons_succ, List.getElem_cons_zero, Act.put, List.setIfInBounds_toArray, List.set_cons_zero, List.set_cons_succ]
    refine wpAnyP_take 13 [] (v := ?_) rfl (by kernel_rfl) (fun _ _ _ h => h) (by assumption) (Or.inl ⟨by rfl, ?_⟩) ?_
    rotate_left
    · (intro w hSw; (try dsimp only at hSw); obtain ⟨s0, s1⟩ := hSw; go_simp; try with_reducible rfl)
    simp only [List.getElem_toArray, List.getElem_cons_succ, List.getElem_cons_zero, Act.put, List.setIfInBounds_toArray, List.set_cons_zero, List.set_cons_succ]
    refine wpAnyP_take 14 [] (v := ?_) rfl (by kernel_rfl) (fun _ _ _ h => h) (by assumption) (Or.inl ⟨by rfl, ?_⟩) ?_
    rotate_left
    · (intro w hSw; (try dsimp only at hSw); obtain ⟨s0, s1⟩ := hSw; go_simp; try with_reducible rfl)
    simp only [List.getElem_toArray, List.getElem_cons_succ, List.getElem_cons_zero, Act.put, List.setIfInBounds_toArray, List.set_cons_zero, List.set_cons_succ]
    refine wpAnyP_take 15 [] (v := ?_) rfl (by kernel_rfl) (fun _ _ _ h => h) (by assumption) (Or.inl ⟨by rfl, ?_⟩) ?_
    rotate_left
    · (intro w hSw; (try dsimp only at hSw); obtain ⟨s0, s1⟩ := hSw; go_simp; try with_reducible rfl)
    simp only [List.getElem_toArray, List.getElem_cons_succ, List.getElem_cons_zero, Act.put, List.setIfInBounds_toArray, List.set_cons_zero, List.set_cons_succ]
    refine wpAnyP_take 16 [] (v := ?_) rfl (by kernel_rfl) (fun _ _ _ h => h) (by assumption) (Or.inl ⟨by rfl, ?_⟩) ?_
    rotate_left
    · (intro w hSw; (try dsimp only at hSw); obtain ⟨s0, s1⟩ := hSw; go_simp; try with_reducible rfl)
    simp only [List.getElem_toArray, List.getElem_cons_succ, List.getElem_cons_zero, Act.put, List.setIfInBounds_toArray, List.set_cons_zero, List.set_cons_succ]
    refine wpAnyP_take 17 [] (v := ?_) rfl (by kernel_rfl) (fun _ _ _ h => h) (by assumption) (Or.inl ⟨by rfl, ?_⟩) ?_
    rotate_left
    · (intro w hSw; (try dsimp only at hSw); obtain ⟨s0, s1⟩ := hSw; go_simp; try with_reducible rfl)
    simp only [List.getElem_toArray, List.getElem_cons_succ, List.getElem_cons_zero, Act.put, List.setIfInBounds_toArray, List.set_cons_zero, List.set_cons_succ]
    refine wpAnyP_one 18 rfl (by kernel_rfl) (fun K hK => ?_)
    rw [if_pos (by rfl)]
    go_wp2_with (fail)
    refine hold_with (by (try dsimp only at hSw); (have h := z18; rw [HWZ.out] at h; exact h)) (fun hSn => ?_)
    clear hSw; have hSw := hSn; clear hSn
    refine wpAnyP_one 19 rfl (by kernel_rfl) (fun K hK => ?_)
    rw [if_pos (by rfl)]
    go_wp2_with ((rw [← HWZ.out]; refine CT.out.mono ?_; rintro e w3 ⟨o, rfl, hT, hmv⟩; obtain ⟨F3, hP3, hc3⟩ := HPZ.out.end_to (t := 1) (by decide) hmv; have z19 : w3.cell? ⟨pp, 1, none⟩ = some (.pointer (some ⟨q 1, 0, none⟩)) ∧ w3.cell? ⟨pp, 8, none⟩ = some (.int .i64 P.now) := ⟨hP3.str.cell 1, hP3.str.cell 8⟩; have HP3 := Lib.hid hP3; have HT := Lib.hid (hT.low hBz); have HBL3 := Lib.hid (HBZ.out.trans (hc3.below hBz (HPZ.out.low.1 1 (by decide)))); have hs3 := Nat.le_trans hBz hc3.size; clear hT hmv hP3 hc3))
    refine hold_with (by (try dsimp only at hSw); exact z19) (fun hSn => ?_)
    clear hSw; have hSw := hSn; clear hSn
    refine wpAnyP_take 20 [] (v := ?_) rfl (by kernel_rfl) (fun _ _ _ h => h) (by assumption) (Or.inl ⟨by rfl, ?_⟩) ?_
    rotate_left
    · (intro w hSw; (try dsimp only at hSw); obtain ⟨s0, s1⟩ := hSw; go_simp; try with_reducible rfl)
    simp only [List.getElem_toArray, List.getElem_cons_succ, List.getElem_cons_zero, Act.put, List.setIfInBounds_toArray, List.set_cons_zero, List.set_cons_succ]
    refine wpAnyP_take 21 [] (v := ?_) rfl (by kernel_rfl) (fun _ _ _ h => h) (by assumption) (Or.inl ⟨by rfl, ?_⟩) ?_
    rotate_left
    · (intro w hSw; (try dsimp only at hSw); obtain ⟨s0, s1⟩ := hSw; go_simp; try with_reducible rfl)
    simp only [List.getElem_toArray, List.getElem_cons_succ, List.getElem_cons_zero, Act.put, List.setIfInBounds_toArray, List.set_cons_zero, List.set_cons_succ]
    refine wpAnyP_take 22 [] (v := ?_) rfl (by kernel_rfl) (fun _ _ _ h => h) (by assumption) (Or.inl ⟨by rfl, ?_⟩) ?_
    rotate_left
    · (intro w hSw; (try dsimp only at hSw); obtain ⟨s0, s1⟩ := hSw; go_simp; try with_reducible rfl)
    simp only [List.getElem_toArray, List.getElem_cons_succ, List.getElem_cons_zero, Act.put, List.setIfInBounds_toArray, List.set_cons_zero, List.set_cons_succ]
    refine wpAnyP_one 23 rfl (by kernel_rfl) (fun K hK => ?_)
    rw [if_pos (by rfl)]
    go_wp2_with (fail)
    refine hold_with (by (try dsimp only at hSw); exact hSw) (fun hSn => ?_)
    clear hSw; have hSw := hSn; clear hSn
    refine wpAnyP_one 24 rfl (by kernel_rfl) (fun K hK => ?_)
    rw [if_pos (by rfl)]
    go_wp2_with (fail)
    refine ⟨fun hz => (by simp at hz), ?_⟩
    refine wpAnyP_done (by kernel_rfl) ?_ _
    skip
    clear hSw z18 z19 m0 m1 m2 m3 m4 m5 m6 m7 m8 CT hwr hwq
    obtain ⟨r, hr⟩ : ∃ r, r = (P.e 1).send P.now (say 1 kk) := ⟨_, rfl⟩
    rw [← hr] at HP3 HT ⊢
    have HR := Lib.hid hr
    obtain ⟨m0, m1, m2, m3, m4, m5, m6, m7, m8⟩ := HP3.out.str.nine
    have hf4 : w3.frozen? ⟨pp, 5, none⟩ = false := HP3.out.str.frozen _
    clear hr
    go_upto_if 153 with (fail)
    go_cut [13] (fun s13 wq => PairAt wq B pp q F3 wv { P with e := upd P.e 1 r.1, sent := if r.2.2 then upd P.sent 1 kk else P.sent } ∧ RowT (Bytes wq) wq B o r.2.1 ∧ Below B w wq)
    case first =>
      cases hb : r.2.2 with
      | false =>
        go_wp2_with fail
        go_meet
        exact ⟨by simpa [hb] using HP3.out, HT.out, HBL3.out⟩
      | true =>
        go_wp2_with fail
        go_meet
        have hcs : Chg [pp] w3 (w3.setCell ⟨pp, 5, none⟩ (.int .i64 kk)) := (Chg.refl [pp] w3).set (by simp) _
        have h := HP3.out.own_to (w' := w3.setCell ⟨pp, 5, none⟩ (.int .i64 kk)) (got' := P.got) (sent' := upd P.sent 1 kk) (now' := P.now) (by
          have h2 := HP3.out.str.set 5 (.int .i64 kk)
          simpa [upd] using h2) hcs
        have hpb : NoB w3 pp := HP3.out.str.noB (by decide)
        refine ⟨by simpa [hb] using h, HT.out.chg hcs (fun b hb e => by simp at hb; subst hb; exact (HT.out.isT e).ne HP3.out.str.isT (by decide) rfl) (fun u d hd => hd.chg hcs (by simpa using hpb)), HBL3.out.trans (hcs.below hs3 (by intro b hb; simp at hb; subst hb; exact HP.out.hp))⟩
    case rest =>
      obtain ⟨hP4, hT4, hbl4⟩ := hcut
      obtain ⟨w4, hw4⟩ : ∃ z, z = wc := ⟨_, rfl⟩
      subst hw4
      have hs4 : B ≤ w4.heap.size := by have := hP4.str.lt; have := hP4.hp; omega
      have hP4d := hP4.keep (Chg.refl [] w4).drew
      obtain ⟨ta, tc, hto⟩ := hT4.slice
      subst hto
      obtain ⟨va, vc, hvv⟩ := (hP4d.way 1 (by decide)).slice
      simp only at hvv
      have hwayl := (OK.out.way 1 (by decide)).1
      have hrl : r.2.1.length ≤ 16 := by
        rw [HR.out]
        unfold End.send
        split
        · simp
        · have h := Snd.pump_len (Snd.push_ok (OK.out.e 1 (by decide)).1.s (say 1 kk)) P.now
          simpa using h
      obtain ⟨v5, w5, happ, hr5, hc5, hob5⟩ := rowT_app (hP4d.way 1 (by decide)) (hT4.keep (Chg.refl [] w4).drew) hs4 (by show (P.way 1).length + _ ≤ _; omega)
      have hP6 := hP4d.way_to (f := 1) (by decide) hc5 hr5 hob5
      have hbl5 := hc5.below hs4 (hP4d.low.2 1 (by decide))
      have hbl6 : Below B w5 (w5.setCell ⟨pp, 3, none⟩ v5) := ((Chg.refl [pp] w5).set (by simp) _).below (Nat.le_trans hs4 hc5.size) (by intro b hb; simp at hb; subst hb; exact hP4.hp)
      have hst5 := hP4d.str.chg hc5 (fun hm => ((hP4d.way 1 (by decide)).isT (by simpa using hm)).ne hP4d.str.isT (by decide) rfl)
      have hcell4 : w4.drew.cell? ⟨pp, 3, none⟩ = some (.slice va (P.way 1).length vc) := by
        have h := hP4d.str.cell 3
        rw [h]
        show some (wv 1) = _
        rw [hvv]
      have hcell5 : w5.cell? ⟨pp, 3, none⟩ = some (.slice va (P.way 1).length vc) := by
        have h := hst5.cell 3
        rw [h]
        show some (wv 1) = _
        rw [hvv]
      have hfr5 : w5.frozen? ⟨pp, 3, none⟩ = false := hst5.frozen _
      obtain ⟨va5, vc5, hv5⟩ := hr5.slice
      obtain ⟨n5, hn5⟩ : ∃ n5, n5 = (P.way 1 ++ r.2.1).length := ⟨_, rfl⟩
      simp only at hv5
      rw [← hn5] at hv5
      subst hv5
      rw [hvv] at happ
      have hfin : PairPost B pp (P.sends 1) w (.returned (.bool true)) (w5.setCell ⟨pp, 3, none⟩ (.slice va5 n5 vc5)) := by
        refine ⟨rfl, ?_, (hbl4.trans ((Chg.refl [] w4).drew.below hs4 (by simp))).trans (hbl5.trans hbl6)⟩
        have e : P.sends 1 = { P with e := upd P.e 1 r.1, sent := (if r.2.2 then upd P.sent 1 kk else P.sent), way := upd P.way 1 (P.way 1 ++ r.2.1) } := by
          unfold Pair.sends
          rw [HR.out, HK2.out]
        rw [e]
        exact ⟨_, _, _, hP6⟩
      have HF := Lib.hid hfin
      have HAP := Lib.hid happ
      clear hP4 hT4 hbl4 hP4d hvv happ hr5 hc5 hob5 hP6 hbl5 hbl6 hst5 hn5 hfin m0 m1 m2 m3 m4 m5 m6 m7 m8 hf4
      go_upto_region 29 with (fail)
      refine wp_region_phase 13 (fun w' => w'.cell? ⟨pp, 3, none⟩ = some (.slice va (P.way 1).length vc)) (by kernel_rfl) ?_
      refine wpAnyP_with (by exact hcell4) (fun hSw => ?_)
      refine wpAnyP_take 0 [] (v := ?_) rfl (by kernel_rfl) (fun _ _ _ h => h) (by assumption) (Or.inl ⟨by rfl, ?_⟩) ?_
      rotate_left
      · (intro w hSw; (try dsimp only at hSw); go_simp; try with_reducible rfl)
      simp only [List.getElem_toArray, List.getElem_cons_succ, List.getElem_cons_zero, Act.put, List.setIfInBounds_toArray, List.set_cons_zero, List.set_cons_succ]
      refine wpAnyP_take 1 [] (v := ?_) rfl (by kernel_rfl) (fun _ _ _ h => h) (by assumption) (Or.inl ⟨by rfl, ?_⟩) ?_
      rotate_left
      · (intro w hSw; (try dsimp only at hSw); go_simp; try with_reducible rfl)
      simp only [List.getElem_toArray, List.getElem_cons_succ, List.getElem_cons_zero, Act.put, List.setIfInBounds_toArray, List.set_cons_zero, List.set_cons_succ]
      refine wpAnyP_take 2 [] (v := ?_) rfl (by kernel_rfl) (fun _ _ _ h => h) (by assumption) (Or.inl ⟨by rfl, ?_⟩) ?_
      rotate_left
      · (intro w hSw; (try dsimp only at hSw); go_simp; try with_reducible rfl)
      simp only [List.getElem_toArray, List.getElem_cons_succ, List.getElem_cons_zero, Act.put, List.setIfInBounds_toArray, List.set_cons_zero, List.set_cons_succ]
      refine wpAnyP_take 3 [] (v := ?_) rfl (by kernel_rfl) (fun _ _ _ h => h) (by assumption) (Or.inl ⟨by rfl, ?_⟩) ?_
      rotate_left
      · (intro w hSw; (try dsimp only at hSw); go_simp; try with_reducible rfl)
      simp only [List.getElem_toArray, List.getElem_cons_succ, List.getElem_cons_zero, Act.put, List.setIfInBounds_toArray, List.set_cons_zero, List.set_cons_succ]
      refine wpAnyP_take 4 [] (v := ?_) rfl (by kernel_rfl) (fun _ _ _ h => h) (by assumption) (Or.inl ⟨by rfl, ?_⟩) ?_
      rotate_left
      · (intro w hSw; (try dsimp only at hSw); go_simp; try with_reducible rfl)
      simp only [List.getElem_toArray, List.getElem_cons_succ, List.getElem_cons_zero, Act.put, List.setIfInBounds_toArray, List.set_cons_zero, List.set_cons_succ]
      refine wpAnyP_take 5 [] (v := ?_) rfl (by kernel_rfl) (fun _ _ _ h => h) (by assumption) (Or.inl ⟨by rfl, ?_⟩) ?_
      rotate_left
      · (intro w hSw; (try dsimp only at hSw); go_simp; try with_reducible rfl)
      simp only [List.getElem_toArray, List.getElem_cons_succ, List.getElem_cons_zero, Act.put, List.setIfInBounds_toArray, List.set_cons_zero, List.set_cons_succ]
      refine wpAnyP_take 6 [] (v := ?_) rfl (by kernel_rfl) (fun _ _ _ h => h) (by assumption) (Or.inl ⟨by rfl, ?_⟩) ?_
      rotate_left
      · (intro w hSw; (try dsimp only at hSw); go_simp; try with_reducible rfl)
      simp only [List.getElem_toArray, List.getElem_cons_succ, List.getElem_cons_zero, Act.put, List.setIfInBounds_toArray, List.set_cons_zero, List.set_cons_succ]
      refine wpAnyP_take 7 [] (v := ?_) rfl (by kernel_rfl) (fun _ _ _ h => h) (by assumption) (Or.inl ⟨by rfl, ?_⟩) ?_
      rotate_left
      · (intro w hSw; (try dsimp only at hSw); go_simp; try with_reducible rfl)
      simp only [List.getElem_toArray, List.getElem_cons_succ, List.getElem_cons_zero, Act.put, List.setIfInBounds_toArray, List.set_cons_zero, List.set_cons_succ]
      refine wpAnyP_take 8 [] (v := ?_) rfl (by kernel_rfl) (fun _ _ _ h => h) (by assumption) (Or.inl ⟨by rfl, ?_⟩) ?_
      rotate_left
      · (intro w hSw; (try dsimp only at hSw); go_simp; try with_reducible rfl)
      simp only [List.getElem_toArray, List.getElem_cons_succ, List.getElem_cons_zero, Act.put, List.setIfInBounds_toArray, List.set_cons_zero, List.set_cons_succ]
      refine wpAnyP_take 10 [12, 11] (v := ?_) rfl (by kernel_rfl) (fun _ _ _ h => h) (by assumption) (Or.inl ⟨by rfl, ?_⟩) ?_
      rotate_left
      · (intro w hSw; (try dsimp only at hSw); go_simp; try with_reducible rfl)
      simp only [List.getElem_toArray, List.getElem_cons_succ, List.getElem_cons_zero, Act.put, List.setIfInBounds_toArray, List.set_cons_zero, List.set_cons_succ]
      refine wpAnyP_take 11 [12] (v := ?_) rfl (by kernel_rfl) (fun _ _ _ h => h) (by assumption) (Or.inl ⟨by rfl, ?_⟩) ?_
      rotate_left
      · (intro w hSw; (try dsimp only at hSw); go_simp; try with_reducible rfl)
      simp only [List.getElem_toArray, List.getElem_cons_succ, List.getElem_cons_zero, Act.put, List.setIfInBounds_toArray, List.set_cons_zero, List.set_cons_succ]
      refine wpAnyP_one 9 rfl (by kernel_rfl) (fun K hK => ?_)
      rw [if_pos (by rfl)]
      simp only [List.getElem_toArray, List.getElem_cons_succ, List.getElem_cons_zero, Act.put, List.setIfInBounds_toArray, List.set_cons_zero, List.set_cons_succ]
      (refine wp_app_eq _ _ 78 rfl rfl rfl HAP.out ?_; go_wp2_with (fail))
      refine hold_with (by (try dsimp only at hSw); exact hcell5) (fun hSn => ?_)
      clear hSw; have hSw := hSn; clear hSn
      refine wpAnyP_take 12 [] (v := ?_) rfl (by kernel_rfl) (fun _ _ _ h => h) (by assumption) (Or.inl ⟨by rfl, ?_⟩) ?_
      rotate_left
      · (intro w hSw; (try dsimp only at hSw); go_simp; try with_reducible rfl)
      simp only [List.getElem_toArray, List.getElem_cons_succ, List.getElem_cons_zero, Act.put, List.setIfInBounds_toArray, List.set_cons_zero, List.set_cons_succ]
      refine wpAnyP_one 13 rfl (by kernel_rfl) (fun K hK => ?_)
      rw [if_pos (by rfl)]
      go_wp2_with (fail)
      refine ⟨fun hz => (by simp at hz), ?_⟩
      refine wpAnyP_done (by kernel_rfl) ?_ _
      skip
      clear hSw hcell4 hcell5 hfr5 HAP
      go_wp2_with fail
      go_ret
      exact HF.out
end Go.Proofs.Ytkmjpphmciaklaa
