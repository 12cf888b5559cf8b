/- Two ends: what happens between them, but a tick. -/
import Derived.Test.YtkmjpphmciaklaaJ30
namespace Go.Proofs.Ytkmjpphmciaklaa
open Go.RowKit
set_option linter.unusedVariables false
set_option linter.unusedSimpArgs false
attribute [local go_sem ↓] Go.wp_at_zero Go.wp_at_succ

def Pair.sends (P : Pair) (f : Nat) : Pair :=
  { P with e := upd P.e f ((P.e f).send P.now (say f (P.sent f + 1))).1, way := upd P.way f (P.way f ++ ((P.e f).send P.now (say f (P.sent f + 1))).2.1),
           sent := if ((P.e f).send P.now (say f (P.sent f + 1))).2.2 then upd P.sent f (P.sent f + 1) else P.sent }

set_option maxRecDepth 100000 in
set_option maxHeartbeats 4000000 in
theorem turn_arrive_0 (w : World) (B pp lo m : Nat) (kind n : Int) (q : Nat → Nat) (F : Nat → List Nat) (wv : Nat → Value) (P : Pair) (stays : Bool) (h : PairAt w B pp q F wv P) (ok : P.Ok) (hB : B ≤ w.heap.size) (hk : kind % 6 = 2 ∧ stays = false ∨ kind % 6 = 3 ∧ stays = true) (hk0 : 0 ≤ kind) (hn : n ≤ 9223372036854775807)
    (hds : P.way 0 ≠ [] → (P.taken 0 1 ((max n 0).toNat % (P.way 0).length)).2.map (·.2) = says 0 lo m ∧ P.got 1 ≤ lo ∧ lo + m ≤ P.sent 0) :
    Calls Try.prog 40 #[.pointer (some ⟨pp, 0, none⟩), .agg #[.int .i64 kind, .int .i64 n, .bool false]] w
      (PairPost B pp (if P.way 0 = [] then P else { P.arrived 0 1 ((max n 0).toNat % (P.way 0).length) stays with got := upd P.got 1 (gotTo (P.got 1) lo m) }) w) := by
  have hcx : Chg [] w (w.alloc (.cells #[.int .i64 kind, .int .i64 n, .bool false] 83)) := (Chg.refl _ _).alloc _
  have hbx := hcx.below hB (by simp)
  have CT : ∀ nn : Nat, (max n 0).toNat = nn → Calls Try.prog 71 #[.pointer (some ⟨pp, 0, none⟩), .int .i64 0, .int .i64 (nn : Int), .bool stays] (w.alloc (.cells #[.int .i64 kind, .int .i64 n, .bool false] 83))
      (PairPost B pp (if P.way 0 = [] then P else { P.arrived 0 1 (nn % (P.way 0).length) stays with got := upd P.got 1 (gotTo (P.got 1) lo m) }) (w.alloc (.cells #[.int .i64 kind, .int .i64 n, .bool false] 83))) := fun nn hnn => by
    rw [hnn] at hds
    exact arrive_0 _ B pp nn lo m q F wv P stays (h.keep hcx) ok (Nat.le_trans hB hcx.size) (by omega) hds
  have HBX := Lib.hid hbx
  have HCT := Lib.hid CT
  clear h ok hcx hbx hds CT
  by_cases hneg : n < 0
  · have e0 : (max n 0).toNat = 0 := by omega
    rw [e0]
    have C1 : Calls Try.prog 71 #[.pointer (some ⟨pp, 0, none⟩), .int .i64 0, .int .i64 0, .bool stays] _ _ := HCT.out 0 e0
    obtain ⟨P', hP'⟩ : ∃ P', P' = (if P.way 0 = [] then P else { P.arrived 0 1 (0 % (P.way 0).length) stays with got := upd P.got 1 (gotTo (P.got 1) lo m) }) := ⟨_, rfl⟩
    rw [← hP'] at C1 ⊢
    have C0 := Lib.hid C1
    clear e0 HCT hP' C1
    rcases hk with ⟨r, rfl⟩ | ⟨r, rfl⟩
    all_goals
      go_enter Try.func40, Try.ntmps40
      go_wp2_with fail
      refine C0.out.mono ?_
      rintro e w2 ⟨rfl, hex, hbl⟩
      have HF := Lib.hid (And.intro hex (HBX.out.trans hbl))
      clear hex hbl C0
      go_wp2_with fail
      go_ret
      exact ⟨rfl, HF.out⟩
  · obtain ⟨nn, rfl⟩ : ∃ nn : Nat, n = nn := ⟨n.toNat, by omega⟩
    have e0 : (max (nn : Int) 0).toNat = nn := by omega
    rw [e0]
    have C1 := HCT.out nn e0
    obtain ⟨P', hP'⟩ : ∃ P', P' = (if P.way 0 = [] then P else { P.arrived 0 1 (nn % (P.way 0).length) stays with got := upd P.got 1 (gotTo (P.got 1) lo m) }) := ⟨_, rfl⟩
    rw [← hP'] at C1 ⊢
    have C0 := Lib.hid C1
    have hneg0 : (0 : Int) ≤ (nn : Int) := by omega
    clear e0 HCT hneg hP' C1
    rcases hk with ⟨r, rfl⟩ | ⟨r, rfl⟩
    all_goals
      go_enter Try.func40, Try.ntmps40
      go_wp2_with fail
      refine C0.out.mono ?_
      rintro e w2 ⟨rfl, hex, hbl⟩
      have HF := Lib.hid (And.intro hex (HBX.out.trans hbl))
      clear hex hbl C0
      go_wp2_with fail
      go_ret
      exact ⟨rfl, HF.out⟩

set_option maxRecDepth 100000 in
set_option maxHeartbeats 4000000 in
theorem turn_drop_0 (w : World) (B pp : Nat) (kind n : Int) (q : Nat → Nat) (F : Nat → List Nat) (wv : Nat → Value) (P : Pair) (h : PairAt w B pp q F wv P) (ok : P.Ok) (hB : B ≤ w.heap.size) (hk : kind % 6 = 4) (hk0 : 0 ≤ kind) (hn : n ≤ 9223372036854775807) :
    Calls Try.prog 40 #[.pointer (some ⟨pp, 0, none⟩), .agg #[.int .i64 kind, .int .i64 n, .bool false]] w
      (PairPost B pp (if P.way 0 = [] then P else P.left 0 ((max n 0).toNat % (P.way 0).length) false) w) := by
  obtain ⟨nn, hnn⟩ : ∃ nn, nn = (max n 0).toNat := ⟨_, rfl⟩
  rw [← hnn]
  have hnn1 : (nn : Int) ≤ 9223372036854775807 := by omega
  have hnn0 : (0 : Int) ≤ (nn : Int) := by omega
  obtain ⟨wx, hwx⟩ : ∃ wx, wx = w.alloc (.cells #[.int .i64 kind, .int .i64 n, .bool false] 83) := ⟨_, rfl⟩
  have hcx : Chg [] w wx := by rw [hwx]; exact (Chg.refl _ _).alloc _
  have hbx := hcx.below hB (by simp)
  have hPx := h.keep hcx
  obtain ⟨P', hP'⟩ : ∃ P', P' = (if P.way 0 = [] then P else P.left 0 (nn % (P.way 0).length) false) := ⟨_, rfl⟩
  rw [← hP']
  have HN := Lib.hid hnn
  have HW := Lib.hid hwx
  have HP := Lib.hid hPx
  have HBX := Lib.hid hbx
  have HP' := Lib.hid hP'
  have OK := Lib.hid ok
  have hwxs : B ≤ wx.heap.size := Nat.le_trans hB hcx.size
  clear h ok hcx hbx hPx hwx hnn hP'
  go_enter Try.func40, Try.ntmps40
  go_upto_region 4 with (fail)
  go_cut [6] (fun s6 wq => s6 = .int .i64 (nn : Int) ∧ wq = wx)
  case first =>
    by_cases hneg : n < 0
    · have e : (0 : Int) = (nn : Int) := by have := HN.out; omega
      go_wp2_with fail
      go_meet
      exact ⟨by rw [← e], HW.out.symm⟩
    · have e : n = (nn : Int) := by have := HN.out; omega
      have E := Lib.hid e
      clear e
      go_wp2_with fail
      go_meet
      exact ⟨by rw [← E.out], HW.out.symm⟩
  case rest =>
    obtain ⟨rfl, rfl⟩ := hcut
    obtain ⟨wx, hwx⟩ : ∃ z, z = wc := ⟨_, rfl⟩
    subst hwx
    have hbox : At wx w.heap.size 83 [.int .i64 kind, .int .i64 n, .bool false] := by rw [HW.out]; exact At.new w 83 [_, _, _]
    obtain ⟨b0, b1, b2, _⟩ := hbox.three
    obtain ⟨n0, n1, n2, n3, n4, n5, n6, n7, n8⟩ := HP.out.str.nine
    clear n4 n5 n6 n7 n8
    by_cases hemp : P.way 0 = []
    · obtain ⟨a, c, hv⟩ := (HP.out.way 0 (by decide)).slice
      rw [hv, hemp] at n2
      simp only [List.length_nil] at n2
      have HF : Hid (PairPost B pp P' w (.returned (.bool true)) wx) := Lib.hid ⟨rfl, ⟨q, F, wv, by rw [HP'.out, if_pos hemp]; exact HP.out⟩, HBX.out⟩
      clear hv hemp
      go_wp2_with fail
      go_ret
      exact HF.out
    · have hlen : 0 < (P.way 0).length := List.length_pos_iff.2 hemp
      obtain ⟨g, cap, hv, hcap, hgl⟩ := (HP.out.way 0 (by decide)).form hlen
      rw [hv] at n2
      obtain ⟨wl, hwl⟩ := OK.out.way 0 (by decide)
      obtain ⟨L, hL⟩ : ∃ L, L = (P.way 0).length := ⟨_, rfl⟩
      rw [← hL] at n2 hlen hcap wl
      obtain ⟨k, hk⟩ : ∃ k, k = nn % L := ⟨_, rfl⟩
      have hkL : k < L := by rw [hk]; exact Nat.mod_lt _ hlen
      have hL0 : ((L : Nat) : Int) ≠ 0 := by omega
      have hLb : (((L : Nat) : Int) == 0) = false := beq_eq_false_iff_ne.2 hL0
      have HK : Hid ((nn : Int) % (L : Int) = (k : Int)) := Lib.hid (by rw [hk]; push_cast; rfl)
      have HV := Lib.hid (And.intro hL hv)
      have hPe : P' = P.left 0 k false := by rw [HP'.out, if_neg hemp, ← hL, hk]
      have HPE := Lib.hid hPe
      obtain ⟨k3, hk3⟩ : ∃ k3, k3 = k + 1 := ⟨_, rfl⟩
      have hwrap : IntKind.i64.wrap ((k : Nat) + 1 : Int) = ((k3 : Nat) : Int) := by rw [IntKind.wrap_i64]; omega
      obtain ⟨o2, ho2⟩ : ∃ o2, o2 = if cap = k3 then 0 else k3 * 6 := ⟨_, rfl⟩
      have hif : (if cap = k3 then some (⟨g, 0, none⟩ : Addr) else some ⟨g, k3 * 6, none⟩) = some ⟨g, o2, none⟩ := by rw [ho2]; split <;> rfl
      have hRX : RowT (Bytes wx) wx B (.slice (some ⟨g, 0, none⟩) (P.way 0).length cap) (P.way 0) := by
        have h := HP.out.way 0 (by decide)
        rw [hv] at h; exact h
      obtain ⟨v1, wb, v2, w2, happ1, happ2, hr2, hob, hcb, hc2⟩ := rowT_del (k := k) (o2 := o2) hRX (by rw [← HV.out.1]; exact hkL) (by rw [← HV.out.1]; omega) (by rw [← HV.out.1]; exact hcap) hwxs rfl (fun hne => by rw [ho2, if_neg (by omega), hk3])
      rw [← HV.out.1, ← hk3] at happ2
      have hppl : pp < wx.heap.size := HP.out.str.lt
      have hfin := HP.out.way_to (f := 0) (by decide) (hc2.mono (by simp)) hr2 (fun b hb => .inr (hob b hb))
      have hcs : Chg [pp] wx (w2.setCell ⟨pp, 2, none⟩ v2) := (hc2.mono (by simp)).set (by simp) _
      have hbs := hcs.below hwxs (by intro b hb; simp at hb; subst hb; exact HP.out.hp)
      have hst2 := HP.out.str.chg hc2 (by simp)
      have hcell : wx.cell? ⟨pp, 2, none⟩ = some (.slice (some ⟨g, 0, none⟩) L cap) := n2
      have k0 : w2.cell? ⟨pp, 2, none⟩ = some (.slice (some ⟨g, 0, none⟩) L cap) := (hc2.cell (p := ⟨pp, 2, none⟩) hppl (by simp)).trans hcell
      have k1 : w2.frozen? ⟨pp, 2, none⟩ = false := hst2.frozen _
      have HKB := Lib.hid ((hcb.cell (p := ⟨pp, 2, none⟩) hppl (by simp)).trans hcell)
      obtain ⟨v2a, v2c, hv2⟩ := hr2.slice
      obtain ⟨v2n, hv2n⟩ : ∃ v2n, v2n = ((P.way 0).eraseIdx k).length := ⟨_, rfl⟩
      rw [← hv2n] at hv2
      subst hv2
      have HA1 := Lib.hid happ1
      have HA2 := Lib.hid happ2
      have HF := Lib.hid hfin
      have HBS := Lib.hid hbs
      have hic : k ≤ cap := by omega
      have hk3l : k3 ≤ L := by omega
      have hk00 : (0 : Int) ≤ (k : Int) := by omega
      have hk11 : (k : Int) < (L : Int) := by omega
      clear hr2 hob hcb hc2 hfin hcs hbs hst2 happ1 happ2 hv2n ho2 hk3 hRX hv hL hk hPe hwl hemp hbox
      go_upto_region 13 with (fail)
      rw [HK.out]
      refine wp_region_phase 25 (fun w' => w'.cell? ⟨pp, 2, none⟩ = some (.slice (some ⟨g, 0, none⟩) L cap)) (by kernel_rfl) ?_
      refine wpAnyP_with (by exact hcell) (fun hSw => ?_)
      refine wpAnyP_take 0 [] (v := ?_) rfl (by kernel_rfl) (fun _ _ _ h => h) (by assumption) (Or.inl ⟨by rfl, ?_⟩) ?_
      rotate_left
      · (intro w hSw; (try dsimp only at hSw); go_simp; try with_reducible rfl)
      simp only [List.getElem_toArray, List.getElem_cons_succ, List.getElem_cons_zero, Act.put, List.setIfInBounds_toArray, List.set_cons_zero, List.set_cons_succ]
      refine wpAnyP_take 1 [] (v := ?_) rfl (by kernel_rfl) (fun _ _ _ h => h) (by assumption) (Or.inl ⟨by rfl, ?_⟩) ?_
      rotate_left
      · (intro w hSw; (try dsimp only at hSw); go_simp; try with_reducible rfl)
      simp only [List.getElem_toArray, List.getElem_cons_succ, List.getElem_cons_zero, Act.put, List.setIfInBounds_toArray, List.set_cons_zero, List.set_cons_succ]
      refine wpAnyP_take 3 [] (v := ?_) rfl (by kernel_rfl) (fun _ _ _ h => h) (by assumption) (Or.inl ⟨by rfl, ?_⟩) ?_
      rotate_left
      · (intro w hSw; (try dsimp only at hSw); go_simp; try with_reducible rfl)
      simp only [List.getElem_toArray, List.getElem_cons_succ, List.getElem_cons_zero, Act.put, List.setIfInBounds_toArray, List.set_cons_zero, List.set_cons_succ]
      refine wpAnyP_take 4 [] (v := ?_) rfl (by kernel_rfl) (fun _ _ _ h => h) (by assumption) (Or.inl ⟨by rfl, ?_⟩) ?_
      rotate_left
      · (intro w hSw; (try dsimp only at hSw); go_simp; try with_reducible rfl)
      simp only [List.getElem_toArray, List.getElem_cons_succ, List.getElem_cons_zero, Act.put, List.setIfInBounds_toArray, List.set_cons_zero, List.set_cons_succ]
      refine wpAnyP_take 5 [] (v := ?_) rfl (by kernel_rfl) (fun _ _ _ h => h) (by assumption) (Or.inl ⟨by rfl, ?_⟩) ?_
      rotate_left
      · (intro w hSw; (try dsimp only at hSw); go_simp; try with_reducible rfl)
      simp only [List.getElem_toArray, List.getElem_cons_succ, List.getElem_cons_zero, Act.put, List.setIfInBounds_toArray, List.set_cons_zero, List.set_cons_succ]
      refine wpAnyP_take 6 [] (v := ?_) rfl (by kernel_rfl) (fun _ _ _ h => h) (by assumption) (Or.inl ⟨by rfl, ?_⟩) ?_
      rotate_left
      · (intro w hSw; (try dsimp only at hSw); go_simp; try with_reducible rfl)
      simp only [List.getElem_toArray, List.getElem_cons_succ, List.getElem_cons_zero, Act.put, List.setIfInBounds_toArray, List.set_cons_zero, List.set_cons_succ]
      refine wpAnyP_take 7 [] (v := ?_) rfl (by kernel_rfl) (fun _ _ _ h => h) (by assumption) (Or.inl ⟨by rfl, ?_⟩) ?_
      rotate_left
      · (intro w hSw; (try dsimp only at hSw); go_simp; try with_reducible rfl)
      simp only [List.getElem_toArray, List.getElem_cons_succ, List.getElem_cons_zero, Act.put, List.setIfInBounds_toArray, List.set_cons_zero, List.set_cons_succ]
      refine wpAnyP_take 8 [] (v := ?_) rfl (by kernel_rfl) (fun _ _ _ h => h) (by assumption) (Or.inl ⟨by rfl, ?_⟩) ?_
      rotate_left
      · (intro w hSw; (try dsimp only at hSw); go_simp; try with_reducible rfl)
      simp only [List.getElem_toArray, List.getElem_cons_succ, List.getElem_cons_zero, Act.put, List.setIfInBounds_toArray, List.set_cons_zero, List.set_cons_succ]
      refine wpAnyP_take 9 [] (v := ?_) rfl (by kernel_rfl) (fun _ _ _ h => h) (by assumption) (Or.inl ⟨by rfl, ?_⟩) ?_
      rotate_left
      · (intro w hSw; (try dsimp only at hSw); go_simp; try with_reducible rfl)
      simp only [List.getElem_toArray, List.getElem_cons_succ, List.getElem_cons_zero, Act.put, List.setIfInBounds_toArray, List.set_cons_zero, List.set_cons_succ]
      refine wpAnyP_take 10 [] (v := ?_) rfl (by kernel_rfl) (fun _ _ _ h => h) (by assumption) (Or.inl ⟨by rfl, ?_⟩) ?_
      rotate_left
      · (intro w hSw; (try dsimp only at hSw); go_simp; try with_reducible rfl)
      simp only [List.getElem_toArray, List.getElem_cons_succ, List.getElem_cons_zero, Act.put, List.setIfInBounds_toArray, List.set_cons_zero, List.set_cons_succ]
      refine wpAnyP_take 12 [] (v := ?_) rfl (by kernel_rfl) (fun _ _ _ h => h) (by assumption) (Or.inl ⟨by rfl, ?_⟩) ?_
      rotate_left
      · (intro w hSw; (try dsimp only at hSw); go_simp; try with_reducible rfl)
      simp only [List.getElem_toArray, List.getElem_cons_succ, List.getElem_cons_zero, Act.put, List.setIfInBounds_toArray, List.set_cons_zero, List.set_cons_succ]
      refine wpAnyP_take 13 [] (v := ?_) rfl (by kernel_rfl) (fun _ _ _ h => h) (by assumption) (Or.inl ⟨by rfl, ?_⟩) ?_
      rotate_left
      · (intro w hSw; (try dsimp only at hSw); go_simp; try with_reducible rfl)
      simp only [List.getElem_toArray, List.getElem_cons_succ, List.getElem_cons_zero, Act.put, List.setIfInBounds_toArray, List.set_cons_zero, List.set_cons_succ]
      refine wpAnyP_take 14 [] (v := ?_) rfl (by kernel_rfl) (fun _ _ _ h => h) (by assumption) (Or.inl ⟨by rfl, ?_⟩) ?_
      rotate_left
      · (intro w hSw; (try dsimp only at hSw); go_simp; try with_reducible rfl)
      simp only [List.getElem_toArray, List.getElem_cons_succ, List.getElem_cons_zero, Act.put, List.setIfInBounds_toArray, List.set_cons_zero, List.set_cons_succ]
      refine wpAnyP_take 15 [] (v := ?_) rfl (by kernel_rfl) (fun _ _ _ h => h) (by assumption) (Or.inl ⟨by rfl, ?_⟩) ?_
      rotate_left
      · (intro w hSw; (try dsimp only at hSw); go_simp; try with_reducible rfl)
      simp only [List.getElem_toArray, List.getElem_cons_succ, List.getElem_cons_zero, Act.put, List.setIfInBounds_toArray, List.set_cons_zero, List.set_cons_succ]
      refine wpAnyP_take 16 [] (v := ?_) rfl (by kernel_rfl) (fun _ _ _ h => h) (by assumption) (Or.inl ⟨by rfl, ?_⟩) ?_
      rotate_left
      · (intro w hSw; (try dsimp only at hSw); go_simp; try with_reducible rfl)
      simp only [List.getElem_toArray, List.getElem_cons_succ, List.getElem_cons_zero, Act.put, List.setIfInBounds_toArray, List.set_cons_zero, List.set_cons_succ]
      refine wpAnyP_take 17 [] (v := ?_) rfl (by kernel_rfl) (fun _ _ _ h => h) (by assumption) (Or.inl ⟨by rfl, ?_⟩) ?_
      rotate_left
      · (intro w hSw; (try dsimp only at hSw); go_simp; try with_reducible rfl)
      simp only [List.getElem_toArray, List.getElem_cons_succ, List.getElem_cons_zero, Act.put, List.setIfInBounds_toArray, List.set_cons_zero, List.set_cons_succ]
      refine wpAnyP_take 18 [] (v := ?_) rfl (by kernel_rfl) (fun _ _ _ h => h) (by assumption) (Or.inl ⟨by rfl, ?_⟩) ?_
      rotate_left
      · (intro w hSw; (try dsimp only at hSw); go_simp; try with_reducible rfl)
      simp only [List.getElem_toArray, List.getElem_cons_succ, List.getElem_cons_zero, Act.put, List.setIfInBounds_toArray, List.set_cons_zero, List.set_cons_succ]
      refine wpAnyP_take 19 [] (v := ?_) rfl (by kernel_rfl) (fun _ _ _ h => h) (by assumption) (Or.inl ⟨by rfl, ?_⟩) ?_
      rotate_left
      · (intro w hSw; (try dsimp only at hSw); go_simp; try with_reducible rfl)
      simp only [List.getElem_toArray, List.getElem_cons_succ, List.getElem_cons_zero, Act.put, List.setIfInBounds_toArray, List.set_cons_zero, List.set_cons_succ]
      refine wpAnyP_take 20 [] (v := ?_) rfl (by kernel_rfl) (fun _ _ _ h => h) (by assumption) (Or.inl ⟨by rfl, ?_⟩) ?_
      rotate_left
      · (intro w hSw; (try dsimp only at hSw); go_simp; try with_reducible rfl)
      simp only [List.getElem_toArray, List.getElem_cons_succ, List.getElem_cons_zero, Act.put, List.setIfInBounds_toArray, List.set_cons_zero, List.set_cons_succ]
      refine wpAnyP_take 22 [24, 23] (v := ?_) rfl (by kernel_rfl) (fun _ _ _ h => h) (by assumption) (Or.inl ⟨by rfl, ?_⟩) ?_
      rotate_left
      · (intro w hSw; (try dsimp only at hSw); go_simp; try with_reducible rfl)
      simp only [List.getElem_toArray, List.getElem_cons_succ, List.getElem_cons_zero, Act.put, List.setIfInBounds_toArray, List.set_cons_zero, List.set_cons_succ]
      refine wpAnyP_take 23 [24] (v := ?_) rfl (by kernel_rfl) (fun _ _ _ h => h) (by assumption) (Or.inl ⟨by rfl, ?_⟩) ?_
      rotate_left
      · (intro w hSw; (try dsimp only at hSw); go_simp; try with_reducible rfl)
      simp only [List.getElem_toArray, List.getElem_cons_succ, List.getElem_cons_zero, Act.put, List.setIfInBounds_toArray, List.set_cons_zero, List.set_cons_succ]
      refine wpAnyP_one 2 rfl (by kernel_rfl) (fun K hK => ?_)
      rw [if_pos (by rfl)]
      go_wp2_with (fail)
      refine hold_with (by (try dsimp only at hSw); exact (((Chg.refl [] wx).alloc _).drew.cell (p := ⟨pp, 2, none⟩) hppl (by simp)).trans hcell) (fun hSn => ?_)
      clear hSw; have hSw := hSn; clear hSn
      refine wpAnyP_one 11 rfl (by kernel_rfl) (fun K hK => ?_)
      rw [if_pos (by rfl)]
      simp only [List.getElem_toArray, List.getElem_cons_succ, List.getElem_cons_zero, Act.put, List.setIfInBounds_toArray, List.set_cons_zero, List.set_cons_succ]
      (refine wp_app_eq _ _ 78 rfl rfl rfl HA1.out ?_; go_wp2_with (fail))
      refine hold_with (by (try dsimp only at hSw); exact HKB.out) (fun hSn => ?_)
      clear hSw; have hSw := hSn; clear hSn
      refine wpAnyP_one 21 rfl (by kernel_rfl) (fun K hK => ?_)
      rw [if_pos (by rfl)]
      simp only [List.getElem_toArray, List.getElem_cons_succ, List.getElem_cons_zero, Act.put, List.setIfInBounds_toArray, List.set_cons_zero, List.set_cons_succ]
      (refine wp_app_eq _ _ 78 rfl rfl rfl HA2.out ?_; go_wp2_with (fail))
      refine hold_with (by (try dsimp only at hSw); exact k0) (fun hSn => ?_)
      clear hSw; have hSw := hSn; clear hSn
      refine wpAnyP_take 24 [] (v := ?_) rfl (by kernel_rfl) (fun _ _ _ h => h) (by assumption) (Or.inl ⟨by rfl, ?_⟩) ?_
      rotate_left
      · (intro w hSw; (try dsimp only at hSw); go_simp; try with_reducible rfl)
      simp only [List.getElem_toArray, List.getElem_cons_succ, List.getElem_cons_zero, Act.put, List.setIfInBounds_toArray, List.set_cons_zero, List.set_cons_succ]
      refine wpAnyP_one 25 rfl (by kernel_rfl) (fun K hK => ?_)
      rw [if_pos (by rfl)]
      go_wp2_with (fail)
      refine ⟨fun hz => (by simp at hz), ?_⟩
      refine wpAnyP_done (by kernel_rfl) ?_ _
      skip
      clear hSw HA1 HA2 HKB hwrap hif k0 k1 b0 b1 b2
      go_wp2_with fail
      go_ret
      exact ⟨rfl, ⟨_, _, _, by rw [HPE.out]; exact HF.out⟩, HBX.out.trans HBS.out⟩
set_option maxRecDepth 100000 in
set_option maxHeartbeats 4000000 in
theorem turn_arrive_1 (w : World) (B pp lo m : Nat) (kind n : Int) (q : Nat → Nat) (F : Nat → List Nat) (wv : Nat → Value) (P : Pair) (stays : Bool) (h : PairAt w B pp q F wv P) (ok : P.Ok) (hB : B ≤ w.heap.size) (hk : kind % 6 = 2 ∧ stays = false ∨ kind % 6 = 3 ∧ stays = true) (hk0 : 0 ≤ kind) (hn : n ≤ 9223372036854775807)
    (hds : P.way 1 ≠ [] → (P.taken 1 0 ((max n 0).toNat % (P.way 1).length)).2.map (·.2) = says 1 lo m ∧ P.got 0 ≤ lo ∧ lo + m ≤ P.sent 1) :
    Calls Try.prog 40 #[.pointer (some ⟨pp, 0, none⟩), .agg #[.int .i64 kind, .int .i64 n, .bool true]] w
      (PairPost B pp (if P.way 1 = [] then P else { P.arrived 1 0 ((max n 0).toNat % (P.way 1).length) stays with got := upd P.got 0 (gotTo (P.got 0) lo m) }) w) := by
  have hcx : Chg [] w (w.alloc (.cells #[.int .i64 kind, .int .i64 n, .bool true] 83)) := (Chg.refl _ _).alloc _
  have hbx := hcx.below hB (by simp)
  have CT : ∀ nn : Nat, (max n 0).toNat = nn → Calls Try.prog 71 #[.pointer (some ⟨pp, 0, none⟩), .int .i64 1, .int .i64 (nn : Int), .bool stays] (w.alloc (.cells #[.int .i64 kind, .int .i64 n, .bool true] 83))
      (PairPost B pp (if P.way 1 = [] then P else { P.arrived 1 0 (nn % (P.way 1).length) stays with got := upd P.got 0 (gotTo (P.got 0) lo m) }) (w.alloc (.cells #[.int .i64 kind, .int .i64 n, .bool true] 83))) := fun nn hnn => by
    rw [hnn] at hds
    exact arrive_1 _ B pp nn lo m q F wv P stays (h.keep hcx) ok (Nat.le_trans hB hcx.size) (by omega) hds
  have HBX := Lib.hid hbx
  have HCT := Lib.hid CT
  clear h ok hcx hbx hds CT
  by_cases hneg : n < 0
  · have e0 : (max n 0).toNat = 0 := by omega
    rw [e0]
    have C1 : Calls Try.prog 71 #[.pointer (some ⟨pp, 0, none⟩), .int .i64 1, .int .i64 0, .bool stays] _ _ := HCT.out 0 e0
    obtain ⟨P', hP'⟩ : ∃ P', P' = (if P.way 1 = [] then P else { P.arrived 1 0 (0 % (P.way 1).length) stays with got := upd P.got 0 (gotTo (P.got 0) lo m) }) := ⟨_, rfl⟩
    rw [← hP'] at C1 ⊢
    have C0 := Lib.hid C1
    clear e0 HCT hP' C1
    rcases hk with ⟨r, rfl⟩ | ⟨r, rfl⟩
    all_goals
      go_enter Try.func40, Try.ntmps40
      go_wp2_with fail
      refine C0.out.mono ?_
      rintro e w2 ⟨rfl, hex, hbl⟩
      have HF := Lib.hid (And.intro hex (HBX.out.trans hbl))
      clear hex hbl C0
      go_wp2_with fail
      go_ret
      exact ⟨rfl, HF.out⟩
  · obtain ⟨nn, rfl⟩ : ∃ nn : Nat, n = nn := ⟨n.toNat, by omega⟩
    have e0 : (max (nn : Int) 0).toNat = nn := by omega
    rw [e0]
    have C1 := HCT.out nn e0
    obtain ⟨P', hP'⟩ : ∃ P', P' = (if P.way 1 = [] then P else { P.arrived 1 0 (nn % (P.way 1).length) stays with got := upd P.got 0 (gotTo (P.got 0) lo m) }) := ⟨_, rfl⟩
    rw [← hP'] at C1 ⊢
    have C0 := Lib.hid C1
    have hneg0 : (0 : Int) ≤ (nn : Int) := by omega
    clear e0 HCT hneg hP' C1
    rcases hk with ⟨r, rfl⟩ | ⟨r, rfl⟩
    all_goals
      go_enter Try.func40, Try.ntmps40
      go_wp2_with fail
      refine C0.out.mono ?_
      rintro e w2 ⟨rfl, hex, hbl⟩
      have HF := Lib.hid (And.intro hex (HBX.out.trans hbl))
      clear hex hbl C0
      go_wp2_with fail
      go_ret
      exact ⟨rfl, HF.out⟩

set_option maxRecDepth 100000 in
set_option maxHeartbeats 4000000 in
theorem turn_drop_1 (w : World) (B pp : Nat) (kind n : Int) (q : Nat → Nat) (F : Nat → List Nat) (wv : Nat → Value) (P : Pair) (h : PairAt w B pp q F wv P) (ok : P.Ok) (hB : B ≤ w.heap.size) (hk : kind % 6 = 4) (hk0 : 0 ≤ kind) (hn : n ≤ 9223372036854775807) :
    Calls Try.prog 40 #[.pointer (some ⟨pp, 0, none⟩), .agg #[.int .i64 kind, .int .i64 n, .bool true]] w
      (PairPost B pp (if P.way 1 = [] then P else P.left 1 ((max n 0).toNat % (P.way 1).length) false) w) := by
  obtain ⟨nn, hnn⟩ : ∃ nn, nn = (max n 0).toNat := ⟨_, rfl⟩
  rw [← hnn]
  have hnn1 : (nn : Int) ≤ 9223372036854775807 := by omega
  have hnn0 : (0 : Int) ≤ (nn : Int) := by omega
  obtain ⟨wx, hwx⟩ : ∃ wx, wx = w.alloc (.cells #[.int .i64 kind, .int .i64 n, .bool true] 83) := ⟨_, rfl⟩
  have hcx : Chg [] w wx := by rw [hwx]; exact (Chg.refl _ _).alloc _
  have hbx := hcx.below hB (by simp)
  have hPx := h.keep hcx
  obtain ⟨P', hP'⟩ : ∃ P', P' = (if P.way 1 = [] then P else P.left 1 (nn % (P.way 1).length) false) := ⟨_, rfl⟩
  rw [← hP']
  have HN := Lib.hid hnn
  have HW := Lib.hid hwx
  have HP := Lib.hid hPx
  have HBX := Lib.hid hbx
  have HP' := Lib.hid hP'
  have OK := Lib.hid ok
  have hwxs : B ≤ wx.heap.size := Nat.le_trans hB hcx.size
  clear h ok hcx hbx hPx hwx hnn hP'
  go_enter Try.func40, Try.ntmps40
  go_upto_region 4 with (fail)
  go_cut [6] (fun s6 wq => s6 = .int .i64 (nn : Int) ∧ wq = wx)
  case first =>
    by_cases hneg : n < 0
    · have e : (0 : Int) = (nn : Int) := by have := HN.out; omega
      go_wp2_with fail
      go_meet
      exact ⟨by rw [← e], HW.out.symm⟩
    · have e : n = (nn : Int) := by have := HN.out; omega
      have E := Lib.hid e
      clear e
      go_wp2_with fail
      go_meet
      exact ⟨by rw [← E.out], HW.out.symm⟩
  case rest =>
    obtain ⟨rfl, rfl⟩ := hcut
    obtain ⟨wx, hwx⟩ : ∃ z, z = wc := ⟨_, rfl⟩
    subst hwx
    have hbox : At wx w.heap.size 83 [.int .i64 kind, .int .i64 n, .bool true] := by rw [HW.out]; exact At.new w 83 [_, _, _]
    obtain ⟨b0, b1, b2, _⟩ := hbox.three
    obtain ⟨n0, n1, n2, n3, n4, n5, n6, n7, n8⟩ := HP.out.str.nine
    clear n4 n5 n6 n7 n8
    by_cases hemp : P.way 1 = []
    · obtain ⟨a, c, hv⟩ := (HP.out.way 1 (by decide)).slice
      rw [hv, hemp] at n3
      simp only [List.length_nil] at n3
      have HF : Hid (PairPost B pp P' w (.returned (.bool true)) wx) := Lib.hid ⟨rfl, ⟨q, F, wv, by rw [HP'.out, if_pos hemp]; exact HP.out⟩, HBX.out⟩
      clear hv hemp
      go_wp2_with fail
      go_ret
      exact HF.out
    · have hlen : 0 < (P.way 1).length := List.length_pos_iff.2 hemp
      obtain ⟨g, cap, hv, hcap, hgl⟩ := (HP.out.way 1 (by decide)).form hlen
      rw [hv] at n3
      obtain ⟨wl, hwl⟩ := OK.out.way 1 (by decide)
      obtain ⟨L, hL⟩ : ∃ L, L = (P.way 1).length := ⟨_, rfl⟩
      rw [← hL] at n3 hlen hcap wl
      obtain ⟨k, hk⟩ : ∃ k, k = nn % L := ⟨_, rfl⟩
      have hkL : k < L := by rw [hk]; exact Nat.mod_lt _ hlen
      have hL0 : ((L : Nat) : Int) ≠ 0 := by omega
      have hLb : (((L : Nat) : Int) == 0) = false := beq_eq_false_iff_ne.2 hL0
      have HK : Hid ((nn : Int) % (L : Int) = (k : Int)) := Lib.hid (by rw [hk]; push_cast; rfl)
      have HV := Lib.hid (And.intro hL hv)
      have hPe : P' = P.left 1 k false := by rw [HP'.out, if_neg hemp, ← hL, hk]
      have HPE := Lib.hid hPe
      obtain ⟨k3, hk3⟩ : ∃ k3, k3 = k + 1 := ⟨_, rfl⟩
      have hwrap : IntKind.i64.wrap ((k : Nat) + 1 : Int) = ((k3 : Nat) : Int) := by rw [IntKind.wrap_i64]; omega
      obtain ⟨o2, ho2⟩ : ∃ o2, o2 = if cap = k3 then 0 else k3 * 6 := ⟨_, rfl⟩
      have hif : (if cap = k3 then some (⟨g, 0, none⟩ : Addr) else some ⟨g, k3 * 6, none⟩) = some ⟨g, o2, none⟩ := by rw [ho2]; split <;> rfl
      have hRX : RowT (Bytes wx) wx B (.slice (some ⟨g, 0, none⟩) (P.way 1).length cap) (P.way 1) := by
        have h := HP.out.way 1 (by decide)
        rw [hv] at h; exact h
      obtain ⟨v1, wb, v2, w2, happ1, happ2, hr2, hob, hcb, hc2⟩ := rowT_del (k := k) (o2 := o2) hRX (by rw [← HV.out.1]; exact hkL) (by rw [← HV.out.1]; omega) (by rw [← HV.out.1]; exact hcap) hwxs rfl (fun hne => by rw [ho2, if_neg (by omega), hk3])
      rw [← HV.out.1, ← hk3] at happ2
      have hppl : pp < wx.heap.size := HP.out.str.lt
      have hfin := HP.out.way_to (f := 1) (by decide) (hc2.mono (by simp)) hr2 (fun b hb => .inr (hob b hb))
      have hcs : Chg [pp] wx (w2.setCell ⟨pp, 3, none⟩ v2) := (hc2.mono (by simp)).set (by simp) _
      have hbs := hcs.below hwxs (by intro b hb; simp at hb; subst hb; exact HP.out.hp)
      have hst2 := HP.out.str.chg hc2 (by simp)
      have hcell : wx.cell? ⟨pp, 3, none⟩ = some (.slice (some ⟨g, 0, none⟩) L cap) := n3
      have k0 : w2.cell? ⟨pp, 3, none⟩ = some (.slice (some ⟨g, 0, none⟩) L cap) := (hc2.cell (p := ⟨pp, 3, none⟩) hppl (by simp)).trans hcell
      have k1 : w2.frozen? ⟨pp, 3, none⟩ = false := hst2.frozen _
      have HKB := Lib.hid ((hcb.cell (p := ⟨pp, 3, none⟩) hppl (by simp)).trans hcell)
      obtain ⟨v2a, v2c, hv2⟩ := hr2.slice
      obtain ⟨v2n, hv2n⟩ : ∃ v2n, v2n = ((P.way 1).eraseIdx k).length := ⟨_, rfl⟩
      rw [← hv2n] at hv2
      subst hv2
      have HA1 := Lib.hid happ1
      have HA2 := Lib.hid happ2
      have HF := Lib.hid hfin
      have HBS := Lib.hid hbs
      have hic : k ≤ cap := by omega
      have hk3l : k3 ≤ L := by omega
      have hk00 : (0 : Int) ≤ (k : Int) := by omega
      have hk11 : (k : Int) < (L : Int) := by omega
      clear hr2 hob hcb hc2 hfin hcs hbs hst2 happ1 happ2 hv2n ho2 hk3 hRX hv hL hk hPe hwl hemp hbox
      go_upto_region 13 with (fail)
      rw [HK.out]
      refine wp_region_phase 25 (fun w' => w'.cell? ⟨pp, 3, none⟩ = some (.slice (some ⟨g, 0, none⟩) L cap)) (by kernel_rfl) ?_
      refine wpAnyP_with (by exact hcell) (fun hSw => ?_)
      refine wpAnyP_take 0 [] (v := ?_) rfl (by kernel_rfl) (fun _ _ _ h => h) (by assumption) (Or.inl ⟨by rfl, ?_⟩) ?_
      rotate_left
      · (intro w hSw; (try dsimp only at hSw); go_simp; try with_reducible rfl)
      simp only [List.getElem_toArray, List.getElem_cons_succ, List.getElem_cons_zero, Act.put, List.setIfInBounds_toArray, List.set_cons_zero, List.set_cons_succ]
      refine wpAnyP_take 1 [] (v := ?_) rfl (by kernel_rfl) (fun _ _ _ h => h) (by assumption) (Or.inl ⟨by rfl, ?_⟩) ?_
      rotate_left
      · (intro w hSw; (try dsimp only at hSw); go_simp; try with_reducible rfl)
      simp only [List.getElem_toArray, List.getElem_cons_succ, List.getElem_cons_zero, Act.put, List.setIfInBounds_toArray, List.set_cons_zero, List.set_cons_succ]
      refine wpAnyP_take 3 [] (v := ?_) rfl (by kernel_rfl) (fun _ _ _ h => h) (by assumption) (Or.inl ⟨by rfl, ?_⟩) ?_
      rotate_left
      · (intro w hSw; (try dsimp only at hSw); go_simp; try with_reducible rfl)
      simp only [List.getElem_toArray, List.getElem_cons_succ, List.getElem_cons_zero, Act.put, List.setIfInBounds_toArray, List.set_cons_zero, List.set_cons_succ]
      refine wpAnyP_take 4 [] (v := ?_) rfl (by kernel_rfl) (fun _ _ _ h => h) (by assumption) (Or.inl ⟨by rfl, ?_⟩) ?_
      rotate_left
      · (intro w hSw; (try dsimp only at hSw); go_simp; try with_reducible rfl)
      simp only [List.getElem_toArray, List.getElem_cons_succ, List.getElem_cons_zero, Act.put, List.setIfInBounds_toArray, List.set_cons_zero, List.set_cons_succ]
      refine wpAnyP_take 5 [] (v := ?_) rfl (by kernel_rfl) (fun _ _ _ h => h) (by assumption) (Or.inl ⟨by rfl, ?_⟩) ?_
      rotate_left
      · (intro w hSw; (try dsimp only at hSw); go_simp; try with_reducible rfl)
      simp only [List.getElem_toArray, List.getElem_cons_succ, List.getElem_cons_zero, Act.put, List.setIfInBounds_toArray, List.set_cons_zero, List.set_cons_succ]
      refine wpAnyP_take 6 [] (v := ?_) rfl (by kernel_rfl) (fun _ _ _ h => h) (by assumption) (Or.inl ⟨by rfl, ?_⟩) ?_
      rotate_left
      · (intro w hSw; (try dsimp only at hSw); go_simp; try with_reducible rfl)
      simp only [List.getElem_toArray, List.getElem_cons_succ, List.getElem_cons_zero, Act.put, List.setIfInBounds_toArray, List.set_cons_zero, List.set_cons_succ]
      refine wpAnyP_take 7 [] (v := ?_) rfl (by kernel_rfl) (fun _ _ _ h => h) (by assumption) (Or.inl ⟨by rfl, ?_⟩) ?_
      rotate_left
      · (intro w hSw; (try dsimp only at hSw); go_simp; try with_reducible rfl)
      simp only [List.getElem_toArray, List.getElem_cons_succ, List.getElem_cons_zero, Act.put, List.setIfInBounds_toArray, List.set_cons_zero, List.set_cons_succ]
      refine wpAnyP_take 8 [] (v := ?_) rfl (by kernel_rfl) (fun _ _ _ h => h) (by assumption) (Or.inl ⟨by rfl, ?_⟩) ?_
      rotate_left
      · (intro w hSw; (try dsimp only at hSw); go_simp; try with_reducible rfl)
      simp only [List.getElem_toArray, List.getElem_cons_succ, List.getElem_cons_zero, Act.put, List.setIfInBounds_toArray, List.set_cons_zero, List.set_cons_succ]
      refine wpAnyP_take 9 [] (v := ?_) rfl (by kernel_rfl) (fun _ _ _ h => h) (by assumption) (Or.inl ⟨by rfl, ?_⟩) ?_
      rotate_left
      · (intro w hSw; (try dsimp only at hSw); go_simp; try with_reducible rfl)
      simp only [List.getElem_toArray, List.getElem_cons_succ, List.getElem_cons_zero, Act.put, List.setIfInBounds_toArray, List.set_cons_zero, List.set_cons_succ]
      refine wpAnyP_take 10 [] (v := ?_) rfl (by kernel_rfl) (fun _ _ _ h => h) (by assumption) (Or.inl ⟨by rfl, ?_⟩) ?_
      rotate_left
      · (intro w hSw; (try dsimp only at hSw); go_simp; try with_reducible rfl)
      simp only [List.getElem_toArray, List.getElem_cons_succ, List.getElem_cons_zero, Act.put, List.setIfInBounds_toArray, List.set_cons_zero, List.set_cons_succ]
      refine wpAnyP_take 12 [] (v := ?_) rfl (by kernel_rfl) (fun _ _ _ h => h) (by assumption) (Or.inl ⟨by rfl, ?_⟩) ?_
      rotate_left
      · (intro w hSw; (try dsimp only at hSw); go_simp; try with_reducible rfl)
      simp only [List.getElem_toArray, List.getElem_cons_succ, List.getElem_cons_zero, Act.put, List.setIfInBounds_toArray, List.set_cons_zero, List.set_cons_succ]
      refine wpAnyP_take 13 [] (v := ?_) rfl (by kernel_rfl) (fun _ _ _ h => h) (by assumption) (Or.inl ⟨by rfl, ?_⟩) ?_
      rotate_left
      · (intro w hSw; (try dsimp only at hSw); go_simp; try with_reducible rfl)
      simp only [List.getElem_toArray, List.getElem_cons_succ, List.getElem_cons_zero, Act.put, List.setIfInBounds_toArray, List.set_cons_zero, List.set_cons_succ]
      refine wpAnyP_take 14 [] (v := ?_) rfl (by kernel_rfl) (fun _ _ _ h => h) (by assumption) (Or.inl ⟨by rfl, ?_⟩) ?_
      rotate_left
      · (intro w hSw; (try dsimp only at hSw); go_simp; try with_reducible rfl)
      simp only [List.getElem_toArray, List.getElem_cons_succ, List.getElem_cons_zero, Act.put, List.setIfInBounds_toArray, List.set_cons_zero, List.set_cons_succ]
      refine wpAnyP_take 15 [] (v := ?_) rfl (by kernel_rfl) (fun _ _ _ h => h) (by assumption) (Or.inl ⟨by rfl, ?_⟩) ?_
      rotate_left
      · (intro w hSw; (try dsimp only at hSw); go_simp; try with_reducible rfl)
      simp only [List.getElem_toArray, List.getElem_cons_succ, List.getElem_cons_zero, Act.put, List.setIfInBounds_toArray, List.set_cons_zero, List.set_cons_succ]
      refine wpAnyP_take 16 [] (v := ?_) rfl (by kernel_rfl) (fun _ _ _ h => h) (by assumption) (Or.inl ⟨by rfl, ?_⟩) ?_
      rotate_left
      · (intro w hSw; (try dsimp only at hSw); go_simp; try with_reducible rfl)
      simp only [List.getElem_toArray, List.getElem_cons_succ, List.getElem_cons_zero, Act.put, List.setIfInBounds_toArray, List.set_cons_zero, List.set_cons_succ]
      refine wpAnyP_take 17 [] (v := ?_) rfl (by kernel_rfl) (fun _ _ _ h => h) (by assumption) (Or.inl ⟨by rfl, ?_⟩) ?_
      rotate_left
      · (intro w hSw; (try dsimp only at hSw); go_simp; try with_reducible rfl)
      simp only [List.getElem_toArray, List.getElem_cons_succ, List.getElem_cons_zero, Act.put, List.setIfInBounds_toArray, List.set_cons_zero, List.set_cons_succ]
      refine wpAnyP_take 18 [] (v := ?_) rfl (by kernel_rfl) (fun _ _ _ h => h) (by assumption) (Or.inl ⟨by rfl, ?_⟩) ?_
      rotate_left
      · (intro w hSw; (try dsimp only at hSw); go_simp; try with_reducible rfl)
      simp only [List.getElem_toArray, List.getElem_cons_succ, List.getElem_cons_zero, Act.put, List.setIfInBounds_toArray, List.set_cons_zero, List.set_cons_succ]
      refine wpAnyP_take 19 [] (v := ?_) rfl (by kernel_rfl) (fun _ _ _ h => h) (by assumption) (Or.inl ⟨by rfl, ?_⟩) ?_
      rotate_left
      · (intro w hSw; (try dsimp only at hSw); go_simp; try with_reducible rfl)
      simp only [List.getElem_toArray, List.getElem_cons_succ, List.getElem_cons_zero, Act.put, List.setIfInBounds_toArray, List.set_cons_zero, List.set_cons_succ]
      refine wpAnyP_take 20 [] (v := ?_) rfl (by kernel_rfl) (fun _ _ _ h => h) (by assumption) (Or.inl ⟨by rfl, ?_⟩) ?_
      rotate_left
      · (intro w hSw; (try dsimp only at hSw); go_simp; try with_reducible rfl)
      simp only [List.getElem_toArray, List.getElem_cons_succ, List.getElem_cons_zero, Act.put, List.setIfInBounds_toArray, List.set_cons_zero, List.set_cons_succ]
      refine wpAnyP_take 22 [24, 23] (v := ?_) rfl (by kernel_rfl) (fun _ _ _ h => h) (by assumption) (Or.inl ⟨by rfl, ?_⟩) ?_
      rotate_left
      · (intro w hSw; (try dsimp only at hSw); go_simp; try with_reducible rfl)
      simp only [List.getElem_toArray, List.getElem_cons_succ, List.getElem_cons_zero, Act.put, List.setIfInBounds_toArray, List.set_cons_zero, List.set_cons_succ]
      refine wpAnyP_take 23 [24] (v := ?_) rfl (by kernel_rfl) (fun _ _ _ h => h) (by assumption) (Or.inl ⟨by rfl, ?_⟩) ?_
      rotate_left
      · (intro w hSw; (try dsimp only at hSw); go_simp; try with_reducible rfl)
      simp only [List.getElem_toArray, List.getElem_cons_succ, List.getElem_cons_zero, Act.put, List.setIfInBounds_toArray, List.set_cons_zero, List.set_cons_succ]
      refine wpAnyP_one 2 rfl (by kernel_rfl) (fun K hK => ?_)
      rw [if_pos (by rfl)]
      go_wp2_with (fail)
      refine hold_with (by (try dsimp only at hSw); exact (((Chg.refl [] wx).alloc _).drew.cell (p := ⟨pp, 3, none⟩) hppl (by simp)).trans hcell) (fun hSn => ?_)
      clear hSw; have hSw := hSn; clear hSn
      refine wpAnyP_one 11 rfl (by kernel_rfl) (fun K hK => ?_)
      rw [if_pos (by rfl)]
      simp only [List.getElem_toArray, List.getElem_cons_succ, List.getElem_cons_zero, Act.put, List.setIfInBounds_toArray, List.set_cons_zero, List.set_cons_succ]
      (refine wp_app_eq _ _ 78 rfl rfl rfl HA1.out ?_; go_wp2_with (fail))
      refine hold_with (by (try dsimp only at hSw); exact HKB.out) (fun hSn => ?_)
      clear hSw; have hSw := hSn; clear hSn
      refine wpAnyP_one 21 rfl (by kernel_rfl) (fun K hK => ?_)
      rw [if_pos (by rfl)]
      simp only [List.getElem_toArray, List.getElem_cons_succ, List.getElem_cons_zero, Act.put, List.setIfInBounds_toArray, List.set_cons_zero, List.set_cons_succ]
      (refine wp_app_eq _ _ 78 rfl rfl rfl HA2.out ?_; go_wp2_with (fail))
      refine hold_with (by (try dsimp only at hSw); exact k0) (fun hSn => ?_)
      clear hSw; have hSw := hSn; clear hSn
      refine wpAnyP_take 24 [] (v := ?_) rfl (by kernel_rfl) (fun _ _ _ h => h) (by assumption) (Or.inl ⟨by rfl, ?_⟩) ?_
      rotate_left
      · (intro w hSw; (try dsimp only at hSw); go_simp; try with_reducible rfl)
      simp only [List.getElem_toArray, List.getElem_cons_succ, List.getElem_cons_zero, Act.put, List.setIfInBounds_toArray, List.set_cons_zero, List.set_cons_succ]
      refine wpAnyP_one 25 rfl (by kernel_rfl) (fun K hK => ?_)
      rw [if_pos (by rfl)]
      go_wp2_with (fail)
      refine ⟨fun hz => (by simp at hz), ?_⟩
      refine wpAnyP_done (by kernel_rfl) ?_ _
      skip
      clear hSw HA1 HA2 HKB hwrap hif k0 k1 b0 b1 b2
      go_wp2_with fail
      go_ret
      exact ⟨rfl, ⟨_, _, _, by rw [HPE.out]; exact HF.out⟩, HBX.out.trans HBS.out⟩
end Go.Proofs.Ytkmjpphmciaklaa
