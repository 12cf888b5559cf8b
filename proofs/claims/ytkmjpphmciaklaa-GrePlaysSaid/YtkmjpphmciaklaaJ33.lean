/- Two ends: a tick goes by. -/
import Derived.Test.YtkmjpphmciaklaaJ31
namespace Go.Proofs.Ytkmjpphmciaklaa
open Go.RowKit
set_option linter.unusedVariables false
set_option linter.unusedSimpArgs false
attribute [local go_sem ↓] Go.wp_at_zero Go.wp_at_succ

def Pair.later (P : Pair) : Pair := { P with now := P.now + 1 }
def Pair.tickG (P : Pair) (i lo m : Nat) : Pair :=
  { P with e := upd P.e i (((P.e i).ticked P.now).1.tells P.now).1, way := upd P.way i (P.way i ++ (((P.e i).ticked P.now).1.tells P.now).2), got := upd P.got i (gotTo (P.got i) lo m) }
theorem tells_len {E : End} (ok : E.Ok) (hl : E.s.lost ≤ 900000000) (now : Int) : ((E.ticked now).1.tells now).2.length ≤ 17 := by
  have h1 : (E.ticked now).1.s.Ok := (Snd.late_ok ok.s now (by omega)).1
  have h2 := Snd.pump_len h1 now
  unfold End.tells
  split
  · simp [End.pumped]; omega
  · simp [End.pumped]; omega
def pairAfter (P : Pair) (lo0 m0 lo1 m1 : Nat) : Nat → Pair
  | 0 => P.later
  | 1 => P.later.tickG 0 lo0 m0
  | _ + 2 => (P.later.tickG 0 lo0 m0).tickG 1 lo1 m1

set_option maxRecDepth 100000 in
set_option maxHeartbeats 8000000 in
theorem turn_tick (w : World) (B pp lo0 m0 lo1 m1 : Nat) (kind n : Int) (fb : Bool) (q : Nat → Nat) (F : Nat → List Nat) (wv : Nat → Value) (P : Pair) (h : PairAt w B pp q F wv P) (ok : P.Ok) (hB : B ≤ w.heap.size) (hk : kind % 6 = 5) (hk0 : 0 ≤ kind)
    (h0 : ((P.e 0).ticked (P.now + 1 : Nat)).2.map (·.2) = says 1 lo0 m0 ∧ P.got 0 ≤ lo0 ∧ lo0 + m0 ≤ P.sent 1) (h1 : ((P.e 1).ticked (P.now + 1 : Nat)).2.map (·.2) = says 0 lo1 m1 ∧ P.got 1 ≤ lo1 ∧ lo1 + m1 ≤ P.sent 0) :
    Calls Try.prog 40 #[.pointer (some ⟨pp, 0, none⟩), .agg #[.int .i64 kind, .int .i64 n, .bool fb]] w (PairPost B pp ((P.later.tickG 0 lo0 m0).tickG 1 lo1 m1) w) := by
  obtain ⟨wx, hwx⟩ : ∃ wx, wx = w.alloc (.cells #[.int .i64 kind, .int .i64 n, .bool fb] 83) := ⟨_, rfl⟩
  have hcx : Chg [] w wx := by rw [hwx]; exact (Chg.refl _ _).alloc _
  have hbx := hcx.below hB (by simp)
  have hPx := h.keep hcx
  have HW := Lib.hid hwx
  have HP := Lib.hid hPx
  have HBX := Lib.hid hbx
  have OK := Lib.hid ok
  have H0 := Lib.hid h0
  have H1 := Lib.hid h1
  have hwxs : B ≤ wx.heap.size := Nat.le_trans hB hcx.size
  have hnow := ok.now
  clear h ok hcx hbx hPx hwx h0 h1
  go_enter Try.func40, Try.ntmps40
  go_upto_if 15 with (fail)
  go_cut [5] (fun s5 wq => wq = wx)
  case first =>
    cases fb with
    | false =>
      go_wp2_with fail
      go_meet
      exact HW.out.symm
    | true =>
      go_wp2_with fail
      go_meet
      exact HW.out.symm
  case rest =>
  subst hcut
  obtain ⟨wx, hwx⟩ : ∃ z, z = wc := ⟨_, rfl⟩
  subst hwx
  have hbox : At wx w.heap.size 83 [.int .i64 kind, .int .i64 n, .bool fb] := by rw [HW.out]; exact At.new w 83 [_, _, _]
  obtain ⟨b0, b1, b2, _⟩ := hbox.three
  go_upto_region 4 with (fail)
  go_cut [6] (fun s6 wq => wq = wx)
  case first =>
    by_cases hneg : n < 0
    · go_wp2_with fail
      go_meet
      rfl
    · go_wp2_with fail
      go_meet
      rfl
  case rest =>
  subst hcut
  obtain ⟨wx, hwx⟩ : ∃ z, z = wc := ⟨_, rfl⟩
  subst hwx
  obtain ⟨n0, n1, n2, n3, n4, n5, n6, n7, n8⟩ := HP.out.str.nine
  have f8 : wx.frozen? ⟨pp, 8, none⟩ = false := HP.out.str.frozen _
  have hnb : ((P.now : Nat) : Int) ≤ 1000000 := by omega
  have hnb0 : (0 : Int) ≤ ((P.now : Nat) : Int) := by omega
  go_upto_region 17 with (fail)
  clear hk
  have hlat : PairAt (wx.setCell ⟨pp, 8, none⟩ (.int .i64 ((P.now : Int) + 1))) B pp q F wv P.later := by
    have hcs : Chg [pp] wx (wx.setCell ⟨pp, 8, none⟩ (.int .i64 ((P.now : Int) + 1))) := (Chg.refl [pp] wx).set (by simp) _
    exact HP.out.own_to (got' := P.got) (sent' := P.sent) (now' := P.now + 1) (by
      have h2 := HP.out.str.set 8 (.int .i64 ((P.now : Int) + 1))
      simpa using h2) hcs
  have hblat : Below B w (wx.setCell ⟨pp, 8, none⟩ (.int .i64 ((P.now : Int) + 1))) := HBX.out.trans (((Chg.refl [pp] wx).set (by simp) _).below hwxs (by intro b hb; simp at hb; subst hb; exact HP.out.hp))
  obtain ⟨wl, hwl⟩ : ∃ wl, wl = wx.setCell ⟨pp, 8, none⟩ (.int .i64 ((P.now : Int) + 1)) := ⟨_, rfl⟩
  rw [← hwl] at hlat hblat ⊢
  have HLAT := Lib.hid (And.intro hlat hblat)
  clear hlat hblat hwl n0 n1 n2 n3 n4 n5 n6 n7 n8 f8 b0 b1 b2 hbox
  go_wp2_with fail
  go_loopg [8] 2 (fun x s8 wr => ∃ i : Nat, x = 2 - i ∧ i ≤ 2 ∧ s8 = .int .i64 i ∧ (∃ q F wv, PairAt wr B pp q F wv (pairAfter P lo0 m0 lo1 m1 i)) ∧ Below B w wr)
  case atStart => exact ⟨0, rfl, by decide, rfl, ⟨_, _, _, HLAT.out.1⟩, HLAT.out.2⟩
  case round =>
    obtain ⟨i, hi, hi2, rfl, hex, hbl⟩ := hrel
    have hi3 : i = 0 ∨ i = 1 ∨ i = 2 := by omega
    rcases hi3 with rfl | rfl | rfl
    · -- end 0 ticks
      obtain ⟨q1, F1, wv1, hP1⟩ := hex
      obtain ⟨w1, hw1⟩ : ∃ z, z = wr := ⟨_, rfl⟩
      subst hw1
      obtain ⟨Pc, hPc⟩ : ∃ Pc, Pc = P.later := ⟨_, rfl⟩
      have hP1' : PairAt w1 B pp q1 F1 wv1 Pc := by rw [hPc]; exact hP1
      have hpe : Pc.e 0 = P.e 0 ∧ Pc.now = P.now + 1 ∧ Pc.got 0 = P.got 0 ∧ Pc.sent = P.sent ∧ Pc.way 0 = P.way 0 := by rw [hPc]; exact ⟨rfl, rfl, rfl, rfl, rfl⟩
      have hB1s : B ≤ w1.heap.size := by have := hP1'.str.lt; have := hP1'.hp; omega
      have hPd := hP1'.keep (Chg.refl [] w1).drew
      have CT := Lib.hid (tick_end w1.drew B (q1 0) (F1 0) (Pc.e 0) (Pc.now : Int) (hPd.e 0 (by decide)) (by rw [hpe.1]; exact (OK.out.e 0 (by decide)).1) hB1s (by omega) (by have := OK.out.now; rw [hpe.2.1]; omega) (by rw [hpe.1]; have := (OK.out.e 0 (by decide)).2; omega))
      obtain ⟨m0', m1', m2', m3', m4', m5', m6', m7', m8'⟩ := hPd.str.nine
      have hds : ((Pc.e 0).ticked Pc.now).2.map (·.2) = says 1 lo0 m0 := by rw [hpe.1, hpe.2.1]; exact H0.out.1
      have HDS := Lib.hid hds
      have HPD := Lib.hid hPd
      have HBL := Lib.hid hbl
      have HPE := Lib.hid hpe
      have HPC := Lib.hid hPc
      clear hP1 hP1' hPd hbl hpe hds hPc
      go_upto_region 20 with (fail)
      refine wp_region_phase 15 (fun w' => w'.cell? ⟨pp, 0, none⟩ = some (.pointer (some ⟨q1 0, 0, none⟩)) ∧ w'.cell? ⟨pp, 8, none⟩ = some (.int .i64 Pc.now)) (by kernel_rfl) ?_
      refine wpAnyP_with (by exact ⟨m0', m8'⟩) (fun hSw => ?_)
      refine wpAnyP_take 0 [] (v := ?_) rfl (by kernel_rfl) (fun _ _ _ h => h) (by assumption) (Or.inl ⟨by rfl, ?_⟩) ?_
      rotate_left
      · (intro w hSw; (try dsimp only at hSw); obtain ⟨s0, s1⟩ := hSw; go_simp; try with_reducible rfl)
      simp only [List.getElem_toArray, List.getElem_cons_succ, List.getElem_cons_zero, Act.put, List.setIfInBounds_toArray, List.set_cons_zero, List.set_cons_succ]
      refine wpAnyP_take 1 [] (v := ?_) rfl (by kernel_rfl) (fun _ _ _ h => h) (by assumption) (Or.inl ⟨by rfl, ?_⟩) ?_
      rotate_left
      · (intro w hSw; (try dsimp only at hSw); obtain ⟨s0, s1⟩ := hSw; go_simp; try with_reducible rfl)
      simp only [List.getElem_toArray, List.getElem_cons_succ, List.getElem_cons_zero, Act.put, List.setIfInBounds_toArray, List.set_cons_zero, List.set_cons_succ]
      refine wpAnyP_take 2 [] (v := ?_) rfl (by kernel_rfl) (fun _ _ _ h => h) (by assumption) (Or.inl ⟨by rfl, ?_⟩) ?_
      rotate_left
      · (intro w hSw; (try dsimp only at hSw); obtain ⟨s0, s1⟩ := hSw; go_simp; try with_reducible rfl)
      simp only [List.getElem_toArray, List.getElem_cons_succ, List.getElem_cons_zero, Act.put, List.setIfInBounds_toArray, List.set_cons_zero, List.set_cons_succ]
      refine wpAnyP_take 3 [] (v := ?_) rfl (by kernel_rfl) (fun _ _ _ h => h) (by assumption) (Or.inl ⟨by rfl, ?_⟩) ?_
      rotate_left
      · (intro w hSw; (try dsimp only at hSw); obtain ⟨s0, s1⟩ := hSw; go_simp; try with_reducible rfl)
      simp only [List.getElem_toArray, List.getElem_cons_succ, List.getElem_cons_zero, Act.put, List.setIfInBounds_toArray, List.set_cons_zero, List.set_cons_succ]
      refine wpAnyP_take 4 [] (v := ?_) rfl (by kernel_rfl) (fun _ _ _ h => h) (by assumption) (Or.inl ⟨by rfl, ?_⟩) ?_
      rotate_left
      · (intro w hSw; (try dsimp only at hSw); obtain ⟨s0, s1⟩ := hSw; go_simp; try with_reducible rfl)
      simp only [List.getElem_toArray, List.getElem_cons_succ, List.getElem_cons_zero, Act.put, List.setIfInBounds_toArray, List.set_cons_zero, List.set_cons_succ]
      refine wpAnyP_take 5 [] (v := ?_) rfl (by kernel_rfl) (fun _ _ _ h => h) (by assumption) (Or.inl ⟨by rfl, ?_⟩) ?_
      rotate_left
      · (intro w hSw; (try dsimp only at hSw); obtain ⟨s0, s1⟩ := hSw; go_simp; try with_reducible rfl)
      simp only [List.getElem_toArray, List.getElem_cons_succ, List.getElem_cons_zero, Act.put, List.setIfInBounds_toArray, List.set_cons_zero, List.set_cons_succ]
      refine wpAnyP_take 6 [] (v := ?_) rfl (by kernel_rfl) (fun _ _ _ h => h) (by assumption) (Or.inl ⟨by rfl, ?_⟩) ?_
      rotate_left
      · (intro w hSw; (try dsimp only at hSw); obtain ⟨s0, s1⟩ := hSw; go_simp; try with_reducible rfl)
      simp only [List.getElem_toArray, List.getElem_cons_succ, List.getElem_cons_zero, Act.put, List.setIfInBounds_toArray, List.set_cons_zero, List.set_cons_succ]
      refine wpAnyP_take 7 [] (v := ?_) rfl (by kernel_rfl) (fun _ _ _ h => h) (by assumption) (Or.inl ⟨by rfl, ?_⟩) ?_
      rotate_left
      · (intro w hSw; (try dsimp only at hSw); obtain ⟨s0, s1⟩ := hSw; go_simp; try with_reducible rfl)
      simp only [List.getElem_toArray, List.getElem_cons_succ, List.getElem_cons_zero, Act.put, List.setIfInBounds_toArray, List.set_cons_zero, List.set_cons_succ]
      refine wpAnyP_take 8 [] (v := ?_) rfl (by kernel_rfl) (fun _ _ _ h => h) (by assumption) (Or.inl ⟨by rfl, ?_⟩) ?_
      rotate_left
      · (intro w hSw; (try dsimp only at hSw); obtain ⟨s0, s1⟩ := hSw; go_simp; try with_reducible rfl)
      simp only [List.getElem_toArray, List.getElem_cons_succ, List.getElem_cons_zero, Act.put, List.setIfInBounds_toArray, List.set_cons_zero, List.set_cons_succ]
      refine wpAnyP_take 9 [] (v := ?_) rfl (by kernel_rfl) (fun _ _ _ h => h) (by assumption) (Or.inl ⟨by rfl, ?_⟩) ?_
      rotate_left
      · (intro w hSw; (try dsimp only at hSw); obtain ⟨s0, s1⟩ := hSw; go_simp; try with_reducible rfl)
      simp only [List.getElem_toArray, List.getElem_cons_succ, List.getElem_cons_zero, Act.put, List.setIfInBounds_toArray, List.set_cons_zero, List.set_cons_succ]
      refine wpAnyP_one 10 rfl (by kernel_rfl) (fun K hK => ?_)
      rw [if_pos (by rfl)]
      go_wp2_with ((refine CT.out.mono ?_; rintro e w3 ⟨o1, o2, rfl, hrow, hT, hd12, ho1, hmv⟩; obtain ⟨F3, hP3, hc3⟩ := HPD.out.end_to (t := 0) (by decide) hmv; have hbl3 := hc3.below hB1s (HPD.out.low.1 0 (by decide)); have z10 : w3.cell? ⟨pp, 0, none⟩ = some (.pointer (some ⟨q1 0, 0, none⟩)) ∧ w3.cell? ⟨pp, 8, none⟩ = some (.int .i64 Pc.now) := ⟨hP3.str.cell 0, hP3.str.cell 8⟩; have HP3 := Lib.hid hP3; have HT := Lib.hid hT; have HROW := Lib.hid hrow; have HBL3 := Lib.hid hbl3; have hs3 := hc3.size; clear hrow hT hd12 ho1 hmv hP3 hc3 hbl3))
      refine hold_with (by (try dsimp only at hSw); exact z10) (fun hSn => ?_)
      clear hSw; have hSw := hSn; clear hSn
      refine wpAnyP_take 11 [] (v := ?_) rfl (by kernel_rfl) (fun _ _ _ h => h) (by assumption) (Or.inl ⟨by rfl, ?_⟩) ?_
      rotate_left
      · (intro w hSw; (try dsimp only at hSw); obtain ⟨s0, s1⟩ := hSw; go_simp; try with_reducible rfl)
      simp only [List.getElem_toArray, List.getElem_cons_succ, List.getElem_cons_zero, Act.put, List.setIfInBounds_toArray, List.set_cons_zero, List.set_cons_succ]
      refine wpAnyP_take 12 [] (v := ?_) rfl (by kernel_rfl) (fun _ _ _ h => h) (by assumption) (Or.inl ⟨by rfl, ?_⟩) ?_
      rotate_left
      · (intro w hSw; (try dsimp only at hSw); obtain ⟨s0, s1⟩ := hSw; go_simp; try with_reducible rfl)
      simp only [List.getElem_toArray, List.getElem_cons_succ, List.getElem_cons_zero, Act.put, List.setIfInBounds_toArray, List.set_cons_zero, List.set_cons_succ]
      refine wpAnyP_take 13 [] (v := ?_) rfl (by kernel_rfl) (fun _ _ _ h => h) (by assumption) (Or.inl ⟨by rfl, ?_⟩) ?_
      rotate_left
      · (intro w hSw; (try dsimp only at hSw); obtain ⟨s0, s1⟩ := hSw; go_simp; try with_reducible rfl)
      simp only [List.getElem_toArray, List.getElem_cons_succ, List.getElem_cons_zero, Act.put, List.setIfInBounds_toArray, List.set_cons_zero, List.set_cons_succ]
      refine wpAnyP_one 14 rfl (by kernel_rfl) (fun K hK => ?_)
      rw [if_pos (by rfl)]
      go_wp2_with (fail)
      refine hold_with (by (try dsimp only at hSw); exact hSw) (fun hSn => ?_)
      clear hSw; have hSw := hSn; clear hSn
      refine wpAnyP_one 15 rfl (by kernel_rfl) (fun K hK => ?_)
      rw [if_pos (by rfl)]
      go_wp2_with (fail)
      refine ⟨fun hz => (by simp at hz), ?_⟩
      refine wpAnyP_done (by kernel_rfl) ?_ _
      skip
      clear hSw z10 m0' m1' m2' m3' m4' m5' m6' m7' m8' CT
      have hP3d := HP3.out.keep (Chg.refl [] w3).drew
      obtain ⟨E4, hE4⟩ : ∃ E4, E4 = (((Pc.e 0).ticked Pc.now).1.tells Pc.now).1 := ⟨_, rfl⟩
      obtain ⟨ts, hts⟩ : ∃ ts, ts = (((Pc.e 0).ticked Pc.now).1.tells Pc.now).2 := ⟨_, rfl⟩
      rw [← hts] at HT
      rw [← hE4] at hP3d
      obtain ⟨ta, tc, hto⟩ := HT.out.slice
      subst hto
      obtain ⟨va, vc, hvv⟩ := (hP3d.way 0 (by decide)).slice
      simp only at hvv
      have hwayl : (Pc.way 0).length ≤ 50000 := by rw [HPE.out.2.2.2.2]; exact (OK.out.way 0 (by decide)).1
      have htsl : ts.length ≤ 17 := by
        rw [hts, HPE.out.1]
        exact tells_len ((OK.out.e 0 (by decide)).1) (OK.out.e 0 (by decide)).2 _
      have hrowT : RowT (Bytes w3.drew) w3.drew B (wv1 0) (Pc.way 0) := hP3d.way 0 (by decide)
      obtain ⟨v4, w4, happ, hr4, hc4, hob4⟩ := rowT_app hrowT (HT.out.keep (Chg.refl [] w3).drew) (Nat.le_trans hB1s hs3) (by omega)
      have hP5 := hP3d.way_to (f := 0) (by decide) hc4 hr4 hob4
      have hbl4 := hc4.below (Nat.le_trans hB1s hs3) (hP3d.low.2 0 (by decide))
      have hbl5 : Below B w4 (w4.setCell ⟨pp, 2, none⟩ v4) := ((Chg.refl [pp] w4).set (by simp) _).below (Nat.le_trans (Nat.le_trans hB1s hs3) hc4.size) (by intro b hb; simp at hb; subst hb; exact hP3d.hp)
      have hst4 := hP3d.str.chg hc4 (fun hm => (hrowT.isT (by simpa using hm)).ne hP3d.str.isT (by decide) rfl)
      have hrow5 : RowS (Bytes (w4.setCell ⟨pp, 2, none⟩ v4)) (w4.setCell ⟨pp, 2, none⟩ v4) w1.drew.heap.size o1 (says 1 lo0 m0) := by
        have h3 : RowS (Bytes w3.drew) w3.drew w1.drew.heap.size o1 (says 1 lo0 m0) := by
          rw [← HDS.out]; exact HROW.out.chg (Chg.refl [] w3).drew (by simp) (fun u d hd => hd.chg (Chg.refl [] w3).drew (by simp))
        have ht : ∀ b ∈ (wv1 0).ownBlock.toList, IsT w3.drew b 138 := fun b hb => hrowT.isT (by simpa using hb)
        have h4 : RowS (Bytes w4) w4 w1.drew.heap.size o1 (says 1 lo0 m0) := h3.chg hc4 (fun b hb e => (h3.isT e).ne (ht b hb) (by decide) rfl) (fun u d hd => hd.chg hc4 (fun b hb => (ht b hb).noB (by decide)))
        exact h4.chg (F := [pp]) ((Chg.refl [pp] w4).set (by simp) _) (fun b hb e => by simp at hb; subst hb; exact (h4.isT e).ne hst4.isT (by decide) rfl) (fun u d hd => hd.chg (F := [pp]) ((Chg.refl [pp] w4).set (by simp) _) (by simpa using hst4.noB (by decide)))
      have CH := Lib.hid (hand_0 _ B pp _ q1 _ _ _ o1 lo0 m0 hP5 hrow5 (by show Pc.got 0 ≤ lo0; rw [HPE.out.2.2.1]; exact H0.out.2.1) (by show lo0 + m0 ≤ Pc.sent 1; rw [HPE.out.2.2.2.1]; exact H0.out.2.2) (by show Pc.sent 1 ≤ 10000; rw [HPE.out.2.2.2.1]; exact OK.out.sent 1 (by decide)))
      have hcell3 : w3.drew.cell? ⟨pp, 2, none⟩ = some (.slice va (Pc.way 0).length vc) := by
        have h := hP3d.str.cell 2
        rw [h]
        show some (wv1 0) = _
        rw [hvv]
      have hcell4 : w4.cell? ⟨pp, 2, none⟩ = some (.slice va (Pc.way 0).length vc) := by
        have h := hst4.cell 2
        rw [h]
        show some (wv1 0) = _
        rw [hvv]
      have hfr4 : w4.frozen? ⟨pp, 2, none⟩ = false := hst4.frozen _
      obtain ⟨va4, vc4, hv4⟩ := hr4.slice
      obtain ⟨n4, hn4⟩ : ∃ n4, n4 = (Pc.way 0 ++ ts).length := ⟨_, rfl⟩
      rw [← hn4] at hv4
      subst hv4
      rw [hvv] at happ
      obtain ⟨s5, hs5⟩ : ∃ s5, s5 = w4.setCell ⟨pp, 2, none⟩ (.slice va4 n4 vc4) := ⟨_, rfl⟩
      have HS5 := Lib.hid hs5
      rw [← hs5] at CH hbl5
      have HAP := Lib.hid happ
      have HBL4 := Lib.hid hbl4
      have HBL5 := Lib.hid hbl5
      have HB5 : Hid (B ≤ s5.heap.size) := Lib.hid (by rw [hs5]; simp [World.setCell]; exact Nat.le_trans (Nat.le_trans hB1s hs3) hc4.size)
      have HPP := Lib.hid hP3d.hp
      have HTS := Lib.hid (And.intro hE4 hts)
      clear hP3d hvv hwayl htsl hrowT happ hr4 hc4 hob4 hP5 hbl4 hbl5 hst4 hrow5 hs5 hn4 hE4 hts
      go_upto_region 21 with (fail)
      refine wp_region_phase 13 (fun w' => w'.cell? ⟨pp, 2, none⟩ = some (.slice va (Pc.way 0).length vc)) (by kernel_rfl) ?_
      refine wpAnyP_with (by exact hcell3) (fun hSw => ?_)
      refine wpAnyP_take 0 [] (v := ?_) rfl (by kernel_rfl) (fun _ _ _ h => h) (by assumption) (Or.inl ⟨by rfl, ?_⟩) ?_
      rotate_left
      · (intro w hSw; (try dsimp only at hSw); go_simp; try with_reducible rfl)
      simp only [List.getElem_toArray, List.getElem_cons_succ, List.getElem_cons_zero, Act.put, List.setIfInBounds_toArray, List.set_cons_zero, List.set_cons_succ]
      refine wpAnyP_take 1 [] (v := ?_) rfl (by kernel_rfl) (fun _ _ _ h => h) (by assumption) (Or.inl ⟨by rfl, ?_⟩) ?_
      rotate_left
      · (intro w hSw; (try dsimp only at hSw); go_simp; try with_reducible rfl)
      simp only [List.getElem_toArray, List.getElem_cons_succ, List.getElem_cons_zero, Act.put, List.setIfInBounds_toArray, List.set_cons_zero, List.set_cons_succ]
      refine wpAnyP_take 2 [] (v := ?_) rfl (by kernel_rfl) (fun _ _ _ h => h) (by assumption) (Or.inl ⟨by rfl, ?_⟩) ?_
      rotate_left
      · (intro w hSw; (try dsimp only at hSw); go_simp; try with_reducible rfl)
      simp only [List.getElem_toArray, List.getElem_cons_succ, List.getElem_cons_zero, Act.put, List.setIfInBounds_toArray, List.set_cons_zero, List.set_cons_succ]
      refine wpAnyP_take 3 [] (v := ?_) rfl (by kernel_rfl) (fun _ _ _ h => h) (by assumption) (Or.inl ⟨by rfl, ?_⟩) ?_
      rotate_left
      · (intro w hSw; (try dsimp only at hSw); go_simp; try with_reducible rfl)
      simp only [List.getElem_toArray, List.getElem_cons_succ, List.getElem_cons_zero, Act.put, List.setIfInBounds_toArray, List.set_cons_zero, List.set_cons_succ]
      refine wpAnyP_take 4 [] (v := ?_) rfl (by kernel_rfl) (fun _ _ _ h => h) (by assumption) (Or.inl ⟨by rfl, ?_⟩) ?_
      rotate_left
      · (intro w hSw; (try dsimp only at hSw); go_simp; try with_reducible rfl)
      simp only [List.getElem_toArray, List.getElem_cons_succ, List.getElem_cons_zero, Act.put, List.setIfInBounds_toArray, List.set_cons_zero, List.set_cons_succ]
      refine wpAnyP_take 5 [] (v := ?_) rfl (by kernel_rfl) (fun _ _ _ h => h) (by assumption) (Or.inl ⟨by rfl, ?_⟩) ?_
      rotate_left
      · (intro w hSw; (try dsimp only at hSw); go_simp; try with_reducible rfl)
      simp only [List.getElem_toArray, List.getElem_cons_succ, List.getElem_cons_zero, Act.put, List.setIfInBounds_toArray, List.set_cons_zero, List.set_cons_succ]
      refine wpAnyP_take 6 [] (v := ?_) rfl (by kernel_rfl) (fun _ _ _ h => h) (by assumption) (Or.inl ⟨by rfl, ?_⟩) ?_
      rotate_left
      · (intro w hSw; (try dsimp only at hSw); go_simp; try with_reducible rfl)
      simp only [List.getElem_toArray, List.getElem_cons_succ, List.getElem_cons_zero, Act.put, List.setIfInBounds_toArray, List.set_cons_zero, List.set_cons_succ]
      refine wpAnyP_take 7 [] (v := ?_) rfl (by kernel_rfl) (fun _ _ _ h => h) (by assumption) (Or.inl ⟨by rfl, ?_⟩) ?_
      rotate_left
      · (intro w hSw; (try dsimp only at hSw); go_simp; try with_reducible rfl)
      simp only [List.getElem_toArray, List.getElem_cons_succ, List.getElem_cons_zero, Act.put, List.setIfInBounds_toArray, List.set_cons_zero, List.set_cons_succ]
      refine wpAnyP_take 8 [] (v := ?_) rfl (by kernel_rfl) (fun _ _ _ h => h) (by assumption) (Or.inl ⟨by rfl, ?_⟩) ?_
      rotate_left
      · (intro w hSw; (try dsimp only at hSw); go_simp; try with_reducible rfl)
      simp only [List.getElem_toArray, List.getElem_cons_succ, List.getElem_cons_zero, Act.put, List.setIfInBounds_toArray, List.set_cons_zero, List.set_cons_succ]
      refine wpAnyP_take 10 [12, 11] (v := ?_) rfl (by kernel_rfl) (fun _ _ _ h => h) (by assumption) (Or.inl ⟨by rfl, ?_⟩) ?_
      rotate_left
      · (intro w hSw; (try dsimp only at hSw); go_simp; try with_reducible rfl)
      simp only [List.getElem_toArray, List.getElem_cons_succ, List.getElem_cons_zero, Act.put, List.setIfInBounds_toArray, List.set_cons_zero, List.set_cons_succ]
      refine wpAnyP_take 11 [12] (v := ?_) rfl (by kernel_rfl) (fun _ _ _ h => h) (by assumption) (Or.inl ⟨by rfl, ?_⟩) ?_
      rotate_left
      · (intro w hSw; (try dsimp only at hSw); go_simp; try with_reducible rfl)
      simp only [List.getElem_toArray, List.getElem_cons_succ, List.getElem_cons_zero, Act.put, List.setIfInBounds_toArray, List.set_cons_zero, List.set_cons_succ]
      refine wpAnyP_one 9 rfl (by kernel_rfl) (fun K hK => ?_)
      rw [if_pos (by rfl)]
      simp only [List.getElem_toArray, List.getElem_cons_succ, List.getElem_cons_zero, Act.put, List.setIfInBounds_toArray, List.set_cons_zero, List.set_cons_succ]
      (refine wp_app_eq _ _ 78 rfl rfl rfl HAP.out ?_; go_wp2_with (fail))
      refine hold_with (by (try dsimp only at hSw); exact hcell4) (fun hSn => ?_)
      clear hSw; have hSw := hSn; clear hSn
      refine wpAnyP_take 12 [] (v := ?_) rfl (by kernel_rfl) (fun _ _ _ h => h) (by assumption) (Or.inl ⟨by rfl, ?_⟩) ?_
      rotate_left
      · (intro w hSw; (try dsimp only at hSw); go_simp; try with_reducible rfl)
      simp only [List.getElem_toArray, List.getElem_cons_succ, List.getElem_cons_zero, Act.put, List.setIfInBounds_toArray, List.set_cons_zero, List.set_cons_succ]
      refine wpAnyP_one 13 rfl (by kernel_rfl) (fun K hK => ?_)
      rw [if_pos (by rfl)]
      go_wp2_with (fail)
      refine ⟨fun hz => (by simp at hz), ?_⟩
      refine wpAnyP_done (by kernel_rfl) ?_ _
      skip
      clear hSw hcell3 hcell4 hfr4 HAP
      rw [← HS5.out]
      go_wp2_with fail
      refine CH.out.mono ?_
      rintro e w6 ⟨rfl, hP6, hc6⟩
      have hbl6 := hc6.below HB5.out (by intro b hb; simp at hb; subst hb; exact HPP.out)
      have hnew : (∃ q F wv, PairAt w6 B pp q F wv (P.later.tickG 0 lo0 m0)) ∧ Below B w w6 := by
        refine ⟨?_, ((((HBL.out.trans ((Chg.refl [] w1).drew.below hB1s (by simp))).trans HBL3.out).trans ((Chg.refl [] w3).drew.below (Nat.le_trans hB1s hs3) (by simp))).trans (HBL4.out.trans HBL5.out)).trans hbl6⟩
        rw [← HPC.out]
        unfold Pair.tickG
        rw [← HTS.out.1, ← HTS.out.2]
        exact ⟨_, _, _, hP6⟩
      have HF := Lib.hid hnew
      clear hP6 hc6 hbl6 hnew CH
      go_wp2_with fail
      go_roundg 1
      case measure => omega
      case rel => exact ⟨1, by decide, by decide, rfl, HF.out⟩
    · -- end 1 ticks
      obtain ⟨q1, F1, wv1, hP1⟩ := hex
      obtain ⟨w1, hw1⟩ : ∃ z, z = wr := ⟨_, rfl⟩
      subst hw1
      obtain ⟨Pc, hPc⟩ : ∃ Pc, Pc = (P.later.tickG 0 lo0 m0) := ⟨_, rfl⟩
      have hP1' : PairAt w1 B pp q1 F1 wv1 Pc := by rw [hPc]; exact hP1
      have hpe : Pc.e 1 = P.e 1 ∧ Pc.now = P.now + 1 ∧ Pc.got 1 = P.got 1 ∧ Pc.sent = P.sent ∧ Pc.way 1 = P.way 1 := by rw [hPc]; exact ⟨rfl, rfl, rfl, rfl, rfl⟩
      have hB1s : B ≤ w1.heap.size := by have := hP1'.str.lt; have := hP1'.hp; omega
      have hPd := hP1'.keep (Chg.refl [] w1).drew
      have CT := Lib.hid (tick_end w1.drew B (q1 1) (F1 1) (Pc.e 1) (Pc.now : Int) (hPd.e 1 (by decide)) (by rw [hpe.1]; exact (OK.out.e 1 (by decide)).1) hB1s (by omega) (by have := OK.out.now; rw [hpe.2.1]; omega) (by rw [hpe.1]; have := (OK.out.e 1 (by decide)).2; omega))
      obtain ⟨m0', m1', m2', m3', m4', m5', m6', m7', m8'⟩ := hPd.str.nine
      have hds : ((Pc.e 1).ticked Pc.now).2.map (·.2) = says 0 lo1 m1 := by rw [hpe.1, hpe.2.1]; exact H1.out.1
      have HDS := Lib.hid hds
      have HPD := Lib.hid hPd
      have HBL := Lib.hid hbl
      have HPE := Lib.hid hpe
      have HPC := Lib.hid hPc
      clear hP1 hP1' hPd hbl hpe hds hPc
      go_upto_region 20 with (fail)
      refine wp_region_phase 15 (fun w' => w'.cell? ⟨pp, 1, none⟩ = some (.pointer (some ⟨q1 1, 0, none⟩)) ∧ w'.cell? ⟨pp, 8, none⟩ = some (.int .i64 Pc.now)) (by kernel_rfl) ?_
      refine wpAnyP_with (by exact ⟨m1', m8'⟩) (fun hSw => ?_)
      refine wpAnyP_take 0 [] (v := ?_) rfl (by kernel_rfl) (fun _ _ _ h => h) (by assumption) (Or.inl ⟨by rfl, ?_⟩) ?_
      rotate_left
      · (intro w hSw; (try dsimp only at hSw); obtain ⟨s0, s1⟩ := hSw; go_simp; try with_reducible rfl)
      simp only [List.getElem_toArray, List.getElem_cons_succ, List.getElem_cons_zero, Act.put, List.setIfInBounds_toArray, List.set_cons_zero, List.set_cons_succ]
      refine wpAnyP_take 1 [] (v := ?_) rfl (by kernel_rfl) (fun _ _ _ h => h) (by assumption) (Or.inl ⟨by rfl, ?_⟩) ?_
      rotate_left
      · (intro w hSw; (try dsimp only at hSw); obtain ⟨s0, s1⟩ := hSw; go_simp; try with_reducible rfl)
      simp only [List.getElem_toArray, List.getElem_cons_succ, List.getElem_cons_zero, Act.put, List.setIfInBounds_toArray, List.set_cons_zero, List.set_cons_succ]
      refine wpAnyP_take 2 [] (v := ?_) rfl (by kernel_rfl) (fun _ _ _ h => h) (by assumption) (Or.inl ⟨by rfl, ?_⟩) ?_
      rotate_left
      · (intro w hSw; (try dsimp only at hSw); obtain ⟨s0, s1⟩ := hSw; go_simp; try with_reducible rfl)
      simp only [List.getElem_toArray, List.getElem_cons_succ, List.getElem_cons_zero, Act.put, List.setIfInBounds_toArray, List.set_cons_zero, List.set_cons_succ]
      refine wpAnyP_take 3 [] (v := ?_) rfl (by kernel_rfl) (fun _ _ _ h => h) (by assumption) (Or.inl ⟨by rfl, ?_⟩) ?_
      rotate_left
      · (intro w hSw; (try dsimp only at hSw); obtain ⟨s0, s1⟩ := hSw; go_simp; try with_reducible rfl)
      simp only [List.getElem_toArray, List.getElem_cons_succ, List.getElem_cons_zero, Act.put, List.setIfInBounds_toArray, List.set_cons_zero, List.set_cons_succ]
      refine wpAnyP_take 4 [] (v := ?_) rfl (by kernel_rfl) (fun _ _ _ h => h) (by assumption) (Or.inl ⟨by rfl, ?_⟩) ?_
      rotate_left
      · (intro w hSw; (try dsimp only at hSw); obtain ⟨s0, s1⟩ := hSw; go_simp; try with_reducible rfl)
      simp only [List.getElem_toArray, List.getElem_cons_succ, List.getElem_cons_zero, Act.put, List.setIfInBounds_toArray, List.set_cons_zero, List.set_cons_succ]
      refine wpAnyP_take 5 [] (v := ?_) rfl (by kernel_rfl) (fun _ _ _ h => h) (by assumption) (Or.inl ⟨by rfl, ?_⟩) ?_
      rotate_left
      · (intro w hSw; (try dsimp only at hSw); obtain ⟨s0, s1⟩ := hSw; go_simp; try with_reducible rfl)
      simp only [List.getElem_toArray, List.getElem_cons_succ, List.getElem_cons_zero, Act.put, List.setIfInBounds_toArray, List.set_cons_zero, List.set_cons_succ]
      refine wpAnyP_take 6 [] (v := ?_) rfl (by kernel_rfl) (fun _ _ _ h => h) (by assumption) (Or.inl ⟨by rfl, ?_⟩) ?_
      rotate_left
      · (intro w hSw; (try dsimp only at hSw); obtain ⟨s0, s1⟩ := hSw; go_simp; try with_reducible rfl)
      simp only [List.getElem_toArray, List.getElem_cons_succ, List.getElem_cons_zero, Act.put, List.setIfInBounds_toArray, List.set_cons_zero, List.set_cons_succ]
      refine wpAnyP_take 7 [] (v := ?_) rfl (by kernel_rfl) (fun _ _ _ h => h) (by assumption) (Or.inl ⟨by rfl, ?_⟩) ?_
      rotate_left
      · (intro w hSw; (try dsimp only at hSw); obtain ⟨s0, s1⟩ := hSw; go_simp; try with_reducible rfl)
      simp only [List.getElem_toArray, List.getElem_cons_succ, List.getElem_cons_zero, Act.put, List.setIfInBounds_toArray, List.set_cons_zero, List.set_cons_succ]
      refine wpAnyP_take 8 [] (v := ?_) rfl (by kernel_rfl) (fun _ _ _ h => h) (by assumption) (Or.inl ⟨by rfl, ?_⟩) ?_
      rotate_left
      · (intro w hSw; (try dsimp only at hSw); obtain ⟨s0, s1⟩ := hSw; go_simp; try with_reducible rfl)
      simp only [List.getElem_toArray, List.getElem_cons_succ, List.getElem_cons_zero, Act.put, List.setIfInBounds_toArray, List.set_cons_zero, List.set_cons_succ]
      refine wpAnyP_take 9 [] (v := ?_) rfl (by kernel_rfl) (fun _ _ _ h => h) (by assumption) (Or.inl ⟨by rfl, ?_⟩) ?_
      rotate_left
      · (intro w hSw; (try dsimp only at hSw); obtain ⟨s0, s1⟩ := hSw; go_simp; try with_reducible rfl)
      simp only [List.getElem_toArray, List.getElem_cons_succ, List.getElem_cons_zero, Act.put, List.setIfInBounds_toArray, List.set_cons_zero, List.set_cons_succ]
      refine wpAnyP_one 10 rfl (by kernel_rfl) (fun K hK => ?_)
      rw [if_pos (by rfl)]
      go_wp2_with ((refine CT.out.mono ?_; rintro e w3 ⟨o1, o2, rfl, hrow, hT, hd12, ho1, hmv⟩; obtain ⟨F3, hP3, hc3⟩ := HPD.out.end_to (t := 1) (by decide) hmv; have hbl3 := hc3.below hB1s (HPD.out.low.1 1 (by decide)); have z10 : w3.cell? ⟨pp, 1, none⟩ = some (.pointer (some ⟨q1 1, 0, none⟩)) ∧ w3.cell? ⟨pp, 8, none⟩ = some (.int .i64 Pc.now) := ⟨hP3.str.cell 1, hP3.str.cell 8⟩; have HP3 := Lib.hid hP3; have HT := Lib.hid hT; have HROW := Lib.hid hrow; have HBL3 := Lib.hid hbl3; have hs3 := hc3.size; clear hrow hT hd12 ho1 hmv hP3 hc3 hbl3))
      refine hold_with (by (try dsimp only at hSw); exact z10) (fun hSn => ?_)
      clear hSw; have hSw := hSn; clear hSn
      refine wpAnyP_take 11 [] (v := ?_) rfl (by kernel_rfl) (fun _ _ _ h => h) (by assumption) (Or.inl ⟨by rfl, ?_⟩) ?_
      rotate_left
      · (intro w hSw; (try dsimp only at hSw); obtain ⟨s0, s1⟩ := hSw; go_simp; try with_reducible rfl)
      simp only [List.getElem_toArray, List.getElem_cons_succ, List.getElem_cons_zero, Act.put, List.setIfInBounds_toArray, List.set_cons_zero, List.set_cons_succ]
      refine wpAnyP_take 12 [] (v := ?_) rfl (by kernel_rfl) (fun _ _ _ h => h) (by assumption) (Or.inl ⟨by rfl, ?_⟩) ?_
      rotate_left
      · (intro w hSw; (try dsimp only at hSw); obtain ⟨s0, s1⟩ := hSw; go_simp; try with_reducible rfl)
      simp only [List.getElem_toArray, List.getElem_cons_succ, List.getElem_cons_zero, Act.put, List.setIfInBounds_toArray, List.set_cons_zero, List.set_cons_succ]
      refine wpAnyP_take 13 [] (v := ?_) rfl (by kernel_rfl) (fun _ _ _ h => h) (by assumption) (Or.inl ⟨by rfl, ?_⟩) ?_
      rotate_left
      · (intro w hSw; (try dsimp only at hSw); obtain ⟨s0, s1⟩ := hSw; go_simp; try with_reducible rfl)
      simp only [List.getElem_toArray, List.getElem_cons_succ, List.getElem_cons_zero, Act.put, List.setIfInBounds_toArray, List.set_cons_zero, List.set_cons_succ]
      refine wpAnyP_one 14 rfl (by kernel_rfl) (fun K hK => ?_)
      rw [if_pos (by rfl)]
      go_wp2_with (fail)
      refine hold_with (by (try dsimp only at hSw); exact hSw) (fun hSn => ?_)
      clear hSw; have hSw := hSn; clear hSn
      refine wpAnyP_one 15 rfl (by kernel_rfl) (fun K hK => ?_)
      rw [if_pos (by rfl)]
      go_wp2_with (fail)
      refine ⟨fun hz => (by simp at hz), ?_⟩
      refine wpAnyP_done (by kernel_rfl) ?_ _
      skip
      clear hSw z10 m0' m1' m2' m3' m4' m5' m6' m7' m8' CT
      have hP3d := HP3.out.keep (Chg.refl [] w3).drew
      obtain ⟨E4, hE4⟩ : ∃ E4, E4 = (((Pc.e 1).ticked Pc.now).1.tells Pc.now).1 := ⟨_, rfl⟩
      obtain ⟨ts, hts⟩ : ∃ ts, ts = (((Pc.e 1).ticked Pc.now).1.tells Pc.now).2 := ⟨_, rfl⟩
      rw [← hts] at HT
      rw [← hE4] at hP3d
      obtain ⟨ta, tc, hto⟩ := HT.out.slice
      subst hto
      obtain ⟨va, vc, hvv⟩ := (hP3d.way 1 (by decide)).slice
      simp only at hvv
      have hwayl : (Pc.way 1).length ≤ 50000 := by rw [HPE.out.2.2.2.2]; exact (OK.out.way 1 (by decide)).1
      have htsl : ts.length ≤ 17 := by
        rw [hts, HPE.out.1]
        exact tells_len ((OK.out.e 1 (by decide)).1) (OK.out.e 1 (by decide)).2 _
      have hrowT : RowT (Bytes w3.drew) w3.drew B (wv1 1) (Pc.way 1) := hP3d.way 1 (by decide)
      obtain ⟨v4, w4, happ, hr4, hc4, hob4⟩ := rowT_app hrowT (HT.out.keep (Chg.refl [] w3).drew) (Nat.le_trans hB1s hs3) (by omega)
      have hP5 := hP3d.way_to (f := 1) (by decide) hc4 hr4 hob4
      have hbl4 := hc4.below (Nat.le_trans hB1s hs3) (hP3d.low.2 1 (by decide))
      have hbl5 : Below B w4 (w4.setCell ⟨pp, 3, none⟩ v4) := ((Chg.refl [pp] w4).set (by simp) _).below (Nat.le_trans (Nat.le_trans hB1s hs3) hc4.size) (by intro b hb; simp at hb; subst hb; exact hP3d.hp)
      have hst4 := hP3d.str.chg hc4 (fun hm => (hrowT.isT (by simpa using hm)).ne hP3d.str.isT (by decide) rfl)
      have hrow5 : RowS (Bytes (w4.setCell ⟨pp, 3, none⟩ v4)) (w4.setCell ⟨pp, 3, none⟩ v4) w1.drew.heap.size o1 (says 0 lo1 m1) := by
        have h3 : RowS (Bytes w3.drew) w3.drew w1.drew.heap.size o1 (says 0 lo1 m1) := by
          rw [← HDS.out]; exact HROW.out.chg (Chg.refl [] w3).drew (by simp) (fun u d hd => hd.chg (Chg.refl [] w3).drew (by simp))
        have ht : ∀ b ∈ (wv1 1).ownBlock.toList, IsT w3.drew b 138 := fun b hb => hrowT.isT (by simpa using hb)
        have h4 : RowS (Bytes w4) w4 w1.drew.heap.size o1 (says 0 lo1 m1) := h3.chg hc4 (fun b hb e => (h3.isT e).ne (ht b hb) (by decide) rfl) (fun u d hd => hd.chg hc4 (fun b hb => (ht b hb).noB (by decide)))
        exact h4.chg (F := [pp]) ((Chg.refl [pp] w4).set (by simp) _) (fun b hb e => by simp at hb; subst hb; exact (h4.isT e).ne hst4.isT (by decide) rfl) (fun u d hd => hd.chg (F := [pp]) ((Chg.refl [pp] w4).set (by simp) _) (by simpa using hst4.noB (by decide)))
      have CH := Lib.hid (hand_1 _ B pp _ q1 _ _ _ o1 lo1 m1 hP5 hrow5 (by show Pc.got 1 ≤ lo1; rw [HPE.out.2.2.1]; exact H1.out.2.1) (by show lo1 + m1 ≤ Pc.sent 0; rw [HPE.out.2.2.2.1]; exact H1.out.2.2) (by show Pc.sent 0 ≤ 10000; rw [HPE.out.2.2.2.1]; exact OK.out.sent 0 (by decide)))
      have hcell3 : w3.drew.cell? ⟨pp, 3, none⟩ = some (.slice va (Pc.way 1).length vc) := by
        have h := hP3d.str.cell 3
        rw [h]
        show some (wv1 1) = _
        rw [hvv]
      have hcell4 : w4.cell? ⟨pp, 3, none⟩ = some (.slice va (Pc.way 1).length vc) := by
        have h := hst4.cell 3
        rw [h]
        show some (wv1 1) = _
        rw [hvv]
      have hfr4 : w4.frozen? ⟨pp, 3, none⟩ = false := hst4.frozen _
      obtain ⟨va4, vc4, hv4⟩ := hr4.slice
      obtain ⟨n4, hn4⟩ : ∃ n4, n4 = (Pc.way 1 ++ ts).length := ⟨_, rfl⟩
      rw [← hn4] at hv4
      subst hv4
      rw [hvv] at happ
      obtain ⟨s5, hs5⟩ : ∃ s5, s5 = w4.setCell ⟨pp, 3, none⟩ (.slice va4 n4 vc4) := ⟨_, rfl⟩
      have HS5 := Lib.hid hs5
      rw [← hs5] at CH hbl5
      have HAP := Lib.hid happ
      have HBL4 := Lib.hid hbl4
      have HBL5 := Lib.hid hbl5
      have HB5 : Hid (B ≤ s5.heap.size) := Lib.hid (by rw [hs5]; simp [World.setCell]; exact Nat.le_trans (Nat.le_trans hB1s hs3) hc4.size)
      have HPP := Lib.hid hP3d.hp
      have HTS := Lib.hid (And.intro hE4 hts)
      clear hP3d hvv hwayl htsl hrowT happ hr4 hc4 hob4 hP5 hbl4 hbl5 hst4 hrow5 hs5 hn4 hE4 hts
      go_upto_region 21 with (fail)
      refine wp_region_phase 13 (fun w' => w'.cell? ⟨pp, 3, none⟩ = some (.slice va (Pc.way 1).length vc)) (by kernel_rfl) ?_
      refine wpAnyP_with (by exact hcell3) (fun hSw => ?_)
      refine wpAnyP_take 0 [] (v := ?_) rfl (by kernel_rfl) (fun _ _ _ h => h) (by assumption) (Or.inl ⟨by rfl, ?_⟩) ?_
      rotate_left
      · (intro w hSw; (try dsimp only at hSw); go_simp; try with_reducible rfl)
      simp only [List.getElem_toArray, List.getElem_cons_succ, List.getElem_cons_zero, Act.put, List.setIfInBounds_toArray, List.set_cons_zero, List.set_cons_succ]
      refine wpAnyP_take 1 [] (v := ?_) rfl (by kernel_rfl) (fun _ _ _ h => h) (by assumption) (Or.inl ⟨by rfl, ?_⟩) ?_
      rotate_left
      · (intro w hSw; (try dsimp only at hSw); go_simp; try with_reducible rfl)
      simp only [List.getElem_toArray, List.getElem_cons_succ, List.getElem_cons_zero, Act.put, List.setIfInBounds_toArray, List.set_cons_zero, List.set_cons_succ]
      refine wpAnyP_take 2 [] (v := ?_) rfl (by kernel_rfl) (fun _ _ _ h => h) (by assumption) (Or.inl ⟨by rfl, ?_⟩) ?_
      rotate_left
      · (intro w hSw; (try dsimp only at hSw); go_simp; try with_reducible rfl)
      simp only [List.getElem_toArray, List.getElem_cons_succ, List.getElem_cons_zero, Act.put, List.setIfInBounds_toArray, List.set_cons_zero, List.set_cons_succ]
      refine wpAnyP_take 3 [] (v := ?_) rfl (by kernel_rfl) (fun _ _ _ h => h) (by assumption) (Or.inl ⟨by rfl, ?_⟩) ?_
      rotate_left
      · (intro w hSw; (try dsimp only at hSw); go_simp; try with_reducible rfl)
      simp only [List.getElem_toArray, List.getElem_cons_succ, List.getElem_cons_zero, Act.put, List.setIfInBounds_toArray, List.set_cons_zero, List.set_cons_succ]
      refine wpAnyP_take 4 [] (v := ?_) rfl (by kernel_rfl) (fun _ _ _ h => h) (by assumption) (Or.inl ⟨by rfl, ?_⟩) ?_
      rotate_left
      · (intro w hSw; (try dsimp only at hSw); go_simp; try with_reducible rfl)
      simp only [List.getElem_toArray, List.getElem_cons_succ, List.getElem_cons_zero, Act.put, List.setIfInBounds_toArray, List.set_cons_zero, List.set_cons_succ]
      refine wpAnyP_take 5 [] (v := ?_) rfl (by kernel_rfl) (fun _ _ _ h => h) (by assumption) (Or.inl ⟨by rfl, ?_⟩) ?_
      rotate_left
      · (intro w hSw; (try dsimp only at hSw); go_simp; try with_reducible rfl)
      simp only [List.getElem_toArray, List.getElem_cons_succ, List.getElem_cons_zero, Act.put, List.setIfInBounds_toArray, List.set_cons_zero, List.set_cons_succ]
      refine wpAnyP_take 6 [] (v := ?_) rfl (by kernel_rfl) (fun _ _ _ h => h) (by assumption) (Or.inl ⟨by rfl, ?_⟩) ?_
      rotate_left
      · (intro w hSw; (try dsimp only at hSw); go_simp; try with_reducible rfl)
      simp only [List.getElem_toArray, List.getElem_cons_succ, List.getElem_cons_zero, Act.put, List.setIfInBounds_toArray, List.set_cons_zero, List.set_cons_succ]
      refine wpAnyP_take 7 [] (v := ?_) rfl (by kernel_rfl) (fun _ _ _ h => h) (by assumption) (Or.inl ⟨by rfl, ?_⟩) ?_
      rotate_left
      · (intro w hSw; (try dsimp only at hSw); go_simp; try with_reducible rfl)
      simp only [List.getElem_toArray, List.getElem_cons_succ, List.getElem_cons_zero, Act.put, List.setIfInBounds_toArray, List.set_cons_zero, List.set_cons_succ]
      refine wpAnyP_take 8 [] (v := ?_) rfl (by kernel_rfl) (fun _ _ _ h => h) (by assumption) (Or.inl ⟨by rfl, ?_⟩) ?_
      rotate_left
      · (intro w hSw; (try dsimp only at hSw); go_simp; try with_reducible rfl)
      simp only [List.getElem_toArray, List.getElem_cons_succ, List.getElem_cons_zero, Act.put, List.setIfInBounds_toArray, List.set_cons_zero, List.set_cons_succ]
      refine wpAnyP_take 10 [12, 11] (v := ?_) rfl (by kernel_rfl) (fun _ _ _ h => h) (by assumption) (Or.inl ⟨by rfl, ?_⟩) ?_
      rotate_left
      · (intro w hSw; (try dsimp only at hSw); go_simp; try with_reducible rfl)
      simp only [List.getElem_toArray, List.getElem_cons_succ, List.getElem_cons_zero, Act.put, List.setIfInBounds_toArray, List.set_cons_zero, List.set_cons_succ]
      refine wpAnyP_take 11 [12] (v := ?_) rfl (by kernel_rfl) (fun _ _ _ h => h) (by assumption) (Or.inl ⟨by rfl, ?_⟩) ?_
      rotate_left
      · (intro w hSw; (try dsimp only at hSw); go_simp; try with_reducible rfl)
      simp only [List.getElem_toArray, List.getElem_cons_succ, List.getElem_cons_zero, Act.put, List.setIfInBounds_toArray, List.set_cons_zero, List.set_cons_succ]
      refine wpAnyP_one 9 rfl (by kernel_rfl) (fun K hK => ?_)
      rw [if_pos (by rfl)]
      simp only [List.getElem_toArray, List.getElem_cons_succ, List.getElem_cons_zero, Act.put, List.setIfInBounds_toArray, List.set_cons_zero, List.set_cons_succ]
      (refine wp_app_eq _ _ 78 rfl rfl rfl HAP.out ?_; go_wp2_with (fail))
      refine hold_with (by (try dsimp only at hSw); exact hcell4) (fun hSn => ?_)
      clear hSw; have hSw := hSn; clear hSn
      refine wpAnyP_take 12 [] (v := ?_) rfl (by kernel_rfl) (fun _ _ _ h => h) (by assumption) (Or.inl ⟨by rfl, ?_⟩) ?_
      rotate_left
      · (intro w hSw; (try dsimp only at hSw); go_simp; try with_reducible rfl)
      simp only [List.getElem_toArray, List.getElem_cons_succ, List.getElem_cons_zero, Act.put, List.setIfInBounds_toArray, List.set_cons_zero, List.set_cons_succ]
      refine wpAnyP_one 13 rfl (by kernel_rfl) (fun K hK => ?_)
      rw [if_pos (by rfl)]
      go_wp2_with (fail)
      refine ⟨fun hz => (by simp at hz), ?_⟩
      refine wpAnyP_done (by kernel_rfl) ?_ _
      skip
      clear hSw hcell3 hcell4 hfr4 HAP
      rw [← HS5.out]
      go_wp2_with fail
      refine CH.out.mono ?_
      rintro e w6 ⟨rfl, hP6, hc6⟩
      have hbl6 := hc6.below HB5.out (by intro b hb; simp at hb; subst hb; exact HPP.out)
      have hnew : (∃ q F wv, PairAt w6 B pp q F wv ((P.later.tickG 0 lo0 m0).tickG 1 lo1 m1)) ∧ Below B w w6 := by
        refine ⟨?_, ((((HBL.out.trans ((Chg.refl [] w1).drew.below hB1s (by simp))).trans HBL3.out).trans ((Chg.refl [] w3).drew.below (Nat.le_trans hB1s hs3) (by simp))).trans (HBL4.out.trans HBL5.out)).trans hbl6⟩
        rw [← HPC.out]
        unfold Pair.tickG
        rw [← HTS.out.1, ← HTS.out.2]
        exact ⟨_, _, _, hP6⟩
      have HF := Lib.hid hnew
      clear hP6 hc6 hbl6 hnew CH
      go_wp2_with fail
      go_roundg 0
      case measure => omega
      case rel => exact ⟨2, by decide, by decide, rfl, HF.out⟩
    · have HF := Lib.hid (And.intro hex hbl)
      clear hex hbl
      go_wp2_with fail
      go_ret
      exact ⟨rfl, HF.out⟩
end Go.Proofs.Ytkmjpphmciaklaa
