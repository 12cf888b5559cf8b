/- The reference's end (catwalkref32): Take. -/
import Derived.Test.YtkmjpphmciaklaaJ26
namespace Go.Proofs.Ytkmjpphmciaklaa
open Go.RowKit
set_option linter.unusedVariables false
set_option linter.unusedSimpArgs false
attribute [local go_sem ↓] Go.wp_at_zero Go.wp_at_succ

def GivesRE (B q : Nat) (F : List Nat) (E' : End) (ds : List (List Int)) (ts : List (Tun (List Int))) (w : World) (e : Ending) (w' : World) : Prop :=
  ∃ o1 o2, e = .returned (.tuple #[o1, o2]) ∧ RowS (BytS (· < B) w') w' w.heap.size o1 ds ∧ RowT (BytS (· < B) w') w' w.heap.size o2 ts ∧ MovedRE B q F E' w w'
section
variable {w w' : World} {B q p rq : Nat} {vw va v : Value} {E : End}
/-- The receiver's part has been called. -/
theorem REAt.rcv_to (h : REAt w B q p vw va rq v E) {v' : Value} {a' : Rcv (List Int)} (hR : RefIs w' B rq v' a') (c : Chg (refF rq v) w w') : REAt w' B q p vw va rq v' { E with r := a' } := by
  have hk := h.rcv.kind'
  have hFB : ∀ b ∈ refF rq v, B ≤ b := fun b hb => (h.rcv.kind h.hr b hb).1
  refine ⟨h.str.chg c (fun hm => ?_), h.snd.chg c (fun b hb hm => ?_) hFB, hR, h.hq, h.hp, h.hr⟩
  · rcases hk q hm with k | k <;> exact h.str.isT.ne k (by decide) rfl
  · rcases hk b hb with k | k <;> rcases h.snd.kind b hm with k' | k' | k' <;> exact k.ne k' (by decide) rfl
theorem REAt.p_at (h : REAt w B q p vw va rq v E) : IsT w p 153 := by
  obtain ⟨l, h1, _⟩ := h.snd
  exact h1.str.isT
end
theorem OutR.chg' {F : List Nat} {w w' : World} {B base : Nat} {v : Value} {out : List (Int × List Int)} (h : OutR w B base v out) (c : Chg F w w') (hB : ∀ b ∈ F, B ≤ b) (hv : ∀ b ∈ F, v.ownBlock ≠ some b) : OutR w' B base v out := by
  obtain ⟨o, h1, h2⟩ := h
  exact ⟨o, h1.chg c hv, h2.mono fun _ _ hb => hb.kept c hB⟩
theorem OutR.lt {w : World} {B base : Nat} {v : Value} {out : List (Int × List Int)} (h : OutR w B base v out) : ∀ b, v.ownBlock = some b → base ≤ b ∧ b < w.heap.size := by
  obtain ⟨o, h1, h2⟩ := h
  exact h1.lt
theorem RowS.keptR {B base : Nat} {F : List Nat} {w w' : World} {v : Value} {P : List (List Int)} (h : RowS (BytS (· < B) w) w base v P) (c : Chg F w w') (hB : ∀ b ∈ F, B ≤ b) (hv : ∀ b ∈ F, v.ownBlock ≠ some b) : RowS (BytS (· < B) w') w' base v P :=
  h.chg c hv (fun u d hb => hb.kept c hB)

set_option maxRecDepth 100000 in
set_option maxHeartbeats 2000000 in
theorem re_take (w : World) (B q p : Nat) (vw va : Value) (rq : Nat) (v : Value) (E : End) (now : Int) (call : Int) (hs : Bool) (seq : Int) (ha : Bool) (ak : Int) (a : Option Addr) (c : Nat) (d : List Int) (h : REAt w B q p vw va rq v E) (ok : E.Ok) (hB : B ≤ w.heap.size) (hd : BytS (· < B) w (.slice a d.length c) d)
    (hn0 : 0 ≤ now) (hn1 : now ≤ 100000000) (hs0 : 0 ≤ seq) (hs1 : seq < 4294967296) (ha0 : 0 ≤ ak) (ha1 : ak < 4294967296) :
    Calls Try.prog 80 #[.pointer (some ⟨q, 0, none⟩), .int .i64 now, .agg #[.int .u16 call, .bool hs, .int .u32 seq, .bool ha, .int .u32 ak, .slice a d.length c]] w
      (GivesRE B q (reF q p vw va rq v) ((E.took now hs seq ha ak d).1.pumped now).1 ((E.took now hs seq ha ak d).2.map (·.2)) ((E.took now hs seq ha ak d).1.pumped now).2 w) := by
  have OK := Lib.hid ok
  clear ok
  go_enter Try.func80, Try.ntmps80
  go_upto_region 1 with (fail)
  obtain ⟨wx, hwx⟩ : ∃ wx, wx = w.alloc (.cells #[.int .u16 call, .bool hs, .int .u32 seq, .bool ha, .int .u32 ak, .slice a d.length c] 138) := ⟨_, rfl⟩
  have hcx : Chg [] w wx := by rw [hwx]; exact (Chg.refl _ _).alloc _
  have hX : At wx w.heap.size 138 [.int .u16 call, .bool hs, .int .u32 seq, .bool ha, .int .u32 ak, .slice a d.length c] := by rw [hwx]; exact At.new w 138 [_, _, _, _, _, _]
  obtain ⟨gb, hgb⟩ : ∃ gb, gb = w.heap.size := ⟨_, rfl⟩
  rw [← hgb] at hX
  rw [← hwx, ← hgb]
  have HE := Lib.hid (h.keep hcx)
  have HX := Lib.hid hX
  have HD := Lib.hid (hd.kept hcx (by simp))
  have HC := Lib.hid hcx
  have HBX := Lib.hid (Nat.le_trans hB hcx.size)
  obtain ⟨x0, x1, x2, x3, x4, x5, _⟩ := hX.six
  clear h hd hwx hcx hX hgb
  go_upto_if 10 with (fail)
  go_cut [] (fun wq => ∃ vw' va', REAt wq B q p vw' va' rq v { E with s := if ha then (E.s.ack now ak).1 else E.s } ∧ At wq gb 138 [.int .u16 call, .bool hs, .int .u32 seq, .bool ha, .int .u32 ak, .slice a d.length c] ∧ Chg [p] wx wq ∧ From vw' vw wx.heap.size ∧ From va' va wx.heap.size)
  case first =>
    cases ha with
    | false =>
      go_wp2_with fail
      go_meet
      exact ⟨vw, va, HE.out, HX.out, Chg.refl _ _, From.refl _ _, From.refl _ _⟩
    | true =>
      have CT := Lib.hid (rsi_ack wx.drew B p vw va E.s now ak (HE.out.keep (Chg.refl [] wx).drew).snd HE.out.hp OK.out.s (by omega) (by omega) ha0 ha1)
      have hq1 : wx.drew.cell? ⟨q, 1, none⟩ = some (.pointer (some ⟨p, 0, none⟩)) := HE.out.str.five.2.1
      have hx4 : wx.drew.cell? ⟨gb, 4, none⟩ = some (.int .u32 ak) := x4
      go_upto_region 2 with (fail)
      refine wp_region_phase 7 (fun w' => w'.cell? ⟨q, 1, none⟩ = some (.pointer (some ⟨p, 0, none⟩)) ∧ w'.cell? ⟨gb, 4, none⟩ = some (.int .u32 ak)) (by kernel_rfl) ?_
      refine wpAnyP_with (by exact ⟨hq1, hx4⟩) (fun hSw => ?_)
      refine wpAnyP_take 0 [3, 2, 1] (v := ?_) rfl (by kernel_rfl) (fun _ _ _ h => h) (by assumption) (Or.inl ⟨by rfl, ?_⟩) ?_
      rotate_left
      · (intro w hSw; (try dsimp only at hSw); obtain ⟨s0, s1⟩ := hSw; go_simp; try with_reducible rfl)
      simp only [List.getElem_toArray, List.getElem_cons_succ, List.getElem_cons_zero, Act.put, List.setIfInBounds_toArray, List.set_cons_zero, List.set_cons_succ]
      refine wpAnyP_take 1 [3, 2] (v := ?_) rfl (by kernel_rfl) (fun _ _ _ h => h) (by assumption) (Or.inl ⟨by rfl, ?_⟩) ?_
      rotate_left
      · (intro w hSw; (try dsimp only at hSw); obtain ⟨s0, s1⟩ := hSw; go_simp; try with_reducible rfl)
      simp only [List.getElem_toArray, List.getElem_cons_succ, List.getElem_cons_zero, Act.put, List.setIfInBounds_toArray, List.set_cons_zero, List.set_cons_succ]
      refine wpAnyP_take 2 [3] (v := ?_) rfl (by kernel_rfl) (fun _ _ _ h => h) (by assumption) (Or.inl ⟨by rfl, ?_⟩) ?_
      rotate_left
      · (intro w hSw; (try dsimp only at hSw); obtain ⟨s0, s1⟩ := hSw; go_simp; try with_reducible rfl)
      simp only [List.getElem_toArray, List.getElem_cons_succ, List.getElem_cons_zero, Act.put, List.setIfInBounds_toArray, List.set_cons_zero, List.set_cons_succ]
      refine wpAnyP_take 3 [] (v := ?_) rfl (by kernel_rfl) (fun _ _ _ h => h) (by assumption) (Or.inl ⟨by rfl, ?_⟩) ?_
      rotate_left
      · (intro w hSw; (try dsimp only at hSw); obtain ⟨s0, s1⟩ := hSw; go_simp; try with_reducible rfl)
      simp only [List.getElem_toArray, List.getElem_cons_succ, List.getElem_cons_zero, Act.put, List.setIfInBounds_toArray, List.set_cons_zero, List.set_cons_succ]
      refine wpAnyP_take 4 [] (v := ?_) rfl (by kernel_rfl) (fun _ _ _ h => h) (by assumption) (Or.inl ⟨by rfl, ?_⟩) ?_
      rotate_left
      · (intro w hSw; (try dsimp only at hSw); obtain ⟨s0, s1⟩ := hSw; go_simp; try with_reducible rfl)
      simp only [List.getElem_toArray, List.getElem_cons_succ, List.getElem_cons_zero, Act.put, List.setIfInBounds_toArray, List.set_cons_zero, List.set_cons_succ]
      refine wpAnyP_take 5 [6] (v := ?_) rfl (by kernel_rfl) (fun _ _ _ h => h) (by assumption) (Or.inl ⟨by rfl, ?_⟩) ?_
      rotate_left
      · (intro w hSw; (try dsimp only at hSw); obtain ⟨s0, s1⟩ := hSw; go_simp; try with_reducible rfl)
      simp only [List.getElem_toArray, List.getElem_cons_succ, List.getElem_cons_zero, Act.put, List.setIfInBounds_toArray, List.set_cons_zero, List.set_cons_succ]
      refine wpAnyP_take 6 [] (v := ?_) rfl (by kernel_rfl) (fun _ _ _ h => h) (by assumption) (Or.inl ⟨by rfl, ?_⟩) ?_
      rotate_left
      · (intro w hSw; (try dsimp only at hSw); obtain ⟨s0, s1⟩ := hSw; go_simp; try with_reducible rfl)
      simp only [List.getElem_toArray, List.getElem_cons_succ, List.getElem_cons_zero, Act.put, List.setIfInBounds_toArray, List.set_cons_zero, List.set_cons_succ]
      refine wpAnyP_one 7 rfl (by kernel_rfl) (fun K hK => ?_)
      rw [if_pos (by rfl)]
      go_wp2_with ((refine CT.out.mono ?_; rintro e w2 ⟨rfl, hP⟩; obtain ⟨vw', va', hE2, hc2, hw2, hv2⟩ := (HE.out.keep (Chg.refl [] wx).drew).snd_to hP; have hX2 := HX.out.drew.chg hc2 (by simp; exact fun e => HX.out.isT.ne HE.out.p_at (by decide) e); have HF := Lib.hid (And.intro hE2 (And.intro hX2 (And.intro ((Chg.refl [p] wx).drew.trans hc2) (And.intro hw2 hv2)))); clear hP hE2 hc2 hw2 hv2 hX2))
      refine ⟨fun hz => (by simp at hz), ?_⟩
      refine wpAnyP_done (by kernel_rfl) ?_ _
      skip
      clear hSw hq1 hx4 CT
      go_wp2_with fail
      go_meet
      exact ⟨vw', va', HF.out⟩
  case rest =>
    obtain ⟨vw1, va1, hE1, hX1, hc1, hw1, hv1⟩ := hcut
    obtain ⟨wd, hwd⟩ : ∃ z, z = wc := ⟨_, rfl⟩
    subst hwd
    obtain ⟨s1, hs1'⟩ : ∃ s1, s1 = (if ha then (E.s.ack now ak).1 else E.s) := ⟨_, rfl⟩
    have HSD := Lib.hid hs1'
    rw [← hs1'] at hE1
    have ok1 : s1.Ok := by
      rw [hs1']
      cases ha with
      | false => exact OK.out.s
      | true => exact Snd.ack_ok OK.out.s _ _
    have OK1 := Lib.hid ok1
    have HE1 := Lib.hid hE1
    have HD1 := Lib.hid (HD.out.kept hc1 (fun b hb => by simp at hb; subst hb; exact hE1.hp))
    have HC1 := Lib.hid hc1
    have HV1 := Lib.hid (And.intro hw1 hv1)
    have HBD := Lib.hid (Nat.le_trans HBX.out hc1.size)
    obtain ⟨x0, x1, x2, x3, x4, x5, _⟩ := hX1.six
    clear hE1 hX1 hc1 hw1 hv1 hs1' ok1 HE HX HD
    go_upto_if 20 with (fail)
    go_cut [8] (fun s8 wq => OutR wq B B s8 (E.took now hs seq ha ak d).2 ∧ ∃ v', REAt wq B q p vw1 va1 rq v' (E.took now hs seq ha ak d).1 ∧ Chg (q :: refF rq v) wd wq)
    case first =>
      cases hs with
      | false =>
        go_wp2_with fail
        go_meet
        refine ⟨⟨[], Own.nil _ _ _ _, trivial⟩, v, ?_, Chg.refl _ _⟩
        show REAt wd B q p vw1 va1 rq v ⟨E.call, if ha then (E.s.ack now ak).1 else E.s, E.r, E.owes, E.since⟩
        rw [← HSD.out]
        exact HE1.out
      | true =>
        have hEd := HE1.out.keep (Chg.refl [] wd).drew
        have hdd := HD1.out.kept (Chg.refl [] wd).drew (by simp)
        have CT := Lib.hid (rput_is B rq v E.r now seq (.slice a d.length c) d wd.drew hEd.rcv HBD.out hEd.hr OK.out.r (by have := OK.out.rl; omega) hdd hs0 hs1 OK.out.rt0 (by have := OK.out.rt1; omega))
        have hq2 : wd.drew.cell? ⟨q, 2, none⟩ = some (.pointer (some ⟨rq, 0, none⟩)) := hEd.str.five.2.2.1
        have hx2 : wd.drew.cell? ⟨gb, 2, none⟩ = some (.int .u32 seq) := x2
        have hx5 : wd.drew.cell? ⟨gb, 5, none⟩ = some (.slice a d.length c) := x5
        have HED := Lib.hid hEd
        clear hEd hdd
        go_upto_region 5 with (fail)
        refine wp_region_phase 9 (fun w' => w'.cell? ⟨q, 2, none⟩ = some (.pointer (some ⟨rq, 0, none⟩)) ∧ w'.cell? ⟨gb, 2, none⟩ = some (.int .u32 seq) ∧ w'.cell? ⟨gb, 5, none⟩ = some (.slice a d.length c)) (by kernel_rfl) ?_
        refine wpAnyP_with (by exact ⟨hq2, hx2, hx5⟩) (fun hSw => ?_)
        refine wpAnyP_take 0 [3, 2, 1] (v := ?_) rfl (by kernel_rfl) (fun _ _ _ h => h) (by assumption) (Or.inl ⟨by rfl, ?_⟩) ?_
        rotate_left
        · (intro w hSw; (try dsimp only at hSw); obtain ⟨s0, s1, s2⟩ := hSw; go_simp; try with_reducible rfl)
        simp only [List.getElem_toArray, List.getElem_cons_succ, List.getElem_cons_zero, Act.put, List.setIfInBounds_toArray, List.set_cons_zero, List.set_cons_succ]
        refine wpAnyP_take 1 [3, 2] (v := ?_) rfl (by kernel_rfl) (fun _ _ _ h => h) (by assumption) (Or.inl ⟨by rfl, ?_⟩) ?_
        rotate_left
        · (intro w hSw; (try dsimp only at hSw); obtain ⟨s0, s1, s2⟩ := hSw; go_simp; try with_reducible rfl)
        simp only [List.getElem_toArray, List.getElem_cons_succ, List.getElem_cons_zero, Act.put, List.setIfInBounds_toArray, List.set_cons_zero, List.set_cons_succ]
        refine wpAnyP_take 2 [3] (v := ?_) rfl (by kernel_rfl) (fun _ _ _ h => h) (by assumption) (Or.inl ⟨by rfl, ?_⟩) ?_
        rotate_left
        · (intro w hSw; (try dsimp only at hSw); obtain ⟨s0, s1, s2⟩ := hSw; go_simp; try with_reducible rfl)
        simp only [List.getElem_toArray, List.getElem_cons_succ, List.getElem_cons_zero, Act.put, List.setIfInBounds_toArray, List.set_cons_zero, List.set_cons_succ]
        refine wpAnyP_take 3 [] (v := ?_) rfl (by kernel_rfl) (fun _ _ _ h => h) (by assumption) (Or.inl ⟨by rfl, ?_⟩) ?_
        rotate_left
        · (intro w hSw; (try dsimp only at hSw); obtain ⟨s0, s1, s2⟩ := hSw; go_simp; try with_reducible rfl)
        simp only [List.getElem_toArray, List.getElem_cons_succ, List.getElem_cons_zero, Act.put, List.setIfInBounds_toArray, List.set_cons_zero, List.set_cons_succ]
        refine wpAnyP_take 4 [] (v := ?_) rfl (by kernel_rfl) (fun _ _ _ h => h) (by assumption) (Or.inl ⟨by rfl, ?_⟩) ?_
        rotate_left
        · (intro w hSw; (try dsimp only at hSw); obtain ⟨s0, s1, s2⟩ := hSw; go_simp; try with_reducible rfl)
        simp only [List.getElem_toArray, List.getElem_cons_succ, List.getElem_cons_zero, Act.put, List.setIfInBounds_toArray, List.set_cons_zero, List.set_cons_succ]
        refine wpAnyP_take 5 [6] (v := ?_) rfl (by kernel_rfl) (fun _ _ _ h => h) (by assumption) (Or.inl ⟨by rfl, ?_⟩) ?_
        rotate_left
        · (intro w hSw; (try dsimp only at hSw); obtain ⟨s0, s1, s2⟩ := hSw; go_simp; try with_reducible rfl)
        simp only [List.getElem_toArray, List.getElem_cons_succ, List.getElem_cons_zero, Act.put, List.setIfInBounds_toArray, List.set_cons_zero, List.set_cons_succ]
        refine wpAnyP_take 6 [] (v := ?_) rfl (by kernel_rfl) (fun _ _ _ h => h) (by assumption) (Or.inl ⟨by rfl, ?_⟩) ?_
        rotate_left
        · (intro w hSw; (try dsimp only at hSw); obtain ⟨s0, s1, s2⟩ := hSw; go_simp; try with_reducible rfl)
        simp only [List.getElem_toArray, List.getElem_cons_succ, List.getElem_cons_zero, Act.put, List.setIfInBounds_toArray, List.set_cons_zero, List.set_cons_succ]
        refine wpAnyP_take 7 [8] (v := ?_) rfl (by kernel_rfl) (fun _ _ _ h => h) (by assumption) (Or.inl ⟨by rfl, ?_⟩) ?_
        rotate_left
        · (intro w hSw; (try dsimp only at hSw); obtain ⟨s0, s1, s2⟩ := hSw; go_simp; try with_reducible rfl)
        simp only [List.getElem_toArray, List.getElem_cons_succ, List.getElem_cons_zero, Act.put, List.setIfInBounds_toArray, List.set_cons_zero, List.set_cons_succ]
        refine wpAnyP_take 8 [] (v := ?_) rfl (by kernel_rfl) (fun _ _ _ h => h) (by assumption) (Or.inl ⟨by rfl, ?_⟩) ?_
        rotate_left
        · (intro w hSw; (try dsimp only at hSw); obtain ⟨s0, s1, s2⟩ := hSw; go_simp; try with_reducible rfl)
        simp only [List.getElem_toArray, List.getElem_cons_succ, List.getElem_cons_zero, Act.put, List.setIfInBounds_toArray, List.set_cons_zero, List.set_cons_succ]
        refine wpAnyP_one 9 rfl (by kernel_rfl) (fun K hK => ?_)
        rw [if_pos (by rfl)]
        go_wp2_with ((refine CT.out.mono ?_; rintro e w2 ⟨o, v', rfl, hO, hR2, hc2⟩; have hE2 := HED.out.rcv_to hR2 hc2; have hcc : Chg (q :: refF rq v) wd w2 := ((Chg.refl _ wd).drew).trans' hc2 (fun x hx => .inl (List.mem_cons_of_mem _ hx)); have HE2 := Lib.hid hE2; have HCC := Lib.hid hcc; have HQ := Lib.hid hO; clear hO hR2 hc2 hE2 hcc))
        refine ⟨fun hz => (by simp at hz), ?_⟩
        refine wpAnyP_one 10 rfl (by kernel_rfl) (fun K hK => ?_)
        rw [if_pos (by rfl)]
        go_wp2_with (fail)
        refine ⟨fun hz => (by simp at hz), ?_⟩
        refine wpAnyP_done (by kernel_rfl) ?_ _
        skip
        clear hSw hq2 hx2 hx5 CT x0 x1 x2 x3 x4 x5
        have CO := Lib.hid (re_owe w2 B q p vw1 va1 rq v' _ now HE2.out)
        go_wp2_with fail
        refine CO.out.mono ?_
        rintro e w3 ⟨⟨u, rfl⟩, hE3, hc3⟩
        have hbs : B ≤ wd.drew.heap.size := HBD.out
        have hO3 : OutR w3 B B o (E.r.put now seq d).2 := by
          obtain ⟨ol, r1, r2⟩ := HQ.out.chg' hc3 (fun b hb => by simp at hb; subst hb; exact HE2.out.hq) (fun b hb e => by
            simp at hb; subst hb
            obtain ⟨ol, r1, _⟩ := HQ.out
            exact (r1.isT e).ne HE2.out.str.isT (by decide) rfl)
          exact ⟨ol, r1.mono hbs, r2⟩
        have hfin : REAt w3 B q p vw1 va1 rq v' (E.took now true seq ha ak d).1 ∧ Chg (q :: refF rq v) wd w3 := by
          refine ⟨?_, HCC.out.trans (hc3.mono (by simp))⟩
          have h := hE3
          rw [HSD.out] at h
          exact h
        have HF := Lib.hid (And.intro hO3 hfin)
        clear hE3 hc3 hO3 hfin hbs CO
        go_wp2_with fail
        go_meet
        exact ⟨HF.out.1, v', HF.out.2⟩
    case rest =>
      obtain ⟨hQ, v2, hE2, hc2⟩ := hcut
      obtain ⟨E1, hE1⟩ : ∃ E1, E1 = (E.took now hs seq ha ak d).1 := ⟨_, rfl⟩
      obtain ⟨out, hout⟩ : ∃ out, out = (E.took now hs seq ha ak d).2 := ⟨_, rfl⟩
      rw [← hE1] at hE2
      rw [← hout] at hQ
      have hol : out.length ≤ 10000 := by
        rw [hout]
        unfold End.took
        split
        · have h1 := Rcv.put_out (r := E.r) (now := now) (seq := seq) (d := d)
          have h2 := OK.out.rl
          show (E.r.put now seq d).2.length ≤ 10000
          omega
        · simp
      have hnx : 0 ≤ E1.r.nx ∧ E1.r.nx < 4294967296 := by
        rw [hE1]
        unfold End.took
        split
        · have h := Rcv.put_ok (now := now) (seq := seq) (d := d) OK.out.r hs0 hs1
          exact ⟨h.nx0, h.nx1⟩
        · exact ⟨OK.out.r.nx0, OK.out.r.nx1⟩
      have hs1k : E1.s.Ok := by
        have e : E1.s = s1 := by
          rw [hE1, HSD.out]
          unfold End.took
          split <;> rfl
        rw [e]; exact OK1.out
      have hcw : Chg (reF q p vw va rq v) w wc :=
        ((HC.out.mono (by simp)).trans (HC1.out.mono (fun b hb => by simp at hb; subst hb; left; rw [mem_reF]; simp))).trans (hc2.mono (fun b hb => by left; simp only [reF]; rcases List.mem_cons.1 hb with rfl | hb; exact List.mem_cons_self; exact List.mem_cons_of_mem _ (List.mem_append_left _ hb)))
      have hBc : B ≤ wc.heap.size := Nat.le_trans hB hcw.size
      have CDT := Lib.hid (re_data wc B B u8 out hQ hBc hol)
      have HE2 := Lib.hid hE2
      have HCW := Lib.hid hcw
      have HNX := Lib.hid hnx
      have HS1 := Lib.hid hs1k
      have HBC := Lib.hid hBc
      have HEQ := Lib.hid (And.intro hE1 hout)
      clear hQ hE2 hc2 hE1 hout hol hnx hs1k hcw hBc
      go_wp2_with fail
      refine CDT.out.mono ?_
      rintro e w4 ⟨o1, rfl, hR4, hc4⟩
      have CP := Lib.hid (re_pump w4 B q p vw1 va1 rq v2 E1 now (HE2.out.keep hc4) (Nat.le_trans HBC.out hc4.size) HS1.out HNX.out.1 HNX.out.2)
      have HR4 := Lib.hid (And.intro hR4 hc4)
      clear hR4 hc4
      go_wp2_with fail
      refine CP.out.mono ?_
      rintro e w5 ⟨o2, vw2, va2, rfl, hT, hE5, hc5, hw5, hv5⟩
      have hfin : GivesRE B q (reF q p vw va rq v) (E1.pumped now).1 (out.map (·.2)) (E1.pumped now).2 w (.returned (.tuple #[o1, o2])) w5 := by
        have z1 := HCW.out.size
        have z2 := HR4.out.2.size
        have z3 := HC.out.size
        have hq' : ∀ b ∈ [q, p], B ≤ b := fun b hb => by simp at hb; rcases hb with rfl | rfl; exact hE5.hq; exact hE5.hp
        have hE4 := HE2.out.keep HR4.out.2
        have hrow := HR4.out.1.keptR hc5 hq' (fun b hb e => by
          have ht := HR4.out.1.isT e
          simp at hb
          rcases hb with rfl | rfl
          · exact ht.ne hE4.str.isT (by decide) rfl
          · exact ht.ne hE4.p_at (by decide) rfl)
        obtain ⟨l, r1, r2⟩ := hrow
        obtain ⟨l', r1', r2'⟩ := hT
        refine ⟨o1, o2, rfl, ⟨l, r1.mono z1, r2⟩, ⟨l', r1'.mono (Nat.le_trans z1 z2), r2'⟩, ?_⟩
        have hct : Chg (reF q p vw va rq v) w w5 := (HCW.out.trans' HR4.out.2 (by simp)).trans (hc5.mono (fun b hb => by left; rw [mem_reF]; simp at hb; rcases hb with rfl | rfl <;> simp))
        have hz : w.heap.size ≤ w4.heap.size := Nat.le_trans z1 z2
        exact hE5.moved (v := v) hct (fun b hb => .inl hb) (fun b hb => by
          rcases hw5 b hb with k | k
          · rcases HV1.out.1 b k with k | k
            · exact .inl k
            · exact .inr (Nat.le_trans z3 k)
          · exact .inr (Nat.le_trans hz k)) (fun b hb => by
          rcases hv5 b hb with k | k
          · rcases HV1.out.2 b k with k | k
            · exact .inl k
            · exact .inr (Nat.le_trans z3 k)
          · exact .inr (Nat.le_trans hz k))
      rw [HEQ.out.1, HEQ.out.2] at hfin
      have HF := Lib.hid hfin
      clear hT hE5 hc5 hw5 hv5 hfin CP CDT
      go_wp2_with fail
      go_ret2
      exact HF.out
end Go.Proofs.Ytkmjpphmciaklaa
