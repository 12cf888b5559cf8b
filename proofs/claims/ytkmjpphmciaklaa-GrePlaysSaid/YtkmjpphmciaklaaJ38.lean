/- GrePlays: a call of both: Tick, Clear. GrePlays: a call of both: Clear. GrePlays: a call of both: Send. -/
import Derived.Test.YtkmjpphmciaklaaJ37
namespace Go.Proofs.Ytkmjpphmciaklaa
open Go.RowKit
set_option linter.unusedVariables false
set_option linter.unusedSimpArgs false
attribute [local go_sem ↓] Go.wp_at_zero Go.wp_at_succ

def StepP (B qe q k : Nat) (now : Int) (w : World) (e : Ending) (w' : World) : Prop :=
  e = .returned (.bool true) ∧ ∃ E' F G, EInv (k + 1) now E' ∧ Small E' ∧ Both2 w' B qe q F G E' E' ∧ Below B w w'
theorem Both2.keep {w w' : World} {B qe q : Nat} {F G : List Nat} {E E' : End} (h : Both2 w B qe q F G E E') (c : Chg [] w w') : Both2 w' B qe q F G E E' :=
  ⟨h.e.keep c, h.r.chg c (by simp) (by simp), h.sep, h.gB, Nat.le_trans h.low c.size⟩
/-- What the end has handed on and sent lies on behind the reference's call. -/
theorem rows_on {w w2 w3 : World} {G : List Nat} {v u : Value} {ds : List (List Int)} {ts : List (Tun (List Int))} (hG : ∀ b ∈ G, b < w.heap.size) (hN : ∀ b ∈ G, NoB w2 b) (c : Chg G w2 w3)
    (h1 : RowS (Bytes w2) w2 w.heap.size v ds) (h2 : RowT (Bytes w2) w2 w.heap.size u ts) : DRows w3 v ds ∧ Tuns w3 u ts := by
  have k1 : RowS (Bytes w3) w3 w.heap.size v ds := h1.chg c (fun b hb e => by have := hG b hb; have := (h1.lt b e).1; omega) (fun _ _ hb => hb.chg c hN)
  have k2 : RowT (Bytes w3) w3 w.heap.size u ts := h2.chg c (fun b hb e => by have := hG b hb; have := (h2.lt b e).1; omega) (fun _ _ hb => hb.chg c hN)
  exact ⟨k1.drows (fun _ _ hb => hb.wide.mono (fun _ _ _ => trivial)), k2.tuns (fun _ _ hb => hb.wide.mono (fun _ _ _ => trivial))⟩

set_option maxRecDepth 100000 in
set_option maxHeartbeats 2000000 in
theorem step_tick (w : World) (B qe q k : Nat) (F G : List Nat) (E : End) (kind n ack tk : Int) (ha : Bool) (a : Option Addr) (m c : Nat) (now : Int) (h : Both2 w B qe q F G E E) (hi : EInv k now E) (hsm : Small E) (hk : k ≤ 1000) (hn0 : 0 ≤ now) (hn1 : now ≤ 100000) (hk0 : 0 ≤ kind) (hkd : kind % 6 = 4) :
    Calls Try.prog 44 #[.pointer (some ⟨qe, 0, none⟩), .pointer (some ⟨q, 0, none⟩), .agg #[.int .i64 kind, .int .i64 n, .int .i64 ack, .int .i64 tk, .bool ha, .slice a m c], .int .i64 now] w (StepP B qe q k now w) := by
  obtain ⟨wx, hwx⟩ : ∃ wx, wx = w.alloc (.cells #[.int .i64 kind, .int .i64 n, .int .i64 ack, .int .i64 tk, .bool ha, .slice a m c] 93) := ⟨_, rfl⟩
  have hcx : Chg [] w wx := by rw [hwx]; exact (Chg.refl _ _).alloc _
  have hB := h.keep hcx
  obtain ⟨ok, hl⟩ := hi.ok (by omega) (by omega)
  have CT := Lib.hid (tick_end wx B qe F E now hB.e ok hB.low hn0 (by omega) (by omega))
  have HX := Lib.hid hwx
  have HC := Lib.hid (hcx.below h.low (by simp))
  have HB := Lib.hid hB
  have OK := Lib.hid (And.intro ok hl)
  have HI := Lib.hid hi
  have HS := Lib.hid hsm
  clear h hi hsm hwx hcx hB ok hl
  go_enter Try.func44, Try.ntmps44
  go_wp2_with fail
  rw [← HX.out]
  refine CT.out.mono ?_
  rintro e w2 ⟨o1, o2, rfl, hR1, hT1, _, _, hM⟩
  obtain ⟨F2, hB2, hc2, hb2⟩ := HB.out.end_to hM
  obtain ⟨p, vw, va, rq, v, hGe, hRE⟩ := hB2.r
  have CR := re_tick w2 B q p vw va rq v E now hRE OK.out.1 OK.out.2 hB2.low hn0 (by omega)
  rw [← hGe] at CR
  have HCR := Lib.hid CR
  have HB2 := Lib.hid hB2
  have HR := Lib.hid (And.intro hR1 (And.intro hT1 hb2))
  clear hR1 hT1 hM hB2 hc2 hb2 hGe hRE CR CT
  go_wp2_with fail
  refine HCR.out.mono ?_
  rintro e w3 ⟨o3, o4, rfl, hR3, hT3, hM3⟩
  obtain ⟨G3, hB3, hc3, hb3⟩ := HB2.out.re_to hM3
  have hGl : ∀ b ∈ G, b < wx.heap.size := fun b hb => (HB.out.r.kinds b hb).1
  obtain ⟨z1, z2⟩ := rows_on hGl (fun b hb => (HB2.out.r.kinds b hb).2.1) hc3 HR.out.1 HR.out.2.1
  have z3 := hR3.drows (fun _ _ hb => hb.mono (fun _ _ _ => trivial))
  have z4 := hT3.tuns (fun _ _ hb => hb.mono (fun _ _ _ => trivial))
  have hs1 := HS.out.ticked now
  have hs2 := hs1.1.tells now
  have htl := tells_len OK.out.1 OK.out.2 now
  have hdl : ((E.ticked now).2.map (·.2)).length ≤ 100000 := by
    rw [List.length_map]
    have h1 := Rcv.tick_out (r := E.r) (now := now)
    have h2 := OK.out.1.rl
    show (E.r.tick now).2.length ≤ 100000
    omega
  have C81 := Lib.hid (same81 w3 o1 o3 o2 o4 _ _ z1 z3 z2 z4 hdl (by omega) (fun d hd => by
    obtain ⟨p, hp, rfl⟩ := List.mem_map.1 hd
    have := hs1.2 p hp
    omega) (fun t ht => by have := hs2.2 t ht; omega))
  have HF := Lib.hid (And.intro (HI.out.tick0 (by omega) hn0 (by omega)) (And.intro hs2.1 (And.intro hB3 ((HC.out.trans HR.out.2.2).trans hb3))))
  clear hR3 hT3 hM3 hB3 hc3 hb3 hGl z1 z2 z3 z4 hs1 hs2 htl hdl HCR
  go_wp2_with fail
  refine C81.out.mono ?_
  rintro e w4 ⟨rfl, hc4⟩
  have HG := Lib.hid (And.intro (HF.out.2.2.1.keep hc4) (HF.out.2.2.2.trans (hc4.below HF.out.2.2.1.low (by simp))))
  clear hc4 C81
  go_wp2_with fail
  go_ret
  exact ⟨rfl, _, _, _, HF.out.1, HF.out.2.1, HG.out⟩
end Go.Proofs.Ytkmjpphmciaklaa
namespace Go.Proofs.Ytkmjpphmciaklaa
open Go.RowKit
set_option linter.unusedVariables false
set_option linter.unusedSimpArgs false
attribute [local go_sem ↓] Go.wp_at_zero Go.wp_at_succ

def End.emptied (E : End) : End := { E with s := { E.s with wait := [] } }
theorem EInv.emptied {k : Nat} {now : Int} {E : End} (h : EInv k now E) : EInv (k + 1) now E.emptied := by
  have h2 := h.rt1
  have h4 := h.lost
  have hs := h.s
  exact ⟨⟨hs.nx0, hs.nx1, hs.air, by show 0 ≤ 16; omega, hs.win, hs.m0, hs.m1, hs.d0, hs.d1, hs.keys, hs.ats, hs.l0, hs.l1⟩, h.r, h.rl, h.rs0, h.rs1, h.rt0, by show E.r.twice ≤ _; push_cast; omega, h.si0, h.si1, by show E.s.lost ≤ _; push_cast; omega, h.airs⟩
theorem Small.emptied {E : End} (h : Small E) : Small E.emptied := ⟨fun v hv => (by cases hv), h.2⟩

set_option maxRecDepth 100000 in
set_option maxHeartbeats 2000000 in
theorem step_clear32 (w : World) (B qe q k : Nat) (F G : List Nat) (E : End) (kind n ack tk : Int) (ha : Bool) (a : Option Addr) (m c : Nat) (now : Int) (h : Both2 w B qe q F G E E) (hi : EInv k now E) (hsm : Small E) (hk0 : 0 ≤ kind) (hkd : kind % 6 = 5) :
    Calls Try.prog 44 #[.pointer (some ⟨qe, 0, none⟩), .pointer (some ⟨q, 0, none⟩), .agg #[.int .i64 kind, .int .i64 n, .int .i64 ack, .int .i64 tk, .bool ha, .slice a m c], .int .i64 now] w (StepP B qe q k now w) := by
  obtain ⟨wx, hwx⟩ : ∃ wx, wx = w.alloc (.cells #[.int .i64 kind, .int .i64 n, .int .i64 ack, .int .i64 tk, .bool ha, .slice a m c] 93) := ⟨_, rfl⟩
  have hcx : Chg [] w wx := by rw [hwx]; exact (Chg.refl _ _).alloc _
  have hB := h.keep hcx
  have CT := Lib.hid (end_clear wx B qe F E hB.e)
  have HX := Lib.hid hwx
  have HC := Lib.hid (hcx.below h.low (by simp))
  have HB := Lib.hid hB
  have HI := Lib.hid hi
  have HS := Lib.hid hsm
  clear h hi hsm hwx hcx hB
  go_enter Try.func44, Try.ntmps44
  go_wp2_with fail
  rw [← HX.out]
  refine CT.out.mono ?_
  rintro e w2 ⟨rfl, hM⟩
  obtain ⟨F2, hB2, hc2, hb2⟩ := HB.out.end_to hM
  obtain ⟨p, vw, va, rq, v, hGe, hRE⟩ := hB2.r
  have CR := re_clear w2 B q p vw va rq v E hRE
  rw [← hGe] at CR
  have HCR := Lib.hid CR
  have HB2 := Lib.hid hB2
  have HR := Lib.hid hb2
  clear hM hB2 hc2 hb2 hGe hRE CR CT
  go_wp2_with fail
  refine HCR.out.mono ?_
  rintro e w3 ⟨rfl, hM3⟩
  obtain ⟨G3, hB3, hc3, hb3⟩ := HB2.out.re_to hM3
  have HF := Lib.hid (And.intro hB3 ((HC.out.trans HR.out).trans hb3))
  clear hM3 hB3 hc3 hb3 HCR
  go_wp2_with fail
  go_ret
  exact ⟨rfl, _, _, _, HI.out.emptied, HS.out.emptied, HF.out⟩
end Go.Proofs.Ytkmjpphmciaklaa
namespace Go.Proofs.Ytkmjpphmciaklaa
open Go.RowKit
set_option linter.unusedVariables false
set_option linter.unusedSimpArgs false
attribute [local go_sem ↓] Go.wp_at_zero Go.wp_at_succ

theorem DRows.nil (w : World) : DRows w (.slice none 0 0) [] := ⟨none, 0, rfl, fun k d h => by simp at h⟩
theorem tuns_on {w w2 w3 : World} {G : List Nat} {u : Value} {ts : List (Tun (List Int))} (hG : ∀ b ∈ G, b < w.heap.size) (hN : ∀ b ∈ G, NoB w2 b) (c : Chg G w2 w3) (h2 : RowT (Bytes w2) w2 w.heap.size u ts) : Tuns w3 u ts := by
  have k2 : RowT (Bytes w3) w3 w.heap.size u ts := h2.chg c (fun b hb e => by have := hG b hb; have := (h2.lt b e).1; omega) (fun _ _ hb => hb.chg c hN)
  exact k2.tuns (fun _ _ hb => hb.wide.mono (fun _ _ _ => trivial))

set_option maxRecDepth 100000 in
set_option maxHeartbeats 2000000 in
theorem step_send32 (w : World) (B qe q k : Nat) (F G : List Nat) (E : End) (kind n ack tk : Int) (ha : Bool) (a : Option Addr) (c : Nat) (d : List Int) (now : Int) (h : Both2 w B qe q F G E E) (hi : EInv k now E) (hsm : Small E) (hk : k ≤ 1000) (hn0 : 0 ≤ now) (hn1 : now ≤ 100000) (hk0 : 0 ≤ kind) (hkd : kind % 6 = 0 ∨ kind % 6 = 1) (hd : BytS (· < B) w (.slice a d.length c) d) (hdl : d.length ≤ 2000) :
    Calls Try.prog 44 #[.pointer (some ⟨qe, 0, none⟩), .pointer (some ⟨q, 0, none⟩), .agg #[.int .i64 kind, .int .i64 n, .int .i64 ack, .int .i64 tk, .bool ha, .slice a d.length c], .int .i64 now] w (StepP B qe q k now w) := by
  obtain ⟨wx, hwx⟩ : ∃ wx, wx = w.alloc (.cells #[.int .i64 kind, .int .i64 n, .int .i64 ack, .int .i64 tk, .bool ha, .slice a d.length c] 93) := ⟨_, rfl⟩
  have hcx : Chg [] w wx := by rw [hwx]; exact (Chg.refl _ _).alloc _
  have hX : At wx w.heap.size 93 [.int .i64 kind, .int .i64 n, .int .i64 ack, .int .i64 tk, .bool ha, .slice a d.length c] := by rw [hwx]; exact At.new w 93 [_, _, _, _, _, _]
  have hB := h.keep hcx
  obtain ⟨ok, hl⟩ := hi.ok (by omega) (by omega)
  have hdx := hd.kept hcx (by simp)
  have CT := Lib.hid (send_end wx B qe F E now a c d hB.e ok hB.low hdx (by omega) (by omega))
  have HX := Lib.hid hwx
  have HAX := Lib.hid hX
  have HC := Lib.hid (hcx.below h.low (by simp))
  have HB := Lib.hid hB
  have OK := Lib.hid (And.intro ok hl)
  have HI := Lib.hid hi
  have HS := Lib.hid hsm
  have HD := Lib.hid hdx
  have HFX := Lib.hid (show ∀ b ∈ F, b ≠ w.heap.size from fun b hb => by have := (h.e.kind b hb).2.1; omega)
  obtain ⟨x0, x1, x2, x3, x4, x5, _⟩ := hX.six
  clear h hi hsm hwx hcx hB ok hl hd hdx hX
  have main : ∀ (kd : kind % 6 = 0 ∨ kind % 6 = 1), Calls Try.prog 44 #[.pointer (some ⟨qe, 0, none⟩), .pointer (some ⟨q, 0, none⟩), .agg #[.int .i64 kind, .int .i64 n, .int .i64 ack, .int .i64 tk, .bool ha, .slice a d.length c], .int .i64 now] w (StepP B qe q k now w) := by
    intro kd
    have z5 : ¬ kind % 6 = 5 := by omega
    have z2 : ¬ kind % 6 = 2 := by omega
    have z3 : ¬ kind % 6 = 3 := by omega
    have z4 : ¬ kind % 6 = 4 := by omega
    clear hkd kd
    go_enter Try.func44, Try.ntmps44
    go_upto_region 1 with (fail)
    rw [← HX.out]
    go_wp2_with fail
    refine CT.out.mono ?_
    rintro e w2 ⟨o1, rfl, hT1, hM⟩
    obtain ⟨F2, hB2, hc2, hb2⟩ := HB.out.end_to hM
    have hA2 := HAX.out.chg hc2 (fun hm => HFX.out _ hm rfl)
    obtain ⟨y0, y1, y2, y3, y4, y5, _⟩ := hA2.six
    obtain ⟨p, vw, va, rq, v, hGe, hRE⟩ := hB2.r
    have hd2 := HD.out.kept hc2 (fun b hb => (HB.out.e.kind b hb).1)
    have CR := re_send w2 B q p vw va rq v E now a c d hRE hB2.low OK.out.1 hd2
    rw [← hGe] at CR
    have HCR := Lib.hid CR
    have HB2 := Lib.hid hB2
    have HR := Lib.hid (And.intro hT1 hb2)
    obtain ⟨bb, hbb⟩ : ∃ bb, bb = (E.send now d).2.2 := ⟨_, rfl⟩
    unfold SendRE at HCR
    rw [← hbb] at HCR ⊢
    have HBB := Lib.hid hbb
    clear hT1 hM hB2 hc2 hb2 hGe hRE CR CT hbb hd2 hA2 x0 x1 x2 x3 x4 x5
    go_wp2_with fail
    refine HCR.out.mono ?_
    rintro e w3 ⟨o3, rfl, hT3, hM3⟩
    obtain ⟨G3, hB3, hc3, hb3⟩ := HB2.out.re_to hM3
    have hGl : ∀ b ∈ G, b < wx.heap.size := fun b hb => (HB.out.r.kinds b hb).1
    have z1 := tuns_on hGl (fun b hb => (HB2.out.r.kinds b hb).2.1) hc3 HR.out.1
    have z9 := hT3.tuns (fun _ _ hb => hb.mono (fun _ _ _ => trivial))
    have hs1 := HS.out.send now d hdl
    have htl : (E.send now d).2.1.length ≤ 100000 := by
      have := Snd.pump_len (Snd.push_ok OK.out.1.s d) now
      unfold End.send
      split
      · simp
      · simp only [List.length_map]; omega
    have C81 := Lib.hid (same81 w3 (.slice none 0 0) (.slice none 0 0) o1 o3 [] _ (DRows.nil _) (DRows.nil _) z1 z9 (by simp) htl (fun d hd => by cases hd) (fun t ht => by have := hs1.2 t ht; omega))
    have HF := Lib.hid (And.intro (HI.out.send d hn0 (by omega)) (And.intro hs1.1 (And.intro hB3 ((HC.out.trans HR.out.2).trans hb3))))
    clear hT3 hM3 hB3 hc3 hb3 hGl z1 z9 hs1 htl HCR y0 y1 y2 y3 y4 y5
    go_wp2_with fail
    refine C81.out.mono ?_
    rintro e w4 ⟨rfl, hc4⟩
    have HG := Lib.hid (And.intro (HF.out.2.2.1.keep hc4) (HF.out.2.2.2.trans (hc4.below HF.out.2.2.1.low (by simp))))
    clear hc4 C81
    go_wp2_with fail
    go_ret
    exact ⟨rfl, _, _, _, HF.out.1, HF.out.2.1, HG.out⟩
  exact main hkd
end Go.Proofs.Ytkmjpphmciaklaa
