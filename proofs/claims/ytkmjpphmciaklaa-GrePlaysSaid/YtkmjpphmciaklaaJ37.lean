/- GrePlays: what both hand on and send is the same. GrePlays: what is told is the same. GrePlays: both ends side by side. GrePlays: plain law: how long what is handed on and sent may be. -/
import Derived.Test.YtkmjpphmciaklaaJ28
import Derived.Test.YtkmjpphmciaklaaJ29
import Derived.Test.YtkmjpphmciaklaaJ36
import Derived.Test.YtkmjpphmciaklaaJ35
namespace Go.Proofs.Ytkmjpphmciaklaa
open Go.RowKit
set_option linter.unusedVariables false
set_option linter.unusedSimpArgs false
attribute [local go_sem ↓] Go.wp_at_zero Go.wp_at_succ

/-- DRows of the same data, wherever these lie. -/
def DRows (w : World) (v : Value) (P : List (List Int)) : Prop := ∃ a c, v = .slice a P.length c ∧ ∀ k d, P[k]? = some d → ∃ g A m mc, a = some ⟨g, 0, none⟩ ∧ g < w.heap.size ∧ w.cell? ⟨g, k, none⟩ = some (.slice A m mc) ∧ BytS (fun _ => True) w (.slice A m mc) d
theorem RowS.drows {R : Value → List Int → Prop} {w : World} {B : Nat} {v : Value} {P : List (List Int)} (h : RowS R w B v P) (hR : ∀ u d, R u d → BytS (fun _ => True) w u d) : DRows w v P := by
  obtain ⟨a, c, rfl⟩ := h.slice
  refine ⟨a, c, rfl, fun k d hk => ?_⟩
  obtain ⟨g, u, e, hg, hc, hu⟩ := h.cell rfl hk
  have hb := hR _ _ hu
  obtain ⟨A, m, mc, rfl⟩ := hb.slice
  exact ⟨g, A, m, mc, e, hg, hc, hb⟩
theorem DRows.keep {w w' : World} {v : Value} {P : List (List Int)} (h : DRows w v P) (c : Chg [] w w') : DRows w' v P := by
  obtain ⟨a, n, hv, h1⟩ := h
  refine ⟨a, n, hv, fun k d hk => ?_⟩
  obtain ⟨g, A, m, mc, e, hg, hc, hb⟩ := h1 k d hk
  exact ⟨g, A, m, mc, e, Nat.lt_of_lt_of_le hg c.size, (c.cell (p := ⟨g, k, none⟩) hg (by simp)).trans hc, hb.chg c (by simp)⟩
def Tuns (w : World) (v : Value) (P : List (Tun (List Int))) : Prop := ∃ a c, v = .slice a P.length c ∧ ∀ k x, P[k]? = some x → ∃ g A mc, a = some ⟨g, 0, none⟩ ∧ g < w.heap.size ∧
  w.cell? ⟨g, k * 6, none⟩ = some (.int .u16 x.call) ∧ w.cell? ⟨g, k * 6 + 1, none⟩ = some (.bool x.hs) ∧ w.cell? ⟨g, k * 6 + 2, none⟩ = some (.int .u32 x.seq) ∧ w.cell? ⟨g, k * 6 + 3, none⟩ = some (.bool x.ha) ∧ w.cell? ⟨g, k * 6 + 4, none⟩ = some (.int .u32 x.ack) ∧
  w.cell? ⟨g, k * 6 + 5, none⟩ = some (.slice A x.d.length mc) ∧ BytS (fun _ => True) w (.slice A x.d.length mc) x.d
theorem BytS.len {S : Nat → Prop} {w : World} {v : Value} {d : List Int} (h : BytS S w v d) : ∃ A c, v = .slice A d.length c := by
  obtain ⟨A, c, hv, _⟩ := h
  exact ⟨A, c, hv⟩
theorem RowT.tuns {R : Value → List Int → Prop} {w : World} {B : Nat} {v : Value} {P : List (Tun (List Int))} (h : RowT R w B v P) (hR : ∀ u d, R u d → BytS (fun _ => True) w u d) : Tuns w v P := by
  obtain ⟨a, c, hv⟩ := h.slice
  subst hv
  refine ⟨a, c, rfl, fun k x hk => ?_⟩
  obtain ⟨l, h1, h2⟩ := h
  obtain ⟨t, ht, k1, k2, k3, k4, k5, k6⟩ := h2.at hk
  have hb := hR _ _ k6
  obtain ⟨A, mc, hA⟩ := hb.len
  rw [hA] at hb
  have hkt : (l.map tunC)[k]? = some (tunC t) := by simp [ht]
  obtain ⟨g, e, hc⟩ := h1.cells rfl (by
    have := (List.getElem?_eq_some_iff.1 hkt).1
    omega)
  subst e
  have hg := h1.lt g rfl
  refine ⟨g, A, mc, rfl, hg.2, ?_, ?_, ?_, ?_, ?_, ?_, hb⟩
  · rw [← k1]; exact hc _ _ (h1.1.at (j := 0) hkt rfl)
  · rw [← k2]; exact hc _ _ (h1.1.at (j := 1) hkt rfl)
  · rw [← k3]; exact hc _ _ (h1.1.at (j := 2) hkt rfl)
  · rw [← k4]; exact hc _ _ (h1.1.at (j := 3) hkt rfl)
  · rw [← k5]; exact hc _ _ (h1.1.at (j := 4) hkt rfl)
  · rw [← hA]; exact hc _ _ (h1.1.at (j := 5) hkt rfl)
theorem Tuns.keep {w w' : World} {v : Value} {P : List (Tun (List Int))} (h : Tuns w v P) (c : Chg [] w w') : Tuns w' v P := by
  obtain ⟨a, n, hv, h1⟩ := h
  refine ⟨a, n, hv, fun k x hk => ?_⟩
  obtain ⟨g, A, mc, e, hg, c0, c1, c2, c3, c4, c5, hb⟩ := h1 k x hk
  have cc : ∀ j, w'.cell? ⟨g, j, none⟩ = w.cell? ⟨g, j, none⟩ := fun j => c.cell (p := ⟨g, j, none⟩) hg (by simp)
  exact ⟨g, A, mc, e, Nat.lt_of_lt_of_le hg c.size, (cc _).trans c0, (cc _).trans c1, (cc _).trans c2, (cc _).trans c3, (cc _).trans c4, (cc _).trans c5, hb.chg c (by simp)⟩

def SixAt (w : World) (g o : Nat) (x : Tun (List Int)) (v : Value) : Prop := w.cell? ⟨g, o, none⟩ = some (.int .u16 x.call) ∧ w.cell? ⟨g, o + 1, none⟩ = some (.bool x.hs) ∧ w.cell? ⟨g, o + 2, none⟩ = some (.int .u32 x.seq) ∧ w.cell? ⟨g, o + 3, none⟩ = some (.bool x.ha) ∧ w.cell? ⟨g, o + 4, none⟩ = some (.int .u32 x.ack) ∧ w.cell? ⟨g, o + 5, none⟩ = some v
theorem SixAt.keep {w w' : World} {g o : Nat} {x : Tun (List Int)} {v : Value} (h : SixAt w g o x v) (c : Chg [] w w') (hg : g < w.heap.size) : SixAt w' g o x v := by
  obtain ⟨c0, c1, c2, c3, c4, c5⟩ := h
  have cc : ∀ j, w'.cell? ⟨g, j, none⟩ = w.cell? ⟨g, j, none⟩ := fun j => c.cell (p := ⟨g, j, none⟩) hg (by simp)
  exact ⟨(cc _).trans c0, (cc _).trans c1, (cc _).trans c2, (cc _).trans c3, (cc _).trans c4, (cc _).trans c5⟩

set_option maxRecDepth 100000 in
set_option maxHeartbeats 2000000 in
theorem same81 (w : World) (v1 v2 v3 v4 : Value) (ds : List (List Int)) (ts : List (Tun (List Int))) (h1 : DRows w v1 ds) (h2 : DRows w v2 ds) (h3 : Tuns w v3 ts) (h4 : Tuns w v4 ts) (hl : ds.length ≤ 100000) (hl2 : ts.length ≤ 100000) (hd : ∀ d ∈ ds, d.length ≤ 1000000) (ht : ∀ t ∈ ts, t.d.length ≤ 1000000) :
    Calls Try.prog 81 #[v1, v2, v3, v4] w fun e w' => e = .returned (.bool true) ∧ Chg [] w w' := by
  have H1 := Lib.hid h1
  have H2 := Lib.hid h2
  have H3 := Lib.hid h3
  have H4 := Lib.hid h4
  have HDL := Lib.hid hd
  have HTL := Lib.hid ht
  obtain ⟨a1, c1, rfl, _⟩ := h1
  obtain ⟨a2, c2, rfl, _⟩ := h2
  obtain ⟨a3, c3, rfl, _⟩ := h3
  obtain ⟨a4, c4, rfl, _⟩ := h4
  clear hd ht
  go_enter Try.func81, Try.ntmps81
  go_upto_block 0 with (fail)
  go_cut [] (fun wq => Chg [] w wq)
  case first =>
    go_wp2_with fail
    go_loopg [9] ds.length (fun g s9 wr => ∃ k : Nat, k ≤ ds.length ∧ g = ds.length - k ∧ s9 = .int .i64 k ∧ Chg [] w wr)
    case atStart => exact ⟨0, by omega, by omega, rfl, Chg.refl _ _⟩
    case round =>
      obtain ⟨w9, hw9⟩ : ∃ w9, w9 = wr := ⟨_, rfl⟩
      subst hw9
      obtain ⟨k, hk, rfl, rfl, hc⟩ := hrel
      have HC := Lib.hid hc
      by_cases hkl : k < ds.length
      · obtain ⟨d, hdk⟩ : ∃ d, ds[k]? = some d := ⟨_, List.getElem?_eq_getElem hkl⟩
        have hdl := HDL.out d (List.mem_of_getElem? hdk)
        obtain ⟨_, _, e, q1⟩ := H1.out.keep hc
        simp only [Value.slice.injEq] at e
        obtain ⟨rfl, -, rfl⟩ := e
        obtain ⟨_, _, e, q2⟩ := H2.out.keep hc
        simp only [Value.slice.injEq] at e
        obtain ⟨rfl, -, rfl⟩ := e
        obtain ⟨g1, A1, m1, mc1, rfl, hg1, y1, b1⟩ := q1 k d hdk
        obtain ⟨g2, A2, m2, mc2, rfl, hg2, y2, b2⟩ := q2 k d hdk
        have CT : ∀ n, Calls Try.prog 14 #[.slice A1 m1 mc1, .slice A2 m2 mc2] (w9.drewN n) fun e w' => e = .returned (.bool true) ∧ ∃ m, w' = (w9.drewN n).drewN m := fun n => by
          have h := equal_q (.slice A1 m1 mc1) (.slice A2 m2 mc2) d d (w9.drewN n) (b1.chg ((Chg.refl [] w9).drewN n) (by simp)) (b2.chg ((Chg.refl [] w9).drewN n) (by simp)) hdl hdl
          rw [show decide (d = d) = true from decide_eq_true rfl] at h
          exact h
        have HCT := Lib.hid CT
        have hi0 : (0 : Int) ≤ (k : Int) := by omega
        have hi1 : (k : Int) < (ds.length : Int) := by omega
        clear q1 q2 b1 b2 CT hc hdk
        go_upto_region 6 with (fail)
        go_quiet ((go_at_call 14; exact Calls.quiet_of (HCT.out _)))
        go_wp2_with fail
        go_roundg (ds.length - (k + 1))
        case measure => omega
        case rel => exact ⟨k + 1, by omega, rfl, rfl, HC.out.trans ((Chg.refl _ _).drewN _)⟩
      · obtain rfl : k = ds.length := by omega
        go_wp2_with fail
        go_meet
        exact HC.out
  case rest =>
    obtain ⟨wz, hwz⟩ : ∃ z, z = wc := ⟨_, rfl⟩
    subst hwz
    have HZ := Lib.hid hcut
    clear hcut
    go_wp2_with fail
    go_loopg [10] ts.length (fun g s10 wr => ∃ k : Nat, k ≤ ts.length ∧ g = ts.length - k ∧ s10 = .int .i64 k ∧ Chg [] w wr)
    case atStart => exact ⟨0, by omega, by omega, rfl, HZ.out⟩
    case round =>
      obtain ⟨w9, hw9⟩ : ∃ w9, w9 = wr := ⟨_, rfl⟩
      subst hw9
      obtain ⟨k, hk, rfl, rfl, hc⟩ := hrel
      have HC := Lib.hid hc
      by_cases hkl : k < ts.length
      · obtain ⟨x, hxk⟩ : ∃ x, ts[k]? = some x := ⟨_, List.getElem?_eq_getElem hkl⟩
        have hdl := HTL.out x (List.mem_of_getElem? hxk)
        obtain ⟨_, _, e, q1⟩ := H3.out.keep (hc.trans (Chg.refl [] w9).drew)
        simp only [Value.slice.injEq] at e
        obtain ⟨rfl, -, rfl⟩ := e
        obtain ⟨_, _, e, q2⟩ := H4.out.keep (hc.trans (Chg.refl [] w9).drew)
        simp only [Value.slice.injEq] at e
        obtain ⟨rfl, -, rfl⟩ := e
        obtain ⟨g1, A1, mc1, rfl, hg1, x0, x1, x2, x3, x4, x5, b1⟩ := q1 k x hxk
        obtain ⟨g2, A2, mc2, rfl, hg2, y0, y1, y2, y3, y4, y5, b2⟩ := q2 k x hxk
        have HCT := Lib.hid (same11_true w9.drew x.call x.hs x.seq x.ha x.ack A1 A2 mc1 mc2 x.d b1 b2)
        have hi0 : (0 : Int) ≤ (k : Int) := by omega
        have hi1 : (k : Int) < (ts.length : Int) := by omega
        have HX : Hid (SixAt w9.drew g1 (k * 6) x (.slice A1 x.d.length mc1) ∧ SixAt w9.drew g2 (k * 6) x (.slice A2 x.d.length mc2)) := Lib.hid ⟨⟨x0, x1, x2, x3, x4, x5⟩, ⟨y0, y1, y2, y3, y4, y5⟩⟩
        clear q1 q2 b1 b2 hc hxk x0 x1 x2 x3 x4 x5 y0 y1 y2 y3 y4 y5
        go_upto_region 11 with (fail)
        refine wp_region_phase 9 (fun w' => SixAt w' g1 (k * 6) x (.slice A1 x.d.length mc1) ∧ SixAt w' g2 (k * 6) x (.slice A2 x.d.length mc2)) (by kernel_rfl) ?_
        refine wpAnyP_with (by exact HX.out) (fun hSw => ?_)
        refine wpAnyP_take 0 [8, 3, 2] (v := ?_) rfl (by kernel_rfl) (fun _ _ _ h => h) (by assumption) (Or.inl ⟨by rfl, ?_⟩) ?_
        rotate_left
        · (intro w hSw; (try dsimp only at hSw); obtain ⟨⟨s0, s1, s2, s3, s4, s5⟩, r0, r1, r2, r3, r4, r5⟩ := hSw; go_simp; try with_reducible rfl)
        simp only [List.getElem_toArray, List.getElem_cons_succ, List.getElem_cons_zero, Act.put, List.setIfInBounds_toArray, List.set_cons_zero, List.set_cons_succ]
        refine wpAnyP_take 1 [8, 3, 2] (v := ?_) rfl (by kernel_rfl) (fun _ _ _ h => h) (by assumption) (Or.inl ⟨by rfl, ?_⟩) ?_
        rotate_left
        · (intro w hSw; (try dsimp only at hSw); obtain ⟨⟨s0, s1, s2, s3, s4, s5⟩, r0, r1, r2, r3, r4, r5⟩ := hSw; go_simp; try with_reducible rfl)
        simp only [List.getElem_toArray, List.getElem_cons_succ, List.getElem_cons_zero, Act.put, List.setIfInBounds_toArray, List.set_cons_zero, List.set_cons_succ]
        refine wpAnyP_take 2 [8, 3] (v := ?_) rfl (by kernel_rfl) (fun _ _ _ h => h) (by assumption) (Or.inl ⟨by rfl, ?_⟩) ?_
        rotate_left
        · (intro w hSw; (try dsimp only at hSw); obtain ⟨⟨s0, s1, s2, s3, s4, s5⟩, r0, r1, r2, r3, r4, r5⟩ := hSw; go_simp; try with_reducible rfl)
        simp only [List.getElem_toArray, List.getElem_cons_succ, List.getElem_cons_zero, Act.put, List.setIfInBounds_toArray, List.set_cons_zero, List.set_cons_succ]
        refine wpAnyP_take 3 [8] (v := ?_) rfl (by kernel_rfl) (fun _ _ _ h => h) (by assumption) (Or.inl ⟨by rfl, ?_⟩) ?_
        rotate_left
        · (intro w hSw; (try dsimp only at hSw); obtain ⟨⟨s0, s1, s2, s3, s4, s5⟩, r0, r1, r2, r3, r4, r5⟩ := hSw; go_simp; try with_reducible rfl)
        simp only [List.getElem_toArray, List.getElem_cons_succ, List.getElem_cons_zero, Act.put, List.setIfInBounds_toArray, List.set_cons_zero, List.set_cons_succ]
        refine wpAnyP_take 4 [8, 7, 6] (v := ?_) rfl (by kernel_rfl) (fun _ _ _ h => h) (by assumption) (Or.inl ⟨by rfl, ?_⟩) ?_
        rotate_left
        · (intro w hSw; (try dsimp only at hSw); obtain ⟨⟨s0, s1, s2, s3, s4, s5⟩, r0, r1, r2, r3, r4, r5⟩ := hSw; go_simp; try with_reducible rfl)
        simp only [List.getElem_toArray, List.getElem_cons_succ, List.getElem_cons_zero, Act.put, List.setIfInBounds_toArray, List.set_cons_zero, List.set_cons_succ]
        refine wpAnyP_take 5 [8, 7, 6] (v := ?_) rfl (by kernel_rfl) (fun _ _ _ h => h) (by assumption) (Or.inl ⟨by rfl, ?_⟩) ?_
        rotate_left
        · (intro w hSw; (try dsimp only at hSw); obtain ⟨⟨s0, s1, s2, s3, s4, s5⟩, r0, r1, r2, r3, r4, r5⟩ := hSw; go_simp; try with_reducible rfl)
        simp only [List.getElem_toArray, List.getElem_cons_succ, List.getElem_cons_zero, Act.put, List.setIfInBounds_toArray, List.set_cons_zero, List.set_cons_succ]
        refine wpAnyP_take 6 [8, 7] (v := ?_) rfl (by kernel_rfl) (fun _ _ _ h => h) (by assumption) (Or.inl ⟨by rfl, ?_⟩) ?_
        rotate_left
        · (intro w hSw; (try dsimp only at hSw); obtain ⟨⟨s0, s1, s2, s3, s4, s5⟩, r0, r1, r2, r3, r4, r5⟩ := hSw; go_simp; try with_reducible rfl)
        simp only [List.getElem_toArray, List.getElem_cons_succ, List.getElem_cons_zero, Act.put, List.setIfInBounds_toArray, List.set_cons_zero, List.set_cons_succ]
        refine wpAnyP_take 7 [8] (v := ?_) rfl (by kernel_rfl) (fun _ _ _ h => h) (by assumption) (Or.inl ⟨by rfl, ?_⟩) ?_
        rotate_left
        · (intro w hSw; (try dsimp only at hSw); obtain ⟨⟨s0, s1, s2, s3, s4, s5⟩, r0, r1, r2, r3, r4, r5⟩ := hSw; go_simp; try with_reducible rfl)
        simp only [List.getElem_toArray, List.getElem_cons_succ, List.getElem_cons_zero, Act.put, List.setIfInBounds_toArray, List.set_cons_zero, List.set_cons_succ]
        refine wpAnyP_one 8 rfl (by kernel_rfl) (fun K hK => ?_)
        rw [if_pos (by rfl)]
        go_wp2_with ((refine HCT.out.mono ?_; rintro e w3 ⟨rfl, hc3⟩; have HC3 := Lib.hid (HC.out.trans ((Chg.refl [] w9).drew.trans hc3)); have HX3 := Lib.hid (And.intro (HX.out.1.keep hc3 hg1) (HX.out.2.keep hc3 hg2)); clear hc3))
        refine hold_with (by (try dsimp only at hSw); exact HX3.out) (fun hSn => ?_)
        clear hSw; have hSw := hSn; clear hSn
        refine wpAnyP_one 9 rfl (by kernel_rfl) (fun K hK => ?_)
        rw [if_pos (by rfl)]
        go_wp2_with (fail)
        refine ⟨fun hz => (by simp at hz), ?_⟩
        refine wpAnyP_done (by kernel_rfl) ?_ _
        skip
        clear hSw
        go_wp2_with fail
        go_roundg (ts.length - (k + 1))
        case measure => omega
        case rel => exact ⟨k + 1, by omega, rfl, rfl, HC3.out.trans (by first | exact Chg.refl _ _ | exact (Chg.refl _ _).drew | exact (Chg.refl _ _).drewN _)⟩
      · obtain rfl : k = ts.length := by omega
        go_wp2_with fail
        go_ret
        exact ⟨rfl, HC.out⟩
end Go.Proofs.Ytkmjpphmciaklaa
namespace Go.Proofs.Ytkmjpphmciaklaa
open Go.RowKit
set_option linter.unusedVariables false
set_option linter.unusedSimpArgs false
attribute [local go_sem ↓] Go.wp_at_zero Go.wp_at_succ

set_option maxRecDepth 100000 in
set_option maxHeartbeats 4000000 in
theorem told45 (w : World) (B qe : Nat) (F : List Nat) (E : End) (q p : Nat) (vw va : Value) (rq : Nat) (v : Value) (h : EndOf w B qe F E) (k : REAt w B q p vw va rq v E) (ha : (E.s.air.length : Int) ≤ E.s.s) (hm : E.s.s ≤ E.s.mo) :
    Calls Try.prog 45 #[.pointer (some ⟨qe, 0, none⟩), .pointer (some ⟨q, 0, none⟩)] w fun e w' => e = .returned (.bool true) ∧ Chg [] w w' := by
  have H := Lib.hid h
  have K := Lib.hid k
  have C1 := Lib.hid (end_air w B qe F E h)
  clear h k
  go_enter Try.func45, Try.ntmps45
  go_wp2_with fail
  refine C1.out.mono ?_
  rintro e w1 ⟨rfl, hc1⟩
  have C2 := Lib.hid (end_waiting w1 B qe F E (H.out.keep hc1))
  have HC1 := Lib.hid hc1
  clear hc1 C1
  go_wp2_with fail
  refine C2.out.mono ?_
  rintro e w2 ⟨rfl, hc2⟩
  have C3 := Lib.hid (end_lost w2 B qe F E ((H.out.keep HC1.out).keep hc2))
  have HC2 := Lib.hid (HC1.out.trans hc2)
  clear hc2 C2
  go_wp2_with fail
  refine C3.out.mono ?_
  rintro e w3 ⟨rfl, hc3⟩
  have HC3 := Lib.hid (HC2.out.trans hc3)
  clear hc3 C3
  have hK := K.out.keep HC3.out
  obtain ⟨d0, d1, d2, d3, d4, _⟩ := hK.str.five
  obtain ⟨l, hS, hl⟩ := hK.snd
  obtain ⟨r, hR, hrr⟩ := hK.rcv
  obtain ⟨A1, n1, rfl, _⟩ := hS.wait.form
  obtain ⟨A2, n2, rfl, _⟩ := hS.air.form
  obtain ⟨A3, n3, hv3⟩ := hR.2.1.slice
  have e1 : (ones (E.s.at l).wait).length = E.s.wait.length := by rw [ones_len]; exact hl.len
  have e2 : (fl (E.s.at l).air).length = E.s.air.length := by rw [fl_len]; rfl
  have e3 : (pk r.l).length = E.r.l.length := by rw [pk_len, hrr.2.1.len]
  rw [e3] at hv3
  obtain ⟨x0, x1, x2, x3, x4, x5, x6, x7, x8⟩ := hS.str.nine
  rw [e1] at x1
  rw [e2] at x2
  obtain ⟨y0, y1, y2, y3, _⟩ := hR.1.four
  rw [hv3] at y1
  rw [hrr.2.2.2] at y3
  simp only [Snd.at] at x3 x5 x8
  clear hK hS hl hR hrr e1 e2 e3 x0 x4 x6 x7 y0 y2 d0 d3 d4
  go_wp2_with fail
  go_ret
  exact ⟨rfl, HC3.out⟩
end Go.Proofs.Ytkmjpphmciaklaa
namespace Go.Proofs.Ytkmjpphmciaklaa
open Go.RowKit
set_option linter.unusedVariables false
set_option linter.unusedSimpArgs false
attribute [local go_sem ↓] Go.wp_at_zero Go.wp_at_succ

section
variable {w w' : World} {B qe q : Nat} {F G : List Nat} {E E' E1 : End}
theorem REOf.kinds (h : REOf w B q G E) : ∀ b ∈ G, b < w.heap.size ∧ NoB w b ∧ (IsT w b 31 → B ≤ b) := by
  obtain ⟨p, vw, va, rq, v, rfl, h⟩ := h
  intro b hb
  have no : ∀ {T : Nat}, IsT w b T → T ≠ 31 → IsT w b 31 → B ≤ b := fun hT hn h31 => (hT.ne h31 hn rfl).elim
  have h31 : v.ownBlock = some b → B ≤ b := fun hv => by
    obtain ⟨r, h1, _⟩ := h.rcv
    exact (h1.2.1.lt b hv).1
  rcases h.kind b hb with k | k | k | k | k | k
  · exact ⟨k.lt, k.noB (by decide), no k (by decide)⟩
  · exact ⟨k.lt, k.noB (by decide), no k (by decide)⟩
  · refine ⟨k.lt, k.noB (by decide), fun _ => ?_⟩
    rw [mem_reF] at hb
    rcases hb with h1 | h1 | h1 | h1 | h1 | h1
    · rw [h1]; exact h.hq
    · rw [h1]; exact h.hr
    · exact h31 h1
    · rw [h1]; exact h.hp
    · have hz := h.snd.kind b (by simp [rsF, h1])
      obtain ⟨l, hs, _⟩ := h.snd
      exact ((hs.wait.lt b h1).2.ne k (by decide) rfl).elim
    · obtain ⟨l, hs, _⟩ := h.snd
      exact ((hs.air.lt b h1).2.ne k (by decide) rfl).elim
  · exact ⟨k.lt, k.noB (by decide), no k (by decide)⟩
  · exact ⟨k.lt, k.noB (by decide), no k (by decide)⟩
  · exact ⟨k.lt, k.noB (by decide), no k (by decide)⟩
theorem REOf.chg {L : List Nat} (h : REOf w B q G E) (c : Chg L w w') (hL : ∀ b ∈ L, b ∉ G) (hB : ∀ b ∈ L, B ≤ b) : REOf w' B q G E := by
  obtain ⟨p, vw, va, rq, v, rfl, h⟩ := h
  exact ⟨p, vw, va, rq, v, rfl, h.chg c hL hB⟩
/-- The end and the reference's end; what the one writes the other doesn't read. -/
structure Both2 (w : World) (B qe q : Nat) (F G : List Nat) (E E' : End) : Prop where
  e : EndOf w B qe F E
  r : REOf w B q G E'
  sep : ∀ b ∈ F, b ∉ G
  gB : ∀ b ∈ G, B ≤ b
  low : B ≤ w.heap.size
/-- The end has been called. -/
theorem Both2.end_to (h : Both2 w B qe q F G E E') (m : Moved B qe F E1 w w') : ∃ F', Both2 w' B qe q F' G E1 E' ∧ Chg F w w' ∧ Below B w w' := by
  obtain ⟨F', k1, k2, k3⟩ := m
  have hFB : ∀ b ∈ F, B ≤ b := fun b hb => (h.e.kind b hb).1
  refine ⟨F', ⟨k1, h.r.chg k2 h.sep hFB, fun b hb hm => ?_, h.gB, Nat.le_trans h.low k2.size⟩, k2, k2.below h.low hFB⟩
  rcases k3 b hb with hb | hb
  · exact h.sep b hb hm
  · have := (h.r.kinds b hm).1
    omega
/-- The reference's end has been called. -/
theorem Both2.re_to (h : Both2 w B qe q F G E E') (m : MovedRE B q G E1 w w') : ∃ G', Both2 w' B qe q F G' E E1 ∧ Chg G w w' ∧ Below B w w' := by
  obtain ⟨G', k1, k2, k3⟩ := m
  have he : EndOf w' B qe F E := h.e.chg k2 (fun b hb hm => h.sep b hm hb) (fun b hb => (h.r.kinds b hb).2.1)
  refine ⟨G', ⟨he, k1, fun b hb hm => ?_, fun b hb => ?_, Nat.le_trans h.low k2.size⟩, k2, k2.below h.low h.gB⟩
  · rcases k3 b hm with k | k | k
    · exact h.sep b hb k
    · have := (h.e.kind b hb).2.1
      omega
    · exact (he.kind b hb).2.2.2.1 k
  · rcases k3 b hb with k | k | k
    · exact h.gB b k
    · exact Nat.le_trans h.low k
    · exact (k1.kinds b hb).2.2 k
end
theorem EInv.tick0 {k : Nat} {now : Int} {E : End} (h : EInv k now E) (hk : k ≤ 10000) (hn0 : 0 ≤ now) (hn1 : now ≤ 1000000) : EInv (k + 1) now ((E.ticked now).1.tells now).1 := by
  obtain ⟨f1, f2, f3, f4⟩ := (E.ticked now).1.tells_f now
  have h4 := h.lost
  have hl := Snd.late_ok h.s now (by omega)
  have h1 := h.rs1
  have h2 := h.rt1
  have h3 := h.si1
  have h5 := h.si0
  have hps := tick_since (r := E.r) (now := now) h.rs0 (by omega)
  have htw := Rcv.tick_twice (r := E.r) (now := now)
  refine EInv.fields (E := E) hl.1 (Rcv.tick_ok (now := now) h.r) (Rcv.tick_len (now := now) h.rl) hps.1 (by first | exact hps.2 | (have := hps.2; omega)) (by rw [htw]; exact h.rt0) (by rw [htw]; push_cast; omega) ?_ ?_ (by push_cast; have := hl.2; omega) (late_airs h.s h.airs now) (by omega) hn1 f1 f2
  · rw [f3]
    show 0 ≤ (if decide (0 < (E.r.tick now).2.length) && !E.owes then now else E.since)
    split <;> omega
  · rw [f3]
    show (if decide (0 < (E.r.tick now).2.length) && !E.owes then now else E.since) ≤ now
    split <;> omega
end Go.Proofs.Ytkmjpphmciaklaa
namespace Go.Proofs.Ytkmjpphmciaklaa
open Go.RowKit
set_option linter.unusedVariables false
set_option linter.unusedSimpArgs false

theorem pumpF_all {α : Type} {D : α → Prop} (s now : Int) : ∀ (l : List α) (nx : Int) (air : List (Int × Int)), (∀ v ∈ l, D v) → (∀ p ∈ (pumpF s now nx air l).1, D p.2) ∧ ∀ v ∈ (pumpF s now nx air l).2.2.2, D v
  | [], nx, air, h => ⟨fun p hp => by simp [pumpF] at hp, fun v hv => by simp [pumpF] at hv⟩
  | v :: l, nx, air, h => by
    by_cases hs : (air.length : Int) < s
    · rw [pumpF_go hs]
      have ih := pumpF_all (D := D) s now l ((nx + 1) % 4294967296) (air ++ [(nx, now)]) (fun u hu => h u (by simp [hu]))
      refine ⟨fun p hp => ?_, ih.2⟩
      rcases List.mem_cons.1 hp with rfl | hp
      · exact h v (by simp)
      · exact ih.1 p hp
    · rw [pumpF_full hs]
      exact ⟨fun p hp => (by cases hp), h⟩
/-- What waits on either side is short. -/
def Small (E : End) : Prop := (∀ v ∈ E.s.wait, v.length ≤ 2000) ∧ ∀ p ∈ E.r.l, p.2.length ≤ 2000
theorem paidN_s (E : End) (i : Nat) : (E.paidN i).s = E.s ∧ (E.paidN i).r = E.r := by
  have h := E.paid_r
  unfold End.paidN
  split
  · exact ⟨rfl, rfl⟩
  · exact ⟨h.2.2.1, h.1⟩
theorem tun_d (E : End) (p : Int × List Int) : (E.tun p).d = p.2 := by
  unfold End.tun End.ack
  split <;> rfl
theorem Small.pumped {E : End} (h : Small E) (now : Int) : Small (E.pumped now).1 ∧ ∀ t ∈ (E.pumped now).2, t.d.length ≤ 2000 := by
  have hp := pumpF_all (D := fun v : List Int => v.length ≤ 2000) E.s.s now E.s.wait E.s.nx E.s.air h.1
  have hk := paidN_s { E with s := (E.s.pump now).1 } (E.s.pump now).2.length
  refine ⟨⟨?_, ?_⟩, fun t ht => ?_⟩
  · show ∀ v ∈ (End.paidN { E with s := (E.s.pump now).1 } (E.s.pump now).2.length).s.wait, v.length ≤ 2000
    rw [hk.1]
    exact hp.2
  · show ∀ p ∈ (End.paidN { E with s := (E.s.pump now).1 } (E.s.pump now).2.length).r.l, p.2.length ≤ 2000
    rw [hk.2]
    exact h.2
  · simp only [End.pumped, List.mem_map] at ht
    obtain ⟨p, hpm, rfl⟩ := ht
    rw [tun_d]
    exact hp.1 p hpm
theorem Small.took {E : End} (h : Small E) (now : Int) (hs : Bool) (seq : Int) (ha : Bool) (ak : Int) (d : List Int) (hd : d.length ≤ 2000) : Small (E.took now hs seq ha ak d).1 ∧ ∀ p ∈ (E.took now hs seq ha ak d).2, p.2.length ≤ 2000 := by
  have hw : ∀ v ∈ (if ha then (E.s.ack now ak).1 else E.s).wait, v.length ≤ 2000 := by
    cases ha with
    | false => exact h.1
    | true =>
      have e : (E.s.ack now ak).1.wait = E.s.wait := by unfold Snd.ack; split <;> rfl
      show ∀ v ∈ (E.s.ack now ak).1.wait, v.length ≤ 2000
      rw [e]; exact h.1
  have hr := Rcv.put_all (D := fun v : List Int => v.length ≤ 2000) (r := E.r) (now := now) (seq := seq) (d := d) h.2 hd
  unfold End.took
  cases hs with
  | false => exact ⟨⟨hw, h.2⟩, fun p hp => by cases hp⟩
  | true => exact ⟨⟨hw, hr.2⟩, hr.1⟩
theorem Small.ticked {E : End} (h : Small E) (now : Int) : Small (E.ticked now).1 ∧ ∀ p ∈ (E.ticked now).2, p.2.length ≤ 2000 := by
  have e : (E.s.late now).1.wait = E.s.wait := by
    unfold Snd.late
    split
    · rfl
    · split <;> rfl
  have hr := Rcv.tick_all (D := fun v : List Int => v.length ≤ 2000) (r := E.r) (now := now) h.2
  refine ⟨⟨?_, hr.2⟩, hr.1⟩
  show ∀ v ∈ (E.s.late now).1.wait, v.length ≤ 2000
  rw [e]; exact h.1
theorem Small.tells {E : End} (h : Small E) (now : Int) : Small (E.tells now).1 ∧ ∀ t ∈ (E.tells now).2, t.d.length ≤ 2000 := by
  have hp := h.pumped now
  unfold End.tells
  split
  · refine ⟨?_, fun t ht => ?_⟩
    · have hk := (E.pumped now).1.paid_r
      refine ⟨?_, ?_⟩
      · rw [hk.2.2.1]; exact hp.1.1
      · rw [hk.1]; exact hp.1.2
    · rcases List.mem_append.1 ht with ht | ht
      · exact hp.2 t ht
      · simp only [List.mem_singleton] at ht
        subst ht
        unfold End.ack
        split <;> simp
  · exact hp
theorem Small.send {E : End} (h : Small E) (now : Int) (d : List Int) (hd : d.length ≤ 2000) : Small (E.send now d).1 ∧ ∀ t ∈ (E.send now d).2.1, t.d.length ≤ 2000 := by
  unfold End.send
  split
  · exact ⟨h, fun t ht => by cases ht⟩
  · have hs : Small { E with s := E.s.push d } := by
      refine ⟨?_, h.2⟩
      show ∀ v ∈ (E.s.push d).wait, v.length ≤ 2000
      unfold Snd.push
      split
      · intro v hv
        rcases List.mem_append.1 hv with hv | hv
        · exact h.1 v hv
        · simp at hv; subst hv; exact hd
      · exact h.1
    exact hs.pumped now
end Go.Proofs.Ytkmjpphmciaklaa
