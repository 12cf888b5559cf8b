/- Two ends: a packet arrives (the walk). -/
import Derived.Test.YtkmjpphmciaklaaJ29
namespace Go.Proofs.Ytkmjpphmciaklaa
open Go.RowKit
set_option linter.unusedVariables false
set_option linter.unusedSimpArgs false
attribute [local go_sem ↓] Go.wp_at_zero Go.wp_at_succ

theorem RelV.erase {α β : Type} {R : α → β → Prop} : ∀ {l : List α} {m : List β} (k : Nat), RelV R l m → RelV R (l.eraseIdx k) (m.eraseIdx k)
  | [], [], _, _ => trivial
  | _ :: _, _ :: _, 0, hr => hr.2
  | _ :: _, _ :: _, k + 1, hr => ⟨hr.1, RelV.erase k hr.2⟩
  | [], _ :: _, _, hr => hr.elim
  | _ :: _, [], _, hr => hr.elim
theorem RowT.form {R : Value → List Int → Prop} {w : World} {B : Nat} {v : Value} {P : List (Tun (List Int))} (h : RowT R w B v P) (hp : 0 < P.length) : ∃ g cap, v = .slice (some ⟨g, 0, none⟩) P.length cap ∧ P.length ≤ cap ∧ g < w.heap.size := by
  obtain ⟨l, h1, h2⟩ := h
  obtain ⟨g, cap, he, _, hg, hc, _⟩ := h1.form (by intro e; have := congrArg List.length e; rw [List.length_map, h2.len] at this; simp at this; rw [this] at hp; simp at hp)
  rw [List.length_map, h2.len] at he hc
  exact ⟨g, cap, he, hc, hg⟩
theorem rowT_del {w w0 : World} {B g k cap o2 : Nat} {P : List (Tun (List Int))} (h : RowT (Bytes w) w B (.slice (some ⟨g, 0, none⟩) P.length cap) P) (hk : k < P.length) (hl : P.length ≤ 100000) (hcap : P.length ≤ cap) (hB : B ≤ w.heap.size)
    (hw : w0 = (w.alloc (.cells #[] 138)).drew) (ho : cap ≠ k + 1 → o2 = (k + 1) * 6) :
    ∃ v1 w1 v2 w2, (Builtin.append_ #[78, 78] 78 #[.slice (some ⟨w.heap.size, 0, none⟩) 0 0, .slice (some ⟨g, 0, none⟩) k cap]).run Try.prog w0 = .ok v1 w1 ∧ (Builtin.append_ #[78, 78] 78 #[v1, .slice (some ⟨g, o2, none⟩) (P.length - (k + 1)) (cap - (k + 1))]).run Try.prog w1 = .ok v2 w2 ∧
      RowT (Bytes w2) w2 B v2 (P.eraseIdx k) ∧ (∀ b, v2.ownBlock = some b → w.heap.size ≤ b) ∧ Chg [] w w1 ∧ Chg [] w w2 := by
  obtain ⟨l, h1, h2⟩ := h
  have hln : (l.map tunC).length = P.length := by rw [List.length_map, h2.len]
  subst hw
  have hw0 : Chg [] w (w.alloc (.cells #[] 138)).drew := ((Chg.refl _ _).alloc _).drew
  have he0 : Own 138 6 (w.alloc (.cells #[] 138)).drew w.heap.size (.slice (some ⟨w.heap.size, 0, none⟩) 0 0) [] := ⟨Flat.nil _, World.ownsRow_made w #[] 0 (Nat.le_refl _) (by decide) rfl⟩
  obtain ⟨v1, wb, v2, w2, a1, a2, hown2, hcb, hc2⟩ := own_del elem138 78 (wa := w) (k := k) (cap := cap) (g := g) (o2 := o2) (xs := l.map tunC) (base := B) (by rw [hln]; exact h1) (by rw [hln]; exact hk) (by rw [hln]; exact hl) (by rw [hln]; exact hcap) hw0 he0 ho
  rw [hln] at a2
  rw [← map_erase] at hown2
  exact ⟨v1, wb, v2, w2, a1, a2, ⟨_, hown2.mono hB, (h2.mono (TunIs.mono (fun _ _ hb => hb.chg hc2 (by simp)))).erase k⟩, fun b hb => (hown2.lt b hb).1, hcb, hc2⟩

def noTun : Tun (List Int) := ⟨0, false, 0, false, 0, []⟩
def Pair.taken (P : Pair) (f t k : Nat) : End × List (Int × List Int) := (P.e t).took P.now ((P.way f).getD k noTun).hs ((P.way f).getD k noTun).seq ((P.way f).getD k noTun).ha ((P.way f).getD k noTun).ack ((P.way f).getD k noTun).d
def Pair.left (P : Pair) (f k : Nat) (stays : Bool) : Pair := if stays then P else { P with way := upd P.way f ((P.way f).eraseIdx k) }
def Pair.arrived (P : Pair) (f t k : Nat) (stays : Bool) : Pair :=
  { P with e := upd P.e t ((P.taken f t k).1.pumped P.now).1, way := upd (P.left f k stays).way t ((P.left f k stays).way t ++ ((P.taken f t k).1.pumped P.now).2) }
/-- What holds of a pair in a law's course. -/
structure Pair.Ok (P : Pair) : Prop where
  e : ∀ i, i < 2 → (P.e i).Ok ∧ (P.e i).s.lost ≤ 900000000
  way : ∀ i, i < 2 → (P.way i).length ≤ 50000 ∧ ∀ x ∈ P.way i, 0 ≤ x.seq ∧ x.seq < 4294967296 ∧ x.d.length ≤ 100
  now : P.now ≤ 1000000
  sent : ∀ i, i < 2 → P.sent i ≤ 10000
/-- Behind a call of the pair. -/
def PairPost (B pp : Nat) (P' : Pair) (w : World) (e : Ending) (w' : World) : Prop := e = .returned (.bool true) ∧ (∃ q F wv, PairAt w' B pp q F wv P') ∧ Below B w w'
theorem PairAt.low {w : World} {B pp : Nat} {q : Nat → Nat} {F : Nat → List Nat} {wv : Nat → Value} {P : Pair} (h : PairAt w B pp q F wv P) : (∀ i, i < 2 → ∀ b ∈ F i, B ≤ b) ∧ (∀ i, i < 2 → ∀ b ∈ (wv i).ownBlock.toList, B ≤ b) :=
  ⟨fun i hi b hb => ((h.e i hi).kind b hb).1, fun i hi b hb => ((h.way i hi).lt b (by simpa using hb)).1⟩

set_option maxRecDepth 100000 in
set_option maxHeartbeats 4000000 in
theorem arrive_0 (w : World) (B pp nn lo m : Nat) (q : Nat → Nat) (F : Nat → List Nat) (wv : Nat → Value) (P : Pair) (stays : Bool) (h : PairAt w B pp q F wv P) (ok : P.Ok) (hB : B ≤ w.heap.size) (hn : nn ≤ 9223372036854775807)
    (hds : P.way 0 ≠ [] → (P.taken 0 1 (nn % (P.way 0).length)).2.map (·.2) = says 0 lo m ∧ P.got 1 ≤ lo ∧ lo + m ≤ P.sent 0) :
    Calls Try.prog 71 #[.pointer (some ⟨pp, 0, none⟩), .int .i64 0, .int .i64 (nn : Int), .bool stays] w
      (PairPost B pp (if P.way 0 = [] then P else { P.arrived 0 1 (nn % (P.way 0).length) stays with got := upd P.got 1 (gotTo (P.got 1) lo m) }) w) := by
  have H := Lib.hid h
  have OK := Lib.hid ok
  obtain ⟨n0, n1, n2, n3, n4, n5, n6, n7, n8⟩ := h.str.nine
  have hnow := ok.now
  clear n6 n7 n4 n5
  by_cases hemp : P.way 0 = []
  · rw [if_pos hemp]
    obtain ⟨a, c, hv⟩ := (h.way 0 (by decide)).slice
    rw [hv, hemp] at n2
    simp only [List.length_nil] at n2
    have HF : Hid (PairPost B pp P w (.returned (.bool true)) w) := Lib.hid ⟨rfl, ⟨q, F, wv, h⟩, Below.refl _ _⟩
    clear h ok hds hv
    go_enter Try.func71, Try.ntmps71
    go_wp2_with fail
    go_ret
    exact HF.out
  · rw [if_neg hemp]
    have hlen : 0 < (P.way 0).length := List.length_pos_iff.2 hemp
    obtain ⟨g, cap, hv, hcap, hgl⟩ := (h.way 0 (by decide)).form hlen
    rw [hv] at n2
    obtain ⟨wl, hwl⟩ := ok.way 0 (by decide)
    obtain ⟨L, hL⟩ : ∃ L, L = (P.way 0).length := ⟨_, rfl⟩
    rw [← hL] at n2 hlen hcap wl
    obtain ⟨k, hk⟩ : ∃ k, k = nn % L := ⟨_, rfl⟩
    have hkL : k < L := by rw [hk]; exact Nat.mod_lt _ hlen
    rw [← hL, ← hk]
    have hds2 := hds hemp
    rw [← hL, ← hk] at hds2
    have hL0 : ((L : Nat) : Int) ≠ 0 := by omega
    have hLb : (((L : Nat) : Int) == 0) = false := beq_eq_false_iff_ne.2 hL0
    have HK : Hid ((nn : Int) % (L : Int) = (k : Int)) := Lib.hid (by rw [hk]; push_cast; rfl)
    have HK2 : Hid (Int.tmod (nn : Int) (L : Int) = (k : Int)) := Lib.hid (by rw [Int.tmod_eq_emod_of_nonneg (by omega), hk]; push_cast; rfl)
    have HV := Lib.hid (And.intro hL hv)
    have HD := Lib.hid hds2
    clear h ok hds hds2 hv hL hk
    have hnn0 : (0 : Int) ≤ (nn : Int) := by omega
    have hnn1 : (nn : Int) ≤ 9223372036854775807 := by omega
    go_enter Try.func71, Try.ntmps71
    go_upto_region 4 with (fail)
    rw [HK.out]
    obtain ⟨x, hx⟩ : ∃ x, x = (P.way 0).getD k noTun := ⟨_, rfl⟩
    have hxk : (P.way 0)[k]? = some x := by
      rw [hx, List.getD_eq_getElem?_getD, List.getElem?_eq_getElem (by rw [← HV.out.1]; exact hkL)]; rfl
    have hrow : RowT (Bytes w) w B (.slice (some ⟨g, 0, none⟩) L cap) (P.way 0) := by
      have h := H.out.way 0 (by decide)
      rw [HV.out.2, ← HV.out.1] at h; exact h
    obtain ⟨g', A, dm, dc, hg', _, b0, b1, b2, b3, b4, b5, hb⟩ := hrow.at hxk
    simp only [Option.some.injEq, Addr.mk.injEq] at hg'
    obtain ⟨rfl, -, -⟩ := hg'
    obtain ⟨xs0, xs1, xdl⟩ := hwl x (List.mem_of_getElem? hxk)
    obtain ⟨_, _, hdv⟩ := hb.wide.slice'
    simp only [Value.slice.injEq] at hdv
    obtain ⟨-, rfl, -⟩ := hdv
    have HB := Lib.hid hb
    have HX := Lib.hid hx
    have HR := Lib.hid hrow
    have hk0 : (0 : Int) ≤ (k : Int) := by omega
    have hk1 : (k : Int) < (L : Int) := by omega
    clear hx hxk hrow hb hwl HK HK2
    go_upto_region 5 with (fail)
    obtain ⟨wx, hwx⟩ : ∃ wx, wx = w.alloc (.cells #[.int .u16 x.call, .bool x.hs, .int .u32 x.seq, .bool x.ha, .int .u32 x.ack, .slice A x.d.length dc] 138) := ⟨_, rfl⟩
    have hcx : Chg [] w wx := by rw [hwx]; exact (Chg.refl _ _).alloc _
    have hAx : At wx w.heap.size 138 [.int .u16 x.call, .bool x.hs, .int .u32 x.seq, .bool x.ha, .int .u32 x.ack, .slice A x.d.length dc] := by rw [hwx]; exact At.new w 138 [_, _, _, _, _, _]
    rw [← hwx]
    have hPx := H.out.keep hcx
    have hRx := HR.out.keep hcx
    have hBx := HB.out.chg hcx (by simp)
    have hlox := hPx.low
    obtain ⟨gb, hgb⟩ : ∃ gb, gb = w.heap.size := ⟨_, rfl⟩
    have hgbB : B ≤ gb := by omega
    rw [← hgb] at hAx ⊢
    have HP := Lib.hid hPx
    have HA := Lib.hid hAx
    have HRX := Lib.hid hRx
    have HBX := Lib.hid hBx
    have HC := Lib.hid hcx
    obtain ⟨n0, n1, n2, n3, n4, n5, n6, n7, n8⟩ := hPx.str.nine
    rw [HV.out.2, ← HV.out.1] at n2
    have hwxs : B ≤ wx.heap.size := Nat.le_trans hB hcx.size
    have hppl : pp < wx.heap.size := hPx.str.lt
    have hf2 : wx.frozen? ⟨pp, 2, none⟩ = false := hPx.str.frozen _
    clear n4 n5 n6 n7 hPx hAx hRx hBx hcx hwx hgb hlox b0 b1 b2 b3 b4 b5
    go_upto_if 40 with (fail)
    go_cut [] (fun wq => ∃ wv', PairAt wq B pp q F wv' (P.left 0 k stays) ∧ At wq gb 138 [.int .u16 x.call, .bool x.hs, .int .u32 x.seq, .bool x.ha, .int .u32 x.ack, .slice A x.d.length dc] ∧ Bytes wq (.slice A x.d.length dc) x.d ∧ Chg [pp] wx wq)
    case first =>
      cases stays with
      | true =>
        go_wp2_with fail
        go_meet
        exact ⟨wv, HP.out, HA.out, HBX.out, Chg.refl _ _⟩
      | false =>
        obtain ⟨k3, hk3⟩ : ∃ k3, k3 = k + 1 := ⟨_, rfl⟩
        have hwrap : IntKind.i64.wrap ((k : Nat) + 1 : Int) = ((k3 : Nat) : Int) := by rw [IntKind.wrap_i64]; omega
        obtain ⟨o2, ho2⟩ : ∃ o2, o2 = if cap = k3 then 0 else k3 * 6 := ⟨_, rfl⟩
        have hif : (if cap = k3 then some (⟨g, 0, none⟩ : Addr) else some ⟨g, k3 * 6, none⟩) = some ⟨g, o2, none⟩ := by rw [ho2]; split <;> rfl
        have hRX := HRX.out
        rw [HV.out.1] at hRX
        obtain ⟨v1, wb, v2, w2, happ1, happ2, hr2, hob, hcb, hc2⟩ := rowT_del (k := k) (o2 := o2) hRX (by rw [← HV.out.1]; exact hkL) (by rw [← HV.out.1]; omega) (by rw [← HV.out.1]; exact hcap) hwxs rfl (fun hne => by rw [ho2, if_neg (by omega), hk3])
        rw [← HV.out.1, ← hk3] at happ2
        have hfin := HP.out.way_to (f := 0) (by decide) (hc2.mono (by simp)) hr2 (fun b hb => .inr (hob b hb))
        have hcs : Chg [pp] wx (w2.setCell ⟨pp, 2, none⟩ v2) := (hc2.mono (by simp)).set (by simp) _
        have hAs := HA.out.chg hcs (by
          simp
          rintro rfl
          exact HA.out.isT.ne HP.out.str.isT (by decide) rfl)
        have hBs := HBX.out.chg hcs (by simpa using HP.out.str.noB (by decide))
        have hst2 := HP.out.str.chg hc2 (by simp)
        have hcell : wx.cell? ⟨pp, 2, none⟩ = some (.slice (some ⟨g, 0, none⟩) L cap) := n2
        have k0 : w2.cell? ⟨pp, 2, none⟩ = some (.slice (some ⟨g, 0, none⟩) L cap) := (hc2.cell (p := ⟨pp, 2, none⟩) hppl (by simp)).trans hcell
        have k1 : w2.frozen? ⟨pp, 2, none⟩ = false := hst2.frozen _
        have HKB := Lib.hid ((hcb.cell (p := ⟨pp, 2, none⟩) hppl (by simp)).trans hcell)
        obtain ⟨v2a, v2c, hv2⟩ := hr2.slice
        obtain ⟨v2n, hv2n⟩ : ∃ v2n, v2n = ((P.way 0).eraseIdx k).length := ⟨_, rfl⟩
        rw [← hv2n] at hv2
        subst hv2
        have HA1 := Lib.hid happ1
        have HA2 := Lib.hid happ2
        have HF := Lib.hid hfin
        have HCS := Lib.hid hcs
        have HAS := Lib.hid hAs
        have HBS := Lib.hid hBs
        have hic : k ≤ cap := by omega
        have hk3l : k3 ≤ L := by omega
        clear hr2 hob hcb hc2 hfin hcs hAs hBs hst2 happ1 happ2 hv2n ho2 hk3 hRX
        go_wp2_with fail
        refine wp_region_phase 25 (fun w' => w'.cell? ⟨pp, 2, none⟩ = some (.slice (some ⟨g, 0, none⟩) L cap)) (by kernel_rfl) ?_
        refine wpAnyP_with (by exact hcell) (fun hSw => ?_)
        refine wpAnyP_take 0 [] (v := ?_) rfl (by kernel_rfl) (fun _ _ _ h => h) (by assumption) (Or.inl ⟨by rfl, ?_⟩) ?_
        rotate_left
        · (intro w hSw; (try dsimp only at hSw); go_simp; try with_reducible rfl)
        simp only [List.getElem_toArray, List.getElem_cons_succ, List.getElem_cons_zero, Act.put, List.setIfInBounds_toArray, List.set_cons_zero, List.set_cons_succ]
        refine wpAnyP_take 1 [] (v := ?_) rfl (by kernel_rfl) (fun _ _ _ h => h) (by assumption) (Or.inl ⟨by rfl, ?_⟩) ?_
        rotate_left
        · (intro w hSw; (try dsimp only at hSw); go_simp; try with_reducible rfl)
        simp only [List.getElem_toArray, List.getElem_cons_succ, List.getElem_cons_zero, Act.put, List.setIfInBounds_toArray, List.set_cons_zero, List.set_cons_succ]
        refine wpAnyP_take 3 [] (v := ?_) rfl (by kernel_rfl) (fun _ _ _ h => h) (by assumption) (Or.inl ⟨by rfl, ?_⟩) ?_
        rotate_left
        · (intro w hSw; (try dsimp only at hSw); go_simp; try with_reducible rfl)
        simp only [List.getElem_toArray, List.getElem_cons_succ, List.getElem_cons_zero, Act.put, List.setIfInBounds_toArray, List.set_cons_zero, List.set_cons_succ]
        refine wpAnyP_take 4 [] (v := ?_) rfl (by kernel_rfl) (fun _ _ _ h => h) (by assumption) (Or.inl ⟨by rfl, ?_⟩) ?_
        rotate_left
        · (intro w hSw; (try dsimp only at hSw); go_simp; try with_reducible rfl)
        simp only [List.getElem_toArray, List.getElem_cons_succ, List.getElem_cons_zero, Act.put, List.setIfInBounds_toArray, List.set_cons_zero, List.set_cons_succ]
        refine wpAnyP_take 5 [] (v := ?_) rfl (by kernel_rfl) (fun _ _ _ h => h) (by assumption) (Or.inl ⟨by rfl, ?_⟩) ?_
        rotate_left
        · (intro w hSw; (try dsimp only at hSw); go_simp; try with_reducible rfl)
        simp only [List.getElem_toArray, List.getElem_cons_succ, List.getElem_cons_zero, Act.put, List.setIfInBounds_toArray, List.set_cons_zero, List.set_cons_succ]
        refine wpAnyP_take 6 [] (v := ?_) rfl (by kernel_rfl) (fun _ _ _ h => h) (by assumption) (Or.inl ⟨by rfl, ?_⟩) ?_
        rotate_left
        · (intro w hSw; (try dsimp only at hSw); go_simp; try with_reducible rfl)
        simp only [List.getElem_toArray, List.getElem_cons_succ, List.getElem_cons_zero, Act.put, List.setIfInBounds_toArray, List.set_cons_zero, List.set_cons_succ]
        refine wpAnyP_take 7 [] (v := ?_) rfl (by kernel_rfl) (fun _ _ _ h => h) (by assumption) (Or.inl ⟨by rfl, ?_⟩) ?_
        rotate_left
        · (intro w hSw; (try dsimp only at hSw); go_simp; try with_reducible rfl)
        simp only [List.getElem_toArray, List.getElem_cons_succ, List.getElem_cons_zero, Act.put, List.setIfInBounds_toArray, List.set_cons_zero, List.set_cons_succ]
        refine wpAnyP_take 8 [] (v := ?_) rfl (by kernel_rfl) (fun _ _ _ h => h) (by assumption) (Or.inl ⟨by rfl, ?_⟩) ?_
        rotate_left
        · (intro w hSw; (try dsimp only at hSw); go_simp; try with_reducible rfl)
        simp only [List.getElem_toArray, List.getElem_cons_succ, List.getElem_cons_zero, Act.put, List.setIfInBounds_toArray, List.set_cons_zero, List.set_cons_succ]
        refine wpAnyP_take 9 [] (v := ?_) rfl (by kernel_rfl) (fun _ _ _ h => h) (by assumption) (Or.inl ⟨by rfl, ?_⟩) ?_
        rotate_left
        · (intro w hSw; (try dsimp only at hSw); go_simp; try with_reducible rfl)
        simp only [List.getElem_toArray, List.getElem_cons_succ, List.getElem_cons_zero, Act.put, List.setIfInBounds_toArray, List.set_cons_zero, List.set_cons_succ]
        refine wpAnyP_take 10 [] (v := ?_) rfl (by kernel_rfl) (fun _ _ _ h => h) (by assumption) (Or.inl ⟨by rfl, ?_⟩) ?_
        rotate_left
        · (intro w hSw; (try dsimp only at hSw); go_simp; try with_reducible rfl)
        simp only [List.getElem_toArray, List.getElem_cons_succ, List.getElem_cons_zero, Act.put, List.setIfInBounds_toArray, List.set_cons_zero, List.set_cons_succ]
        refine wpAnyP_take 12 [] (v := ?_) rfl (by kernel_rfl) (fun _ _ _ h => h) (by assumption) (Or.inl ⟨by rfl, ?_⟩) ?_
        rotate_left
        · (intro w hSw; (try dsimp only at hSw); go_simp; try with_reducible rfl)
        simp only [List.getElem_toArray, List.getElem_cons_succ, List.getElem_cons_zero, Act.put, List.setIfInBounds_toArray, List.set_cons_zero, List.set_cons_succ]
        refine wpAnyP_take 13 [] (v := ?_) rfl (by kernel_rfl) (fun _ _ _ h => h) (by assumption) (Or.inl ⟨by rfl, ?_⟩) ?_
        rotate_left
        · (intro w hSw; (try dsimp only at hSw); go_simp; try with_reducible rfl)
        simp only [List.getElem_toArray, List.getElem_cons_succ, List.getElem_cons_zero, Act.put, List.setIfInBounds_toArray, List.set_cons_zero, List.set_cons_succ]
        refine wpAnyP_take 14 [] (v := ?_) rfl (by kernel_rfl) (fun _ _ _ h => h) (by assumption) (Or.inl ⟨by rfl, ?_⟩) ?_
        rotate_left
        · (intro w hSw; (try dsimp only at hSw); go_simp; try with_reducible rfl)
        simp only [List.getElem_toArray, List.getElem_cons_succ, List.getElem_cons_zero, Act.put, List.setIfInBounds_toArray, List.set_cons_zero, List.set_cons_succ]
        refine wpAnyP_take 15 [] (v := ?_) rfl (by kernel_rfl) (fun _ _ _ h => h) (by assumption) (Or.inl ⟨by rfl, ?_⟩) ?_
        rotate_left
        · (intro w hSw; (try dsimp only at hSw); go_simp; try with_reducible rfl)
        simp only [List.getElem_toArray, List.getElem_cons_succ, List.getElem_cons_zero, Act.put, List.setIfInBounds_toArray, List.set_cons_zero, List.set_cons_succ]
        refine wpAnyP_take 16 [] (v := ?_) rfl (by kernel_rfl) (fun _ _ _ h => h) (by assumption) (Or.inl ⟨by rfl, ?_⟩) ?_
        rotate_left
        · (intro w hSw; (try dsimp only at hSw); go_simp; try with_reducible rfl)
        simp only [List.getElem_toArray, List.getElem_cons_succ, List.getElem_cons_zero, Act.put, List.setIfInBounds_toArray, List.set_cons_zero, List.set_cons_succ]
        refine wpAnyP_take 17 [] (v := ?_) rfl (by kernel_rfl) (fun _ _ _ h => h) (by assumption) (Or.inl ⟨by rfl, ?_⟩) ?_
        rotate_left
        · (intro w hSw; (try dsimp only at hSw); go_simp; try with_reducible rfl)
        simp only [List.getElem_toArray, List.getElem_cons_succ, List.getElem_cons_zero, Act.put, List.setIfInBounds_toArray, List.set_cons_zero, List.set_cons_succ]
        refine wpAnyP_take 18 [] (v := ?_) rfl (by kernel_rfl) (fun _ _ _ h => h) (by assumption) (Or.inl ⟨by rfl, ?_⟩) ?_
        rotate_left
        · (intro w hSw; (try dsimp only at hSw); go_simp; try with_reducible rfl)
        simp only [List.getElem_toArray, List.getElem_cons_succ, List.getElem_cons_zero, Act.put, List.setIfInBounds_toArray, List.set_cons_zero, List.set_cons_succ]
        refine wpAnyP_take 19 [] (v := ?_) rfl (by kernel_rfl) (fun _ _ _ h => h) (by assumption) (Or.inl ⟨by rfl, ?_⟩) ?_
        rotate_left
        · (intro w hSw; (try dsimp only at hSw); go_simp; try with_reducible rfl)
        simp only [List.getElem_toArray, List.getElem_cons_succ, List.getElem_cons_zero, Act.put, List.setIfInBounds_toArray, List.set_cons_zero, List.set_cons_succ]
        refine wpAnyP_take 20 [] (v := ?_) rfl (by kernel_rfl) (fun _ _ _ h => h) (by assumption) (Or.inl ⟨by rfl, ?_⟩) ?_
        rotate_left
        · (intro w hSw; (try dsimp only at hSw); go_simp; try with_reducible rfl)
        simp only [List.getElem_toArray, List.getElem_cons_succ, List.getElem_cons_zero, Act.put, List.setIfInBounds_toArray, List.set_cons_zero, List.set_cons_succ]
        refine wpAnyP_take 22 [24, 23] (v := ?_) rfl (by kernel_rfl) (fun _ _ _ h => h) (by assumption) (Or.inl ⟨by rfl, ?_⟩) ?_
        rotate_left
        · (intro w hSw; (try dsimp only at hSw); go_simp; try with_reducible rfl)
        simp only [List.getElem_toArray, List.getElem_cons_succ, List.getElem_cons_zero, Act.put, List.setIfInBounds_toArray, List.set_cons_zero, List.set_cons_succ]
        refine wpAnyP_take 23 [24] (v := ?_) rfl (by kernel_rfl) (fun _ _ _ h => h) (by assumption) (Or.inl ⟨by rfl, ?_⟩) ?_
        rotate_left
        · (intro w hSw; (try dsimp only at hSw); go_simp; try with_reducible rfl)
        simp only [List.getElem_toArray, List.getElem_cons_succ, List.getElem_cons_zero, Act.put, List.setIfInBounds_toArray, List.set_cons_zero, List.set_cons_succ]
        refine wpAnyP_one 2 rfl (by kernel_rfl) (fun K hK => ?_)
        rw [if_pos (by rfl)]
        go_wp2_with (fail)
        refine hold_with (by (try dsimp only at hSw); exact (((Chg.refl [] wx).alloc _).drew.cell (p := ⟨pp, 2, none⟩) hppl (by simp)).trans hcell) (fun hSn => ?_)
        clear hSw; have hSw := hSn; clear hSn
        refine wpAnyP_one 11 rfl (by kernel_rfl) (fun K hK => ?_)
        rw [if_pos (by rfl)]
        simp only [List.getElem_toArray, List.getElem_cons_succ, List.getElem_cons_zero, Act.put, List.setIfInBounds_toArray, List.set_cons_zero, List.set_cons_succ]
        (refine wp_app_eq _ _ 78 rfl rfl rfl HA1.out ?_; go_wp2_with (fail))
        refine hold_with (by (try dsimp only at hSw); exact HKB.out) (fun hSn => ?_)
        clear hSw; have hSw := hSn; clear hSn
        refine wpAnyP_one 21 rfl (by kernel_rfl) (fun K hK => ?_)
        rw [if_pos (by rfl)]
        simp only [List.getElem_toArray, List.getElem_cons_succ, List.getElem_cons_zero, Act.put, List.setIfInBounds_toArray, List.set_cons_zero, List.set_cons_succ]
        (refine wp_app_eq _ _ 78 rfl rfl rfl HA2.out ?_; go_wp2_with (fail))
        refine hold_with (by (try dsimp only at hSw); exact k0) (fun hSn => ?_)
        clear hSw; have hSw := hSn; clear hSn
        refine wpAnyP_take 24 [] (v := ?_) rfl (by kernel_rfl) (fun _ _ _ h => h) (by assumption) (Or.inl ⟨by rfl, ?_⟩) ?_
        rotate_left
        · (intro w hSw; (try dsimp only at hSw); go_simp; try with_reducible rfl)
        simp only [List.getElem_toArray, List.getElem_cons_succ, List.getElem_cons_zero, Act.put, List.setIfInBounds_toArray, List.set_cons_zero, List.set_cons_succ]
        refine wpAnyP_one 25 rfl (by kernel_rfl) (fun K hK => ?_)
        rw [if_pos (by rfl)]
        go_wp2_with (fail)
        refine ⟨fun hz => (by simp at hz), ?_⟩
        refine wpAnyP_done (by kernel_rfl) ?_ _
        skip
        clear hSw HA1 HA2 HKB hwrap hif k0 k1
        go_wp2_with fail
        go_meet
        exact ⟨_, HF.out, HAS.out, HBS.out, HCS.out⟩
    case rest =>
      obtain ⟨wv1, hP1, hA1, hB1, hc1⟩ := hcut
      obtain ⟨w1, hw1⟩ : ∃ z, z = wc := ⟨_, rfl⟩
      subst hw1
      obtain ⟨P1, hPe⟩ : ∃ P1, P1 = P.left 0 k stays := ⟨_, rfl⟩
      rw [← hPe] at hP1
      have hsame : P1.e = P.e ∧ P1.sent = P.sent ∧ P1.got = P.got ∧ P1.now = P.now := by rw [hPe]; cases stays <;> exact ⟨rfl, rfl, rfl, rfl⟩
      have hbl1 : Below B w w1 := (HC.out.below hB (by simp)).trans (hc1.below hwxs (by intro b hb; simp at hb; subst hb; exact HP.out.hp))
      have hB1s : B ≤ w1.heap.size := Nat.le_trans hwxs hc1.size
      have hPd := hP1.keep (Chg.refl [] w1).drew
      have CT := Lib.hid (take_end w1.drew B (q 1) (F 1) (P1.e 1) (P1.now : Int) x.call x.hs x.seq x.ha x.ack A dc x.d (hPd.e 1 (by decide)) (by rw [hsame.1]; exact (OK.out.e 1 (by decide)).1) hB1s ((hB1.chg (Chg.refl [] w1).drew (by simp)).off (fun b hb => ((hPd.e 1 (by decide)).kind b hb).2.2.1)) (by omega) (by omega) (by rw [hsame.2.2.2]; omega) xs0 xs1)
      obtain ⟨m0, m1, m2, m3, m4, m5, m6, m7, m8⟩ := hPd.str.nine
      have HPD := Lib.hid hPd
      have HA1 := Lib.hid hA1
      have HPE := Lib.hid hPe
      have HSM := Lib.hid hsame
      have HBL := Lib.hid hbl1
      have htk : Hid ((P1.e 1).took P1.now x.hs x.seq x.ha x.ack x.d = P.taken 0 1 k) := Lib.hid (by unfold Pair.taken; rw [← HX.out, hsame.1, hsame.2.2.2])
      have hadr : At w1.drew gb 138 [.int .u16 x.call, .bool x.hs, .int .u32 x.seq, .bool x.ha, .int .u32 x.ack, .slice A x.d.length dc] := hA1.drew
      have hwr1 : IntKind.i64.wrap 1 = 1 := by rfl
      have hwr0 : IntKind.i64.wrap 0 = 0 := by rfl
      clear hP1 hA1 hB1 hc1 hPd hPe hsame hbl1 n0 n1 n2 n3 n8 hf2
      go_wp2_with fail
      refine wp_region_phase 17 (fun w' => w'.cell? ⟨pp, 1, none⟩ = some (.pointer (some ⟨q 1, 0, none⟩)) ∧ w'.cell? ⟨pp, 8, none⟩ = some (.int .i64 P1.now) ∧ At w' gb 138 [.int .u16 x.call, .bool x.hs, .int .u32 x.seq, .bool x.ha, .int .u32 x.ack, .slice A x.d.length dc]) (by kernel_rfl) ?_
      refine wpAnyP_with (by exact ⟨m1, m8, hadr⟩) (fun hSw => ?_)
      refine wpAnyP_take 0 [] (v := ?_) rfl (by kernel_rfl) (fun _ _ _ h => h) (by assumption) (Or.inl ⟨by rfl, ?_⟩) ?_
      rotate_left
      · (intro w hSw; (try dsimp only at hSw); obtain ⟨s0, s1, s2⟩ := hSw; obtain ⟨y0, y1, y2, y3, y4, y5, _⟩ := s2.six; go_simp; try with_reducible rfl)
      simp only [List.getElem_toArray, List.getElem_cons_succ, List.getElem_cons_zero, Act.put, List.setIfInBounds_toArray, List.set_cons_zero, List.set_cons_succ]
      refine wpAnyP_take 1 [] (v := ?_) rfl (by kernel_rfl) (fun _ _ _ h => h) (by assumption) (Or.inl ⟨by rfl, ?_⟩) ?_
      rotate_left
      · (intro w hSw; (try dsimp only at hSw); obtain ⟨s0, s1, s2⟩ := hSw; obtain ⟨y0, y1, y2, y3, y4, y5, _⟩ := s2.six; go_simp; try with_reducible rfl)
      simp only [List.getElem_toArray, List.getElem_cons_succ, List.getElem_cons_zero, Act.put, List.setIfInBounds_toArray, List.set_cons_zero, List.set_cons_succ]
      refine wpAnyP_take 2 [] (v := ?_) rfl (by kernel_rfl) (fun _ _ _ h => h) (by assumption) (Or.inl ⟨by rfl, ?_⟩) ?_
      rotate_left
      · (intro w hSw; (try dsimp only at hSw); obtain ⟨s0, s1, s2⟩ := hSw; obtain ⟨y0, y1, y2, y3, y4, y5, _⟩ := s2.six; go_simp; try with_reducible rfl)
      simp only [List.getElem_toArray, List.getElem_cons_succ, List.getElem_cons_zero, Act.put, List.setIfInBounds_toArray, List.set_cons_zero, List.set_cons_succ]
      refine wpAnyP_take 3 [] (v := ?_) rfl (by kernel_rfl) (fun _ _ _ h => h) (by assumption) (Or.inl ⟨by rfl, ?_⟩) ?_
      rotate_left
      · (intro w hSw; (try dsimp only at hSw); obtain ⟨s0, s1, s2⟩ := hSw; obtain ⟨y0, y1, y2, y3, y4, y5, _⟩ := s2.six; go_simp; try with_reducible rfl)
      simp only [List.getElem_toArray, List.getElem_cons_succ, List.getElem_cons_zero, Act.put, List.setIfInBounds_toArray, List.set_cons_zero, List.set_cons_succ]
      refine wpAnyP_take 4 [] (v := ?_) rfl (by kernel_rfl) (fun _ _ _ h => h) (by assumption) (Or.inl ⟨by rfl, ?_⟩) ?_
      rotate_left
      · (intro w hSw; (try dsimp only at hSw); obtain ⟨s0, s1, s2⟩ := hSw; obtain ⟨y0, y1, y2, y3, y4, y5, _⟩ := s2.six; go_simp; try with_reducible rfl)
      simp only [List.getElem_toArray, List.getElem_cons_succ, List.getElem_cons_zero, Act.put, List.setIfInBounds_toArray, List.set_cons_zero, List.set_cons_succ]
      refine wpAnyP_take 5 [] (v := ?_) rfl (by kernel_rfl) (fun _ _ _ h => h) (by assumption) (Or.inl ⟨by rfl, ?_⟩) ?_
      rotate_left
      · (intro w hSw; (try dsimp only at hSw); obtain ⟨s0, s1, s2⟩ := hSw; obtain ⟨y0, y1, y2, y3, y4, y5, _⟩ := s2.six; go_simp; try with_reducible rfl)
      simp only [List.getElem_toArray, List.getElem_cons_succ, List.getElem_cons_zero, Act.put, List.setIfInBounds_toArray, List.set_cons_zero, List.set_cons_succ]
      refine wpAnyP_take 6 [] (v := ?_) rfl (by kernel_rfl) (fun _ _ _ h => h) (by assumption) (Or.inl ⟨by rfl, ?_⟩) ?_
      rotate_left
      · (intro w hSw; (try dsimp only at hSw); obtain ⟨s0, s1, s2⟩ := hSw; obtain ⟨y0, y1, y2, y3, y4, y5, _⟩ := s2.six; go_simp; try with_reducible rfl)
      simp only [List.getElem_toArray, List.getElem_cons_succ, List.getElem_cons_zero, Act.put, List.setIfInBounds_toArray, List.set_cons_zero, List.set_cons_succ]
      refine wpAnyP_take 7 [] (v := ?_) rfl (by kernel_rfl) (fun _ _ _ h => h) (by assumption) (Or.inl ⟨by rfl, ?_⟩) ?_
      rotate_left
      · (intro w hSw; (try dsimp only at hSw); obtain ⟨s0, s1, s2⟩ := hSw; obtain ⟨y0, y1, y2, y3, y4, y5, _⟩ := s2.six; go_simp; try with_reducible rfl)
      simp only [List.getElem_toArray, List.getElem_cons_succ, List.getElem_cons_zero, Act.put, List.setIfInBounds_toArray, List.set_cons_zero, List.set_cons_succ]
      refine wpAnyP_take 8 [] (v := ?_) rfl (by kernel_rfl) (fun _ _ _ h => h) (by assumption) (Or.inl ⟨by rfl, ?_⟩) ?_
      rotate_left
      · (intro w hSw; (try dsimp only at hSw); obtain ⟨s0, s1, s2⟩ := hSw; obtain ⟨y0, y1, y2, y3, y4, y5, _⟩ := s2.six; go_simp; try with_reducible rfl)
      simp only [List.getElem_toArray, List.getElem_cons_succ, List.getElem_cons_zero, Act.put, List.setIfInBounds_toArray, List.set_cons_zero, List.set_cons_succ]
      refine wpAnyP_take 9 [] (v := ?_) rfl (by kernel_rfl) (fun _ _ _ h => h) (by assumption) (Or.inl ⟨by rfl, ?_⟩) ?_
      rotate_left
      · (intro w hSw; (try dsimp only at hSw); obtain ⟨s0, s1, s2⟩ := hSw; obtain ⟨y0, y1, y2, y3, y4, y5, _⟩ := s2.six; go_simp; try with_reducible rfl)
      simp only [List.getElem_toArray, List.getElem_cons_succ, List.getElem_cons_zero, Act.put, List.setIfInBounds_toArray, List.set_cons_zero, List.set_cons_succ]
      refine wpAnyP_take 10 [] (v := ?_) rfl (by kernel_rfl) (fun _ _ _ h => h) (by assumption) (Or.inl ⟨by rfl, ?_⟩) ?_
      rotate_left
      · (intro w hSw; (try dsimp only at hSw); obtain ⟨s0, s1, s2⟩ := hSw; obtain ⟨y0, y1, y2, y3, y4, y5, _⟩ := s2.six; go_simp; try with_reducible rfl)
      simp only [List.getElem_toArray, List.getElem_cons_succ, List.getElem_cons_zero, Act.put, List.setIfInBounds_toArray, List.set_cons_zero, List.set_cons_succ]
      refine wpAnyP_take 11 [] (v := ?_) rfl (by kernel_rfl) (fun _ _ _ h => h) (by assumption) (Or.inl ⟨by rfl, ?_⟩) ?_
      rotate_left
      · (intro w hSw; (try dsimp only at hSw); obtain ⟨s0, s1, s2⟩ := hSw; obtain ⟨y0, y1, y2, y3, y4, y5, _⟩ := s2.six; go_simp; try with_reducible rfl)
      simp only [List.getElem_toArray, List.getElem_cons_succ, List.getElem_cons_zero, Act.put, List.setIfInBounds_toArray, List.set_cons_zero, List.set_cons_succ]
      refine wpAnyP_one 12 rfl (by kernel_rfl) (fun K hK => ?_)
      rw [if_pos (by rfl)]
      go_wp2_with ((refine CT.out.mono ?_; rintro e w3 ⟨o1, o2, rfl, hrow, hT, hd12, ho1, hmv⟩; obtain ⟨F3, hP3, hc3⟩ := HPD.out.end_to (t := 1) (by decide) hmv; have hbl3 := hc3.below hB1s (HPD.out.low.1 1 (by decide)); have z12 : w3.cell? ⟨pp, 1, none⟩ = some (.pointer (some ⟨q 1, 0, none⟩)) ∧ w3.cell? ⟨pp, 8, none⟩ = some (.int .i64 P1.now) ∧ At w3 gb 138 [.int .u16 x.call, .bool x.hs, .int .u32 x.seq, .bool x.ha, .int .u32 x.ack, .slice A x.d.length dc] := ⟨hP3.str.cell 1, hP3.str.cell 8, hadr.chg hc3 (fun hm => ((HPD.out.e 1 (by decide)).kind _ hm).2.2.2.2.1 hadr.isT)⟩; have HP3 := Lib.hid hP3; have HT := Lib.hid hT; have HROW := Lib.hid hrow; have HBL3 := Lib.hid hbl3; have hs3 := hc3.size; clear hrow hT hd12 ho1 hmv hP3 hc3 hbl3))
      refine hold_with (by (try dsimp only at hSw); exact z12) (fun hSn => ?_)
      clear hSw; have hSw := hSn; clear hSn
      refine wpAnyP_take 13 [] (v := ?_) rfl (by kernel_rfl) (fun _ _ _ h => h) (by assumption) (Or.inl ⟨by rfl, ?_⟩) ?_
      rotate_left
      · (intro w hSw; (try dsimp only at hSw); obtain ⟨s0, s1, s2⟩ := hSw; obtain ⟨y0, y1, y2, y3, y4, y5, _⟩ := s2.six; go_simp; try with_reducible rfl)
      simp only [List.getElem_toArray, List.getElem_cons_succ, List.getElem_cons_zero, Act.put, List.setIfInBounds_toArray, List.set_cons_zero, List.set_cons_succ]
      refine wpAnyP_take 14 [] (v := ?_) rfl (by kernel_rfl) (fun _ _ _ h => h) (by assumption) (Or.inl ⟨by rfl, ?_⟩) ?_
      rotate_left
      · (intro w hSw; (try dsimp only at hSw); obtain ⟨s0, s1, s2⟩ := hSw; obtain ⟨y0, y1, y2, y3, y4, y5, _⟩ := s2.six; go_simp; try with_reducible rfl)
      simp only [List.getElem_toArray, List.getElem_cons_succ, List.getElem_cons_zero, Act.put, List.setIfInBounds_toArray, List.set_cons_zero, List.set_cons_succ]
      refine wpAnyP_take 15 [] (v := ?_) rfl (by kernel_rfl) (fun _ _ _ h => h) (by assumption) (Or.inl ⟨by rfl, ?_⟩) ?_
      rotate_left
      · (intro w hSw; (try dsimp only at hSw); obtain ⟨s0, s1, s2⟩ := hSw; obtain ⟨y0, y1, y2, y3, y4, y5, _⟩ := s2.six; go_simp; try with_reducible rfl)
      simp only [List.getElem_toArray, List.getElem_cons_succ, List.getElem_cons_zero, Act.put, List.setIfInBounds_toArray, List.set_cons_zero, List.set_cons_succ]
      refine wpAnyP_one 16 rfl (by kernel_rfl) (fun K hK => ?_)
      rw [if_pos (by rfl)]
      go_wp2_with (fail)
      refine hold_with (by (try dsimp only at hSw); exact hSw) (fun hSn => ?_)
      clear hSw; have hSw := hSn; clear hSn
      refine wpAnyP_one 17 rfl (by kernel_rfl) (fun K hK => ?_)
      rw [if_pos (by rfl)]
      go_wp2_with (fail)
      refine ⟨fun hz => (by simp at hz), ?_⟩
      refine wpAnyP_done (by kernel_rfl) ?_ _
      skip
      clear hSw z12 m0 m1 m2 m3 m4 m5 m6 m7 m8 hadr CT
      rw [htk.out] at HP3 HT HROW
      have hP3d := HP3.out.keep (Chg.refl [] w3).drew
      obtain ⟨ta, tc, hto⟩ := HT.out.slice
      subst hto
      obtain ⟨va, vc, hvv⟩ := (HP3.out.way 1 (by decide)).slice
      have hwayl : (P1.way 1).length ≤ 50000 := by
        rw [HPE.out]
        unfold Pair.left
        split
        · exact (OK.out.way 1 (by decide)).1
        · show (upd P.way 0 ((P.way 0).eraseIdx k) 1).length ≤ 50000
          rw [upd_ne _ (by decide)]; exact (OK.out.way 1 (by decide)).1
      have htsl : ((P.taken 0 1 k).1.pumped P1.now).2.length ≤ 16 := by
        have h1 : ((P.taken 0 1 k).1).s.Ok := by
          unfold Pair.taken End.took
          split <;> (simp only; split <;> first | exact (OK.out.e 1 (by decide)).1.s | exact Snd.ack_ok (OK.out.e 1 (by decide)).1.s _ _)
        have h2 := Snd.pump_len h1 P1.now
        unfold End.pumped
        simpa using h2
      have hrowT : RowT (Bytes w3.drew) w3.drew B (wv1 1) (P1.way 1) := hP3d.way 1 (by decide)
      obtain ⟨v4, w4, happ, hr4, hc4, hob4⟩ := rowT_app hrowT (HT.out.keep (Chg.refl [] w3).drew) (Nat.le_trans hB1s hs3) (by omega)
      have hP5 := hP3d.way_to (f := 1) (by decide) hc4 hr4 hob4
      have hbl4 := hc4.below (Nat.le_trans hB1s hs3) (hP3d.low.2 1 (by decide))
      have hbl5 : Below B w4 (w4.setCell ⟨pp, 3, none⟩ v4) := ((Chg.refl [pp] w4).set (by simp) _).below (Nat.le_trans (Nat.le_trans hB1s hs3) hc4.size) (by intro b hb; simp at hb; subst hb; exact HP.out.hp)
      have hst4 := hP3d.str.chg hc4 (fun hm => (hrowT.isT (by simpa using hm)).ne hP3d.str.isT (by decide) rfl)
      have hrow5 : RowS (Bytes (w4.setCell ⟨pp, 3, none⟩ v4)) (w4.setCell ⟨pp, 3, none⟩ v4) w1.drew.heap.size o1 ((P.taken 0 1 k).2.map (·.2)) := by
        have h3 : RowS (Bytes w3.drew) w3.drew w1.drew.heap.size o1 ((P.taken 0 1 k).2.map (·.2)) := HROW.out.chg (Chg.refl [] w3).drew (by simp) (fun u d hd => hd.chg (Chg.refl [] w3).drew (by simp))
        have ht : ∀ b ∈ (wv1 1).ownBlock.toList, IsT w3.drew b 138 := fun b hb => hrowT.isT (by simpa using hb)
        have h4 : RowS (Bytes w4) w4 w1.drew.heap.size o1 ((P.taken 0 1 k).2.map (·.2)) := h3.chg hc4 (fun b hb e => (h3.isT e).ne (ht b hb) (by decide) rfl) (fun u d hd => hd.chg hc4 (fun b hb => (ht b hb).noB (by decide)))
        exact h4.chg (F := [pp]) ((Chg.refl [pp] w4).set (by simp) _) (fun b hb e => by simp at hb; subst hb; exact (h4.isT e).ne hst4.isT (by decide) rfl) (fun u d hd => hd.chg (F := [pp]) ((Chg.refl [pp] w4).set (by simp) _) (by simpa using hst4.noB (by decide)))
      rw [HD.out.1] at hrow5
      have CH := Lib.hid (hand_1 _ B pp _ q _ _ _ o1 lo m hP5 hrow5 (by show P1.got 1 ≤ lo; rw [HSM.out.2.2.1]; exact HD.out.2.1) (by show lo + m ≤ P1.sent 0; rw [HSM.out.2.1]; exact HD.out.2.2) (by show P1.sent 0 ≤ 10000; rw [HSM.out.2.1]; exact OK.out.sent 0 (by decide)))
      have hcell3 : w3.drew.cell? ⟨pp, 3, none⟩ = some (.slice va (P1.way 1).length vc) := by
        have h := hP3d.str.cell 3
        rw [h]
        show some (wv1 1) = _
        rw [hvv]
      have hcell4 : w4.cell? ⟨pp, 3, none⟩ = some (.slice va (P1.way 1).length vc) := by
        have h := hst4.cell 3
        rw [h]
        show some (wv1 1) = _
        rw [hvv]
      have hfr4 : w4.frozen? ⟨pp, 3, none⟩ = false := hst4.frozen _
      obtain ⟨va4, vc4, hv4⟩ := hr4.slice
      obtain ⟨n4, hn4⟩ : ∃ n4, n4 = (P1.way 1 ++ ((P.taken 0 1 k).1.pumped P1.now).2).length := ⟨_, rfl⟩
      rw [← hn4] at hv4
      subst hv4
      rw [hvv] at happ
      obtain ⟨s5, hs5⟩ : ∃ s5, s5 = w4.setCell ⟨pp, 3, none⟩ (.slice va4 n4 vc4) := ⟨_, rfl⟩
      have HS5 := Lib.hid hs5
      rw [← hs5] at CH hbl5
      have HAP := Lib.hid happ
      have HBL4 := Lib.hid hbl4
      have HBL5 := Lib.hid hbl5
      have HB5 : Hid (B ≤ s5.heap.size) := Lib.hid (by rw [hs5]; simp [World.setCell]; exact Nat.le_trans (Nat.le_trans hB1s hs3) hc4.size)
      clear hP3d hvv hwayl htsl hrowT happ hr4 hc4 hob4 hP5 hbl4 hbl5 hst4 hrow5 hs5 hn4
      go_upto_region 8 with (fail)
      refine wp_region_phase 15 (fun w' => w'.cell? ⟨pp, 3, none⟩ = some (.slice va (P1.way 1).length vc)) (by kernel_rfl) ?_
      refine wpAnyP_with (by exact hcell3) (fun hSw => ?_)
      refine wpAnyP_take 0 [] (v := ?_) rfl (by kernel_rfl) (fun _ _ _ h => h) (by assumption) (Or.inl ⟨by rfl, ?_⟩) ?_
      rotate_left
      · (intro w hSw; (try dsimp only at hSw); go_simp; try with_reducible rfl)
      simp only [List.getElem_toArray, List.getElem_cons_succ, List.getElem_cons_zero, Act.put, List.setIfInBounds_toArray, List.set_cons_zero, List.set_cons_succ]
      refine wpAnyP_take 1 [] (v := ?_) rfl (by kernel_rfl) (fun _ _ _ h => h) (by assumption) (Or.inl ⟨by rfl, ?_⟩) ?_
      rotate_left
      · (intro w hSw; (try dsimp only at hSw); go_simp; try with_reducible rfl)
      simp only [List.getElem_toArray, List.getElem_cons_succ, List.getElem_cons_zero, Act.put, List.setIfInBounds_toArray, List.set_cons_zero, List.set_cons_succ]
      refine wpAnyP_take 2 [] (v := ?_) rfl (by kernel_rfl) (fun _ _ _ h => h) (by assumption) (Or.inl ⟨by rfl, ?_⟩) ?_
      rotate_left
      · (intro w hSw; (try dsimp only at hSw); go_simp; try with_reducible rfl)
      simp only [List.getElem_toArray, List.getElem_cons_succ, List.getElem_cons_zero, Act.put, List.setIfInBounds_toArray, List.set_cons_zero, List.set_cons_succ]
      refine wpAnyP_take 3 [] (v := ?_) rfl (by kernel_rfl) (fun _ _ _ h => h) (by assumption) (Or.inl ⟨by rfl, ?_⟩) ?_
      rotate_left
      · (intro w hSw; (try dsimp only at hSw); go_simp; try with_reducible rfl)
      simp only [List.getElem_toArray, List.getElem_cons_succ, List.getElem_cons_zero, Act.put, List.setIfInBounds_toArray, List.set_cons_zero, List.set_cons_succ]
      refine wpAnyP_take 4 [] (v := ?_) rfl (by kernel_rfl) (fun _ _ _ h => h) (by assumption) (Or.inl ⟨by rfl, ?_⟩) ?_
      rotate_left
      · (intro w hSw; (try dsimp only at hSw); go_simp; try with_reducible rfl)
      simp only [List.getElem_toArray, List.getElem_cons_succ, List.getElem_cons_zero, Act.put, List.setIfInBounds_toArray, List.set_cons_zero, List.set_cons_succ]
      refine wpAnyP_take 5 [] (v := ?_) rfl (by kernel_rfl) (fun _ _ _ h => h) (by assumption) (Or.inl ⟨by rfl, ?_⟩) ?_
      rotate_left
      · (intro w hSw; (try dsimp only at hSw); go_simp; try with_reducible rfl)
      simp only [List.getElem_toArray, List.getElem_cons_succ, List.getElem_cons_zero, Act.put, List.setIfInBounds_toArray, List.set_cons_zero, List.set_cons_succ]
      refine wpAnyP_take 6 [] (v := ?_) rfl (by kernel_rfl) (fun _ _ _ h => h) (by assumption) (Or.inl ⟨by rfl, ?_⟩) ?_
      rotate_left
      · (intro w hSw; (try dsimp only at hSw); go_simp; try with_reducible rfl)
      simp only [List.getElem_toArray, List.getElem_cons_succ, List.getElem_cons_zero, Act.put, List.setIfInBounds_toArray, List.set_cons_zero, List.set_cons_succ]
      refine wpAnyP_take 7 [] (v := ?_) rfl (by kernel_rfl) (fun _ _ _ h => h) (by assumption) (Or.inl ⟨by rfl, ?_⟩) ?_
      rotate_left
      · (intro w hSw; (try dsimp only at hSw); go_simp; try with_reducible rfl)
      simp only [List.getElem_toArray, List.getElem_cons_succ, List.getElem_cons_zero, Act.put, List.setIfInBounds_toArray, List.set_cons_zero, List.set_cons_succ]
      refine wpAnyP_take 8 [] (v := ?_) rfl (by kernel_rfl) (fun _ _ _ h => h) (by assumption) (Or.inl ⟨by rfl, ?_⟩) ?_
      rotate_left
      · (intro w hSw; (try dsimp only at hSw); go_simp; try with_reducible rfl)
      simp only [List.getElem_toArray, List.getElem_cons_succ, List.getElem_cons_zero, Act.put, List.setIfInBounds_toArray, List.set_cons_zero, List.set_cons_succ]
      refine wpAnyP_take 9 [] (v := ?_) rfl (by kernel_rfl) (fun _ _ _ h => h) (by assumption) (Or.inl ⟨by rfl, ?_⟩) ?_
      rotate_left
      · (intro w hSw; (try dsimp only at hSw); go_simp; try with_reducible rfl)
      simp only [List.getElem_toArray, List.getElem_cons_succ, List.getElem_cons_zero, Act.put, List.setIfInBounds_toArray, List.set_cons_zero, List.set_cons_succ]
      refine wpAnyP_take 10 [] (v := ?_) rfl (by kernel_rfl) (fun _ _ _ h => h) (by assumption) (Or.inl ⟨by rfl, ?_⟩) ?_
      rotate_left
      · (intro w hSw; (try dsimp only at hSw); go_simp; try with_reducible rfl)
      simp only [List.getElem_toArray, List.getElem_cons_succ, List.getElem_cons_zero, Act.put, List.setIfInBounds_toArray, List.set_cons_zero, List.set_cons_succ]
      refine wpAnyP_take 12 [14, 13] (v := ?_) rfl (by kernel_rfl) (fun _ _ _ h => h) (by assumption) (Or.inl ⟨by rfl, ?_⟩) ?_
      rotate_left
      · (intro w hSw; (try dsimp only at hSw); go_simp; try with_reducible rfl)
      simp only [List.getElem_toArray, List.getElem_cons_succ, List.getElem_cons_zero, Act.put, List.setIfInBounds_toArray, List.set_cons_zero, List.set_cons_succ]
      refine wpAnyP_take 13 [14] (v := ?_) rfl (by kernel_rfl) (fun _ _ _ h => h) (by assumption) (Or.inl ⟨by rfl, ?_⟩) ?_
      rotate_left
      · (intro w hSw; (try dsimp only at hSw); go_simp; try with_reducible rfl)
      simp only [List.getElem_toArray, List.getElem_cons_succ, List.getElem_cons_zero, Act.put, List.setIfInBounds_toArray, List.set_cons_zero, List.set_cons_succ]
      refine wpAnyP_one 11 rfl (by kernel_rfl) (fun K hK => ?_)
      rw [if_pos (by rfl)]
      simp only [List.getElem_toArray, List.getElem_cons_succ, List.getElem_cons_zero, Act.put, List.setIfInBounds_toArray, List.set_cons_zero, List.set_cons_succ]
      (refine wp_app_eq _ _ 78 rfl rfl rfl HAP.out ?_; go_wp2_with (fail))
      refine hold_with (by (try dsimp only at hSw); exact hcell4) (fun hSn => ?_)
      clear hSw; have hSw := hSn; clear hSn
      refine wpAnyP_take 14 [] (v := ?_) rfl (by kernel_rfl) (fun _ _ _ h => h) (by assumption) (Or.inl ⟨by rfl, ?_⟩) ?_
      rotate_left
      · (intro w hSw; (try dsimp only at hSw); go_simp; try with_reducible rfl)
      simp only [List.getElem_toArray, List.getElem_cons_succ, List.getElem_cons_zero, Act.put, List.setIfInBounds_toArray, List.set_cons_zero, List.set_cons_succ]
      refine wpAnyP_one 15 rfl (by kernel_rfl) (fun K hK => ?_)
      rw [if_pos (by rfl)]
      go_wp2_with (fail)
      refine ⟨fun hz => (by simp at hz), ?_⟩
      refine wpAnyP_done (by kernel_rfl) ?_ _
      skip
      clear hSw hcell3 hcell4 hfr4 HAP
      rw [← HS5.out]
      go_wp2_with fail
      refine CH.out.mono ?_
      rintro e w6 ⟨rfl, hP6, hc6⟩
      have hbl6 := hc6.below HB5.out (by intro b hb; simp at hb; subst hb; exact HP.out.hp)
      have hfin : PairPost B pp { P.arrived 0 1 k stays with got := upd P.got 1 (gotTo (P.got 1) lo m) } w (.returned (.bool true)) w6 := by
        refine ⟨rfl, ?_, ((((HBL.out.trans ((Chg.refl [] w1).drew.below hB1s (by simp))).trans HBL3.out).trans ((Chg.refl [] w3).drew.below (Nat.le_trans hB1s hs3) (by simp))).trans (HBL4.out.trans HBL5.out)).trans hbl6⟩
        have e : { P.arrived 0 1 k stays with got := upd P.got 1 (gotTo (P.got 1) lo m) } = { P1 with e := upd P1.e 1 ((P.taken 0 1 k).1.pumped P1.now).1, way := upd P1.way 1 (P1.way 1 ++ ((P.taken 0 1 k).1.pumped P1.now).2), got := upd P1.got 1 (gotTo (P1.got 1) lo m) } := by
          unfold Pair.arrived
          rw [HSM.out.1, HSM.out.2.1, HSM.out.2.2.1, HSM.out.2.2.2, HPE.out]
        rw [e]
        exact ⟨_, _, _, hP6⟩
      have HF := Lib.hid hfin
      clear hP6 hc6 hbl6 hfin CH
      go_wp2_with fail
      go_ret
      exact HF.out
set_option maxRecDepth 100000 in
set_option maxHeartbeats 4000000 in
theorem arrive_1 (w : World) (B pp nn lo m : Nat) (q : Nat → Nat) (F : Nat → List Nat) (wv : Nat → Value) (P : Pair) (stays : Bool) (h : PairAt w B pp q F wv P) (ok : P.Ok) (hB : B ≤ w.heap.size) (hn : nn ≤ 9223372036854775807)
    (hds : P.way 1 ≠ [] → (P.taken 1 0 (nn % (P.way 1).length)).2.map (·.2) = says 1 lo m ∧ P.got 0 ≤ lo ∧ lo + m ≤ P.sent 1) :
    Calls Try.prog 71 #[.pointer (some ⟨pp, 0, none⟩), .int .i64 1, .int .i64 (nn : Int), .bool stays] w
      (PairPost B pp (if P.way 1 = [] then P else { P.arrived 1 0 (nn % (P.way 1).length) stays with got := upd P.got 0 (gotTo (P.got 0) lo m) }) w) := by
  have H := Lib.hid h
  have OK := Lib.hid ok
  obtain ⟨n0, n1, n2, n3, n4, n5, n6, n7, n8⟩ := h.str.nine
  have hnow := ok.now
  clear n6 n7 n4 n5
  by_cases hemp : P.way 1 = []
  · rw [if_pos hemp]
    obtain ⟨a, c, hv⟩ := (h.way 1 (by decide)).slice
    rw [hv, hemp] at n3
    simp only [List.length_nil] at n3
    have HF : Hid (PairPost B pp P w (.returned (.bool true)) w) := Lib.hid ⟨rfl, ⟨q, F, wv, h⟩, Below.refl _ _⟩
    clear h ok hds hv
    go_enter Try.func71, Try.ntmps71
    go_wp2_with fail
    go_ret
    exact HF.out
  · rw [if_neg hemp]
    have hlen : 0 < (P.way 1).length := List.length_pos_iff.2 hemp
    obtain ⟨g, cap, hv, hcap, hgl⟩ := (h.way 1 (by decide)).form hlen
    rw [hv] at n3
    obtain ⟨wl, hwl⟩ := ok.way 1 (by decide)
    obtain ⟨L, hL⟩ : ∃ L, L = (P.way 1).length := ⟨_, rfl⟩
    rw [← hL] at n3 hlen hcap wl
    obtain ⟨k, hk⟩ : ∃ k, k = nn % L := ⟨_, rfl⟩
    have hkL : k < L := by rw [hk]; exact Nat.mod_lt _ hlen
    rw [← hL, ← hk]
    have hds2 := hds hemp
    rw [← hL, ← hk] at hds2
    have hL0 : ((L : Nat) : Int) ≠ 0 := by omega
    have hLb : (((L : Nat) : Int) == 0) = false := beq_eq_false_iff_ne.2 hL0
    have HK : Hid ((nn : Int) % (L : Int) = (k : Int)) := Lib.hid (by rw [hk]; push_cast; rfl)
    have HK2 : Hid (Int.tmod (nn : Int) (L : Int) = (k : Int)) := Lib.hid (by rw [Int.tmod_eq_emod_of_nonneg (by omega), hk]; push_cast; rfl)
    have HV := Lib.hid (And.intro hL hv)
    have HD := Lib.hid hds2
    clear h ok hds hds2 hv hL hk
    have hnn0 : (0 : Int) ≤ (nn : Int) := by omega
    have hnn1 : (nn : Int) ≤ 9223372036854775807 := by omega
    go_enter Try.func71, Try.ntmps71
    go_upto_region 4 with (fail)
    rw [HK.out]
    obtain ⟨x, hx⟩ : ∃ x, x = (P.way 1).getD k noTun := ⟨_, rfl⟩
    have hxk : (P.way 1)[k]? = some x := by
      rw [hx, List.getD_eq_getElem?_getD, List.getElem?_eq_getElem (by rw [← HV.out.1]; exact hkL)]; rfl
    have hrow : RowT (Bytes w) w B (.slice (some ⟨g, 0, none⟩) L cap) (P.way 1) := by
      have h := H.out.way 1 (by decide)
      rw [HV.out.2, ← HV.out.1] at h; exact h
    obtain ⟨g', A, dm, dc, hg', _, b0, b1, b2, b3, b4, b5, hb⟩ := hrow.at hxk
    simp only [Option.some.injEq, Addr.mk.injEq] at hg'
    obtain ⟨rfl, -, -⟩ := hg'
    obtain ⟨xs0, xs1, xdl⟩ := hwl x (List.mem_of_getElem? hxk)
    obtain ⟨_, _, hdv⟩ := hb.wide.slice'
    simp only [Value.slice.injEq] at hdv
    obtain ⟨-, rfl, -⟩ := hdv
    have HB := Lib.hid hb
    have HX := Lib.hid hx
    have HR := Lib.hid hrow
    have hk0 : (0 : Int) ≤ (k : Int) := by omega
    have hk1 : (k : Int) < (L : Int) := by omega
    clear hx hxk hrow hb hwl HK HK2
    go_upto_region 5 with (fail)
    obtain ⟨wx, hwx⟩ : ∃ wx, wx = w.alloc (.cells #[.int .u16 x.call, .bool x.hs, .int .u32 x.seq, .bool x.ha, .int .u32 x.ack, .slice A x.d.length dc] 138) := ⟨_, rfl⟩
    have hcx : Chg [] w wx := by rw [hwx]; exact (Chg.refl _ _).alloc _
    have hAx : At wx w.heap.size 138 [.int .u16 x.call, .bool x.hs, .int .u32 x.seq, .bool x.ha, .int .u32 x.ack, .slice A x.d.length dc] := by rw [hwx]; exact At.new w 138 [_, _, _, _, _, _]
    rw [← hwx]
    have hPx := H.out.keep hcx
    have hRx := HR.out.keep hcx
    have hBx := HB.out.chg hcx (by simp)
    have hlox := hPx.low
    obtain ⟨gb, hgb⟩ : ∃ gb, gb = w.heap.size := ⟨_, rfl⟩
    have hgbB : B ≤ gb := by omega
    rw [← hgb] at hAx ⊢
    have HP := Lib.hid hPx
    have HA := Lib.hid hAx
    have HRX := Lib.hid hRx
    have HBX := Lib.hid hBx
    have HC := Lib.hid hcx
    obtain ⟨n0, n1, n2, n3, n4, n5, n6, n7, n8⟩ := hPx.str.nine
    rw [HV.out.2, ← HV.out.1] at n3
    have hwxs : B ≤ wx.heap.size := Nat.le_trans hB hcx.size
    have hppl : pp < wx.heap.size := hPx.str.lt
    have hf2 : wx.frozen? ⟨pp, 3, none⟩ = false := hPx.str.frozen _
    clear n4 n5 n6 n7 hPx hAx hRx hBx hcx hwx hgb hlox b0 b1 b2 b3 b4 b5
    go_upto_if 40 with (fail)
    go_cut [] (fun wq => ∃ wv', PairAt wq B pp q F wv' (P.left 1 k stays) ∧ At wq gb 138 [.int .u16 x.call, .bool x.hs, .int .u32 x.seq, .bool x.ha, .int .u32 x.ack, .slice A x.d.length dc] ∧ Bytes wq (.slice A x.d.length dc) x.d ∧ Chg [pp] wx wq)
    case first =>
      cases stays with
      | true =>
        go_wp2_with fail
        go_meet
        exact ⟨wv, HP.out, HA.out, HBX.out, Chg.refl _ _⟩
      | false =>
        obtain ⟨k3, hk3⟩ : ∃ k3, k3 = k + 1 := ⟨_, rfl⟩
        have hwrap : IntKind.i64.wrap ((k : Nat) + 1 : Int) = ((k3 : Nat) : Int) := by rw [IntKind.wrap_i64]; omega
        obtain ⟨o2, ho2⟩ : ∃ o2, o2 = if cap = k3 then 0 else k3 * 6 := ⟨_, rfl⟩
        have hif : (if cap = k3 then some (⟨g, 0, none⟩ : Addr) else some ⟨g, k3 * 6, none⟩) = some ⟨g, o2, none⟩ := by rw [ho2]; split <;> rfl
        have hRX := HRX.out
        rw [HV.out.1] at hRX
        obtain ⟨v1, wb, v2, w2, happ1, happ2, hr2, hob, hcb, hc2⟩ := rowT_del (k := k) (o2 := o2) hRX (by rw [← HV.out.1]; exact hkL) (by rw [← HV.out.1]; omega) (by rw [← HV.out.1]; exact hcap) hwxs rfl (fun hne => by rw [ho2, if_neg (by omega), hk3])
        rw [← HV.out.1, ← hk3] at happ2
        have hfin := HP.out.way_to (f := 1) (by decide) (hc2.mono (by simp)) hr2 (fun b hb => .inr (hob b hb))
        have hcs : Chg [pp] wx (w2.setCell ⟨pp, 3, none⟩ v2) := (hc2.mono (by simp)).set (by simp) _
        have hAs := HA.out.chg hcs (by
          simp
          rintro rfl
          exact HA.out.isT.ne HP.out.str.isT (by decide) rfl)
        have hBs := HBX.out.chg hcs (by simpa using HP.out.str.noB (by decide))
        have hst2 := HP.out.str.chg hc2 (by simp)
        have hcell : wx.cell? ⟨pp, 3, none⟩ = some (.slice (some ⟨g, 0, none⟩) L cap) := n3
        have k0 : w2.cell? ⟨pp, 3, none⟩ = some (.slice (some ⟨g, 0, none⟩) L cap) := (hc2.cell (p := ⟨pp, 3, none⟩) hppl (by simp)).trans hcell
        have k1 : w2.frozen? ⟨pp, 3, none⟩ = false := hst2.frozen _
        have HKB := Lib.hid ((hcb.cell (p := ⟨pp, 3, none⟩) hppl (by simp)).trans hcell)
        obtain ⟨v2a, v2c, hv2⟩ := hr2.slice
        obtain ⟨v2n, hv2n⟩ : ∃ v2n, v2n = ((P.way 1).eraseIdx k).length := ⟨_, rfl⟩
        rw [← hv2n] at hv2
        subst hv2
        have HA1 := Lib.hid happ1
        have HA2 := Lib.hid happ2
        have HF := Lib.hid hfin
        have HCS := Lib.hid hcs
        have HAS := Lib.hid hAs
        have HBS := Lib.hid hBs
        have hic : k ≤ cap := by omega
        have hk3l : k3 ≤ L := by omega
        clear hr2 hob hcb hc2 hfin hcs hAs hBs hst2 happ1 happ2 hv2n ho2 hk3 hRX
        go_wp2_with fail
        refine wp_region_phase 25 (fun w' => w'.cell? ⟨pp, 3, none⟩ = some (.slice (some ⟨g, 0, none⟩) L cap)) (by kernel_rfl) ?_
        refine wpAnyP_with (by exact hcell) (fun hSw => ?_)
        refine wpAnyP_take 0 [] (v := ?_) rfl (by kernel_rfl) (fun _ _ _ h => h) (by assumption) (Or.inl ⟨by rfl, ?_⟩) ?_
        rotate_left
        · (intro w hSw; (try dsimp only at hSw); go_simp; try with_reducible rfl)
        simp only [List.getElem_toArray, List.getElem_cons_succ, List.getElem_cons_zero, Act.put, List.setIfInBounds_toArray, List.set_cons_zero, List.set_cons_succ]
        refine wpAnyP_take 1 [] (v := ?_) rfl (by kernel_rfl) (fun _ _ _ h => h) (by assumption) (Or.inl ⟨by rfl, ?_⟩) ?_
        rotate_left
        · (intro w hSw; (try dsimp only at hSw); go_simp; try with_reducible rfl)
        simp only [List.getElem_toArray, List.getElem_cons_succ, List.getElem_cons_zero, Act.put, List.setIfInBounds_toArray, List.set_cons_zero, List.set_cons_succ]
        refine wpAnyP_take 3 [] (v := ?_) rfl (by kernel_rfl) (fun _ _ _ h => h) (by assumption) (Or.inl ⟨by rfl, ?_⟩) ?_
        rotate_left
        · (intro w hSw; (try dsimp only at hSw); go_simp; try with_reducible rfl)
        simp only [List.getElem_toArray, List.getElem_cons_succ, List.getElem_cons_zero, Act.put, List.setIfInBounds_toArray, List.set_cons_zero, List.set_cons_succ]
        refine wpAnyP_take 4 [] (v := ?_) rfl (by kernel_rfl) (fun _ _ _ h => h) (by assumption) (Or.inl ⟨by rfl, ?_⟩) ?_
        rotate_left
        · (intro w hSw; (try dsimp only at hSw); go_simp; try with_reducible rfl)
        simp only [List.getElem_toArray, List.getElem_cons_succ, List.getElem_cons_zero, Act.put, List.setIfInBounds_toArray, List.set_cons_zero, List.set_cons_succ]
        refine wpAnyP_take 5 [] (v := ?_) rfl (by kernel_rfl) (fun _ _ _ h => h) (by assumption) (Or.inl ⟨by rfl, ?_⟩) ?_
        rotate_left
        · (intro w hSw; (try dsimp only at hSw); go_simp; try with_reducible rfl)
        simp only [List.getElem_toArray, List.getElem_cons_succ, List.getElem_cons_zero, Act.put, List.setIfInBounds_toArray, List.set_cons_zero, List.set_cons_succ]
        refine wpAnyP_take 6 [] (v := ?_) rfl (by kernel_rfl) (fun _ _ _ h => h) (by assumption) (Or.inl ⟨by rfl, ?_⟩) ?_
        rotate_left
        · (intro w hSw; (try dsimp only at hSw); go_simp; try with_reducible rfl)
        simp only [List.getElem_toArray, List.getElem_cons_succ, List.getElem_cons_zero, Act.put, List.setIfInBounds_toArray, List.set_cons_zero, List.set_cons_succ]
        refine wpAnyP_take 7 [] (v := ?_) rfl (by kernel_rfl) (fun _ _ _ h => h) (by assumption) (Or.inl ⟨by rfl, ?_⟩) ?_
        rotate_left
        · (intro w hSw; (try dsimp only at hSw); go_simp; try with_reducible rfl)
        simp only [List.getElem_toArray, List.getElem_cons_succ, List.getElem_cons_zero, Act.put, List.setIfInBounds_toArray, List.set_cons_zero, List.set_cons_succ]
        refine wpAnyP_take 8 [] (v := ?_) rfl (by kernel_rfl) (fun _ _ _ h => h) (by assumption) (Or.inl ⟨by rfl, ?_⟩) ?_
        rotate_left
        · (intro w hSw; (try dsimp only at hSw); go_simp; try with_reducible rfl)
        simp only [List.getElem_toArray, List.getElem_cons_succ, List.getElem_cons_zero, Act.put, List.setIfInBounds_toArray, List.set_cons_zero, List.set_cons_succ]
        refine wpAnyP_take 9 [] (v := ?_) rfl (by kernel_rfl) (fun _ _ _ h => h) (by assumption) (Or.inl ⟨by rfl, ?_⟩) ?_
        rotate_left
        · (intro w hSw; (try dsimp only at hSw); go_simp; try with_reducible rfl)
        simp only [List.getElem_toArray, List.getElem_cons_succ, List.getElem_cons_zero, Act.put, List.setIfInBounds_toArray, List.set_cons_zero, List.set_cons_succ]
        refine wpAnyP_take 10 [] (v := ?_) rfl (by kernel_rfl) (fun _ _ _ h => h) (by assumption) (Or.inl ⟨by rfl, ?_⟩) ?_
        rotate_left
        · (intro w hSw; (try dsimp only at hSw); go_simp; try with_reducible rfl)
        simp only [List.getElem_toArray, List.getElem_cons_succ, List.getElem_cons_zero, Act.put, List.setIfInBounds_toArray, List.set_cons_zero, List.set_cons_succ]
        refine wpAnyP_take 12 [] (v := ?_) rfl (by kernel_rfl) (fun _ _ _ h => h) (by assumption) (Or.inl ⟨by rfl, ?_⟩) ?_
        rotate_left
        · (intro w hSw; (try dsimp only at hSw); go_simp; try with_reducible rfl)
        simp only [List.getElem_toArray, List.getElem_cons_succ, List.getElem_cons_zero, Act.put, List.setIfInBounds_toArray, List.set_cons_zero, List.set_cons_succ]
        refine wpAnyP_take 13 [] (v := ?_) rfl (by kernel_rfl) (fun _ _ _ h => h) (by assumption) (Or.inl ⟨by rfl, ?_⟩) ?_
        rotate_left
        · (intro w hSw; (try dsimp only at hSw); go_simp; try with_reducible rfl)
        simp only [List.getElem_toArray, List.getElem_cons_succ, List.getElem_cons_zero, Act.put, List.setIfInBounds_toArray, List.set_cons_zero, List.set_cons_succ]
        refine wpAnyP_take 14 [] (v := ?_) rfl (by kernel_rfl) (fun _ _ _ h => h) (by assumption) (Or.inl ⟨by rfl, ?_⟩) ?_
        rotate_left
        · (intro w hSw; (try dsimp only at hSw); go_simp; try with_reducible rfl)
        simp only [List.getElem_toArray, List.getElem_cons_succ, List.getElem_cons_zero, Act.put, List.setIfInBounds_toArray, List.set_cons_zero, List.set_cons_succ]
        refine wpAnyP_take 15 [] (v := ?_) rfl (by kernel_rfl) (fun _ _ _ h => h) (by assumption) (Or.inl ⟨by rfl, ?_⟩) ?_
        rotate_left
        · (intro w hSw; (try dsimp only at hSw); go_simp; try with_reducible rfl)
        simp only [List.getElem_toArray, List.getElem_cons_succ, List.getElem_cons_zero, Act.put, List.setIfInBounds_toArray, List.set_cons_zero, List.set_cons_succ]
        refine wpAnyP_take 16 [] (v := ?_) rfl (by kernel_rfl) (fun _ _ _ h => h) (by assumption) (Or.inl ⟨by rfl, ?_⟩) ?_
        rotate_left
        · (intro w hSw; (try dsimp only at hSw); go_simp; try with_reducible rfl)
        simp only [List.getElem_toArray, List.getElem_cons_succ, List.getElem_cons_zero, Act.put, List.setIfInBounds_toArray, List.set_cons_zero, List.set_cons_succ]
        refine wpAnyP_take 17 [] (v := ?_) rfl (by kernel_rfl) (fun _ _ _ h => h) (by assumption) (Or.inl ⟨by rfl, ?_⟩) ?_
        rotate_left
        · (intro w hSw; (try dsimp only at hSw); go_simp; try with_reducible rfl)
        simp only [List.getElem_toArray, List.getElem_cons_succ, List.getElem_cons_zero, Act.put, List.setIfInBounds_toArray, List.set_cons_zero, List.set_cons_succ]
        refine wpAnyP_take 18 [] (v := ?_) rfl (by kernel_rfl) (fun _ _ _ h => h) (by assumption) (Or.inl ⟨by rfl, ?_⟩) ?_
        rotate_left
        · (intro w hSw; (try dsimp only at hSw); go_simp; try with_reducible rfl)
        simp only [List.getElem_toArray, List.getElem_cons_succ, List.getElem_cons_zero, Act.put, List.setIfInBounds_toArray, List.set_cons_zero, List.set_cons_succ]
        refine wpAnyP_take 19 [] (v := ?_) rfl (by kernel_rfl) (fun _ _ _ h => h) (by assumption) (Or.inl ⟨by rfl, ?_⟩) ?_
        rotate_left
        · (intro w hSw; (try dsimp only at hSw); go_simp; try with_reducible rfl)
        simp only [List.getElem_toArray, List.getElem_cons_succ, List.getElem_cons_zero, Act.put, List.setIfInBounds_toArray, List.set_cons_zero, List.set_cons_succ]
        refine wpAnyP_take 20 [] (v := ?_) rfl (by kernel_rfl) (fun _ _ _ h => h) (by assumption) (Or.inl ⟨by rfl, ?_⟩) ?_
        rotate_left
        · (intro w hSw; (try dsimp only at hSw); go_simp; try with_reducible rfl)
        simp only [List.getElem_toArray, List.getElem_cons_succ, List.getElem_cons_zero, Act.put, List.setIfInBounds_toArray, List.set_cons_zero, List.set_cons_succ]
        refine wpAnyP_take 22 [24, 23] (v := ?_) rfl (by kernel_rfl) (fun _ _ _ h => h) (by assumption) (Or.inl ⟨by rfl, ?_⟩) ?_
        rotate_left
        · (intro w hSw; (try dsimp only at hSw); go_simp; try with_reducible rfl)
        simp only [List.getElem_toArray, List.getElem_cons_succ, List.getElem_cons_zero, Act.put, List.setIfInBounds_toArray, List.set_cons_zero, List.set_cons_succ]
        refine wpAnyP_take 23 [24] (v := ?_) rfl (by kernel_rfl) (fun _ _ _ h => h) (by assumption) (Or.inl ⟨by rfl, ?_⟩) ?_
        rotate_left
        · (intro w hSw; (try dsimp only at hSw); go_simp; try with_reducible rfl)
        simp only [List.getElem_toArray, List.getElem_cons_succ, List.getElem_cons_zero, Act.put, List.setIfInBounds_toArray, List.set_cons_zero, List.set_cons_succ]
        refine wpAnyP_one 2 rfl (by kernel_rfl) (fun K hK => ?_)
        rw [if_pos (by rfl)]
        go_wp2_with (fail)
        refine hold_with (by (try dsimp only at hSw); exact (((Chg.refl [] wx).alloc _).drew.cell (p := ⟨pp, 3, none⟩) hppl (by simp)).trans hcell) (fun hSn => ?_)
        clear hSw; have hSw := hSn; clear hSn
        refine wpAnyP_one 11 rfl (by kernel_rfl) (fun K hK => ?_)
        rw [if_pos (by rfl)]
        simp only [List.getElem_toArray, List.getElem_cons_succ, List.getElem_cons_zero, Act.put, List.setIfInBounds_toArray, List.set_cons_zero, List.set_cons_succ]
        (refine wp_app_eq _ _ 78 rfl rfl rfl HA1.out ?_; go_wp2_with (fail))
        refine hold_with (by (try dsimp only at hSw); exact HKB.out) (fun hSn => ?_)
        clear hSw; have hSw := hSn; clear hSn
        refine wpAnyP_one 21 rfl (by kernel_rfl) (fun K hK => ?_)
        rw [if_pos (by rfl)]
        simp only [List.getElem_toArray, List.getElem_cons_succ, List.getElem_cons_zero, Act.put, List.setIfInBounds_toArray, List.set_cons_zero, List.set_cons_succ]
        (refine wp_app_eq _ _ 78 rfl rfl rfl HA2.out ?_; go_wp2_with (fail))
        refine hold_with (by (try dsimp only at hSw); exact k0) (fun hSn => ?_)
        clear hSw; have hSw := hSn; clear hSn
        refine wpAnyP_take 24 [] (v := ?_) rfl (by kernel_rfl) (fun _ _ _ h => h) (by assumption) (Or.inl ⟨by rfl, ?_⟩) ?_
        rotate_left
        · (intro w hSw; (try dsimp only at hSw); go_simp; try with_reducible rfl)
        simp only [List.getElem_toArray, List.getElem_cons_succ, List.getElem_cons_zero, Act.put, List.setIfInBounds_toArray, List.set_cons_zero, List.set_cons_succ]
        refine wpAnyP_one 25 rfl (by kernel_rfl) (fun K hK => ?_)
        rw [if_pos (by rfl)]
        go_wp2_with (fail)
        refine ⟨fun hz => (by simp at hz), ?_⟩
        refine wpAnyP_done (by kernel_rfl) ?_ _
        skip
        clear hSw HA1 HA2 HKB hwrap hif k0 k1
        go_wp2_with fail
        go_meet
        exact ⟨_, HF.out, HAS.out, HBS.out, HCS.out⟩
    case rest =>
      obtain ⟨wv1, hP1, hA1, hB1, hc1⟩ := hcut
      obtain ⟨w1, hw1⟩ : ∃ z, z = wc := ⟨_, rfl⟩
      subst hw1
      obtain ⟨P1, hPe⟩ : ∃ P1, P1 = P.left 1 k stays := ⟨_, rfl⟩
      rw [← hPe] at hP1
      have hsame : P1.e = P.e ∧ P1.sent = P.sent ∧ P1.got = P.got ∧ P1.now = P.now := by rw [hPe]; cases stays <;> exact ⟨rfl, rfl, rfl, rfl⟩
      have hbl1 : Below B w w1 := (HC.out.below hB (by simp)).trans (hc1.below hwxs (by intro b hb; simp at hb; subst hb; exact HP.out.hp))
      have hB1s : B ≤ w1.heap.size := Nat.le_trans hwxs hc1.size
      have hPd := hP1.keep (Chg.refl [] w1).drew
      have CT := Lib.hid (take_end w1.drew B (q 0) (F 0) (P1.e 0) (P1.now : Int) x.call x.hs x.seq x.ha x.ack A dc x.d (hPd.e 0 (by decide)) (by rw [hsame.1]; exact (OK.out.e 0 (by decide)).1) hB1s ((hB1.chg (Chg.refl [] w1).drew (by simp)).off (fun b hb => ((hPd.e 0 (by decide)).kind b hb).2.2.1)) (by omega) (by omega) (by rw [hsame.2.2.2]; omega) xs0 xs1)
      obtain ⟨m0, m1, m2, m3, m4, m5, m6, m7, m8⟩ := hPd.str.nine
      have HPD := Lib.hid hPd
      have HA1 := Lib.hid hA1
      have HPE := Lib.hid hPe
      have HSM := Lib.hid hsame
      have HBL := Lib.hid hbl1
      have htk : Hid ((P1.e 0).took P1.now x.hs x.seq x.ha x.ack x.d = P.taken 1 0 k) := Lib.hid (by unfold Pair.taken; rw [← HX.out, hsame.1, hsame.2.2.2])
      have hadr : At w1.drew gb 138 [.int .u16 x.call, .bool x.hs, .int .u32 x.seq, .bool x.ha, .int .u32 x.ack, .slice A x.d.length dc] := hA1.drew
      have hwr1 : IntKind.i64.wrap 1 = 1 := by rfl
      have hwr0 : IntKind.i64.wrap 0 = 0 := by rfl
      clear hP1 hA1 hB1 hc1 hPd hPe hsame hbl1 n0 n1 n2 n3 n8 hf2
      go_wp2_with fail
      refine wp_region_phase 17 (fun w' => w'.cell? ⟨pp, 0, none⟩ = some (.pointer (some ⟨q 0, 0, none⟩)) ∧ w'.cell? ⟨pp, 8, none⟩ = some (.int .i64 P1.now) ∧ At w' gb 138 [.int .u16 x.call, .bool x.hs, .int .u32 x.seq, .bool x.ha, .int .u32 x.ack, .slice A x.d.length dc]) (by kernel_rfl) ?_
      refine wpAnyP_with (by exact ⟨m0, m8, hadr⟩) (fun hSw => ?_)
      refine wpAnyP_take 0 [] (v := ?_) rfl (by kernel_rfl) (fun _ _ _ h => h) (by assumption) (Or.inl ⟨by rfl, ?_⟩) ?_
      rotate_left
      · (intro w hSw; (try dsimp only at hSw); obtain ⟨s0, s1, s2⟩ := hSw; obtain ⟨y0, y1, y2, y3, y4, y5, _⟩ := s2.six; go_simp; try with_reducible rfl)
      simp only [List.getElem_toArray, List.getElem_cons_succ, List.getElem_cons_zero, Act.put, List.setIfInBounds_toArray, List.set_cons_zero, List.set_cons_succ]
      refine wpAnyP_take 1 [] (v := ?_) rfl (by kernel_rfl) (fun _ _ _ h => h) (by assumption) (Or.inl ⟨by rfl, ?_⟩) ?_
      rotate_left
      · (intro w hSw; (try dsimp only at hSw); obtain ⟨s0, s1, s2⟩ := hSw; obtain ⟨y0, y1, y2, y3, y4, y5, _⟩ := s2.six; go_simp; try with_reducible rfl)
      simp only [List.getElem_toArray, List.getElem_cons_succ, List.getElem_cons_zero, Act.put, List.setIfInBounds_toArray, List.set_cons_zero, List.set_cons_succ]
      refine wpAnyP_take 2 [] (v := ?_) rfl (by kernel_rfl) (fun _ _ _ h => h) (by assumption) (Or.inl ⟨by rfl, ?_⟩) ?_
      rotate_left
      · (intro w hSw; (try dsimp only at hSw); obtain ⟨s0, s1, s2⟩ := hSw; obtain ⟨y0, y1, y2, y3, y4, y5, _⟩ := s2.six; go_simp; try with_reducible rfl)
      simp only [List.getElem_toArray, List.getElem_cons_succ, List.getElem_cons_zero, Act.put, List.setIfInBounds_toArray, List.set_cons_zero, List.set_cons_succ]
      refine wpAnyP_take 3 [] (v := ?_) rfl (by kernel_rfl) (fun _ _ _ h => h) (by assumption) (Or.inl ⟨by rfl, ?_⟩) ?_
      rotate_left
      · (intro w hSw; (try dsimp only at hSw); obtain ⟨s0, s1, s2⟩ := hSw; obtain ⟨y0, y1, y2, y3, y4, y5, _⟩ := s2.six; go_simp; try with_reducible rfl)
      simp only [List.getElem_toArray, List.getElem_cons_succ, List.getElem_cons_zero, Act.put, List.setIfInBounds_toArray, List.set_cons_zero, List.set_cons_succ]
      refine wpAnyP_take 4 [] (v := ?_) rfl (by kernel_rfl) (fun _ _ _ h => h) (by assumption) (Or.inl ⟨by rfl, ?_⟩) ?_
      rotate_left
      · (intro w hSw; (try dsimp only at hSw); obtain ⟨s0, s1, s2⟩ := hSw; obtain ⟨y0, y1, y2, y3, y4, y5, _⟩ := s2.six; go_simp; try with_reducible rfl)
      simp only [List.getElem_toArray, List.getElem_cons_succ, List.getElem_cons_zero, Act.put, List.setIfInBounds_toArray, List.set_cons_zero, List.set_cons_succ]
      refine wpAnyP_take 5 [] (v := ?_) rfl (by kernel_rfl) (fun _ _ _ h => h) (by assumption) (Or.inl ⟨by rfl, ?_⟩) ?_
      rotate_left
      · (intro w hSw; (try dsimp only at hSw); obtain ⟨s0, s1, s2⟩ := hSw; obtain ⟨y0, y1, y2, y3, y4, y5, _⟩ := s2.six; go_simp; try with_reducible rfl)
      simp only [List.getElem_toArray, List.getElem_cons_succ, List.getElem_cons_zero, Act.put, List.setIfInBounds_toArray, List.set_cons_zero, List.set_cons_succ]
      refine wpAnyP_take 6 [] (v := ?_) rfl (by kernel_rfl) (fun _ _ _ h => h) (by assumption) (Or.inl ⟨by rfl, ?_⟩) ?_
      rotate_left
      · (intro w hSw; (try dsimp only at hSw); obtain ⟨s0, s1, s2⟩ := hSw; obtain ⟨y0, y1, y2, y3, y4, y5, _⟩ := s2.six; go_simp; try with_reducible rfl)
      simp only [List.getElem_toArray, List.getElem_cons_succ, List.getElem_cons_zero, Act.put, List.setIfInBounds_toArray, List.set_cons_zero, List.set_cons_succ]
      refine wpAnyP_take 7 [] (v := ?_) rfl (by kernel_rfl) (fun _ _ _ h => h) (by assumption) (Or.inl ⟨by rfl, ?_⟩) ?_
      rotate_left
      · (intro w hSw; (try dsimp only at hSw); obtain ⟨s0, s1, s2⟩ := hSw; obtain ⟨y0, y1, y2, y3, y4, y5, _⟩ := s2.six; go_simp; try with_reducible rfl)
      simp only [List.getElem_toArray, List.getElem_cons_succ, List.getElem_cons_zero, Act.put, List.setIfInBounds_toArray, List.set_cons_zero, List.set_cons_succ]
      refine wpAnyP_take 8 [] (v := ?_) rfl (by kernel_rfl) (fun _ _ _ h => h) (by assumption) (Or.inl ⟨by rfl, ?_⟩) ?_
      rotate_left
      · (intro w hSw; (try dsimp only at hSw); obtain ⟨s0, s1, s2⟩ := hSw; obtain ⟨y0, y1, y2, y3, y4, y5, _⟩ := s2.six; go_simp; try with_reducible rfl)
      simp only [List.getElem_toArray, List.getElem_cons_succ, List.getElem_cons_zero, Act.put, List.setIfInBounds_toArray, List.set_cons_zero, List.set_cons_succ]
      refine wpAnyP_take 9 [] (v := ?_) rfl (by kernel_rfl) (fun _ _ _ h => h) (by assumption) (Or.inl ⟨by rfl, ?_⟩) ?_
      rotate_left
      · (intro w hSw; (try dsimp only at hSw); obtain ⟨s0, s1, s2⟩ := hSw; obtain ⟨y0, y1, y2, y3, y4, y5, _⟩ := s2.six; go_simp; try with_reducible rfl)
      simp only [List.getElem_toArray, List.getElem_cons_succ, List.getElem_cons_zero, Act.put, List.setIfInBounds_toArray, List.set_cons_zero, List.set_cons_succ]
      refine wpAnyP_take 10 [] (v := ?_) rfl (by kernel_rfl) (fun _ _ _ h => h) (by assumption) (Or.inl ⟨by rfl, ?_⟩) ?_
      rotate_left
      · (intro w hSw; (try dsimp only at hSw); obtain ⟨s0, s1, s2⟩ := hSw; obtain ⟨y0, y1, y2, y3, y4, y5, _⟩ := s2.six; go_simp; try with_reducible rfl)
      simp only [List.getElem_toArray, List.getElem_cons_succ, List.getElem_cons_zero, Act.put, List.setIfInBounds_toArray, List.set_cons_zero, List.set_cons_succ]
      refine wpAnyP_take 11 [] (v := ?_) rfl (by kernel_rfl) (fun _ _ _ h => h) (by assumption) (Or.inl ⟨by rfl, ?_⟩) ?_
      rotate_left
      · (intro w hSw; (try dsimp only at hSw); obtain ⟨s0, s1, s2⟩ := hSw; obtain ⟨y0, y1, y2, y3, y4, y5, _⟩ := s2.six; go_simp; try with_reducible rfl)
      simp only [List.getElem_toArray, List.getElem_cons_succ, List.getElem_cons_zero, Act.put, List.setIfInBounds_toArray, List.set_cons_zero, List.set_cons_succ]
      refine wpAnyP_one 12 rfl (by kernel_rfl) (fun K hK => ?_)
      rw [if_pos (by rfl)]
      go_wp2_with ((refine CT.out.mono ?_; rintro e w3 ⟨o1, o2, rfl, hrow, hT, hd12, ho1, hmv⟩; obtain ⟨F3, hP3, hc3⟩ := HPD.out.end_to (t := 0) (by decide) hmv; have hbl3 := hc3.below hB1s (HPD.out.low.1 0 (by decide)); have z12 : w3.cell? ⟨pp, 0, none⟩ = some (.pointer (some ⟨q 0, 0, none⟩)) ∧ w3.cell? ⟨pp, 8, none⟩ = some (.int .i64 P1.now) ∧ At w3 gb 138 [.int .u16 x.call, .bool x.hs, .int .u32 x.seq, .bool x.ha, .int .u32 x.ack, .slice A x.d.length dc] := ⟨hP3.str.cell 0, hP3.str.cell 8, hadr.chg hc3 (fun hm => ((HPD.out.e 0 (by decide)).kind _ hm).2.2.2.2.1 hadr.isT)⟩; have HP3 := Lib.hid hP3; have HT := Lib.hid hT; have HROW := Lib.hid hrow; have HBL3 := Lib.hid hbl3; have hs3 := hc3.size; clear hrow hT hd12 ho1 hmv hP3 hc3 hbl3))
      refine hold_with (by (try dsimp only at hSw); exact z12) (fun hSn => ?_)
      clear hSw; have hSw := hSn; clear hSn
      refine wpAnyP_take 13 [] (v := ?_) rfl (by kernel_rfl) (fun _ _ _ h => h) (by assumption) (Or.inl ⟨by rfl, ?_⟩) ?_
      rotate_left
      · (intro w hSw; (try dsimp only at hSw); obtain ⟨s0, s1, s2⟩ := hSw; obtain ⟨y0, y1, y2, y3, y4, y5, _⟩ := s2.six; go_simp; try with_reducible rfl)
      simp only [List.getElem_toArray, List.getElem_cons_succ, List.getElem_cons_zero, Act.put, List.setIfInBounds_toArray, List.set_cons_zero, List.set_cons_succ]
      refine wpAnyP_take 14 [] (v := ?_) rfl (by kernel_rfl) (fun _ _ _ h => h) (by assumption) (Or.inl ⟨by rfl, ?_⟩) ?_
      rotate_left
      · (intro w hSw; (try dsimp only at hSw); obtain ⟨s0, s1, s2⟩ := hSw; obtain ⟨y0, y1, y2, y3, y4, y5, _⟩ := s2.six; go_simp; try with_reducible rfl)
      simp only [List.getElem_toArray, List.getElem_cons_succ, List.getElem_cons_zero, Act.put, List.setIfInBounds_toArray, List.set_cons_zero, List.set_cons_succ]
      refine wpAnyP_take 15 [] (v := ?_) rfl (by kernel_rfl) (fun _ _ _ h => h) (by assumption) (Or.inl ⟨by rfl, ?_⟩) ?_
      rotate_left
      · (intro w hSw; (try dsimp only at hSw); obtain ⟨s0, s1, s2⟩ := hSw; obtain ⟨y0, y1, y2, y3, y4, y5, _⟩ := s2.six; go_simp; try with_reducible rfl)
      simp only [List.getElem_toArray, List.getElem_cons_succ, List.getElem_cons_zero, Act.put, List.setIfInBounds_toArray, List.set_cons_zero, List.set_cons_succ]
      refine wpAnyP_one 16 rfl (by kernel_rfl) (fun K hK => ?_)
      rw [if_pos (by rfl)]
      go_wp2_with (fail)
      refine hold_with (by (try dsimp only at hSw); exact hSw) (fun hSn => ?_)
      clear hSw; have hSw := hSn; clear hSn
      refine wpAnyP_one 17 rfl (by kernel_rfl) (fun K hK => ?_)
      rw [if_pos (by rfl)]
      go_wp2_with (fail)
      refine ⟨fun hz => (by simp at hz), ?_⟩
      refine wpAnyP_done (by kernel_rfl) ?_ _
      skip
      clear hSw z12 m0 m1 m2 m3 m4 m5 m6 m7 m8 hadr CT
      rw [htk.out] at HP3 HT HROW
      have hP3d := HP3.out.keep (Chg.refl [] w3).drew
      obtain ⟨ta, tc, hto⟩ := HT.out.slice
      subst hto
      obtain ⟨va, vc, hvv⟩ := (HP3.out.way 0 (by decide)).slice
      have hwayl : (P1.way 0).length ≤ 50000 := by
        rw [HPE.out]
        unfold Pair.left
        split
        · exact (OK.out.way 0 (by decide)).1
        · show (upd P.way 1 ((P.way 1).eraseIdx k) 0).length ≤ 50000
          rw [upd_ne _ (by decide)]; exact (OK.out.way 0 (by decide)).1
      have htsl : ((P.taken 1 0 k).1.pumped P1.now).2.length ≤ 16 := by
        have h1 : ((P.taken 1 0 k).1).s.Ok := by
          unfold Pair.taken End.took
          split <;> (simp only; split <;> first | exact (OK.out.e 0 (by decide)).1.s | exact Snd.ack_ok (OK.out.e 0 (by decide)).1.s _ _)
        have h2 := Snd.pump_len h1 P1.now
        unfold End.pumped
        simpa using h2
      have hrowT : RowT (Bytes w3.drew) w3.drew B (wv1 0) (P1.way 0) := hP3d.way 0 (by decide)
      obtain ⟨v4, w4, happ, hr4, hc4, hob4⟩ := rowT_app hrowT (HT.out.keep (Chg.refl [] w3).drew) (Nat.le_trans hB1s hs3) (by omega)
      have hP5 := hP3d.way_to (f := 0) (by decide) hc4 hr4 hob4
      have hbl4 := hc4.below (Nat.le_trans hB1s hs3) (hP3d.low.2 0 (by decide))
      have hbl5 : Below B w4 (w4.setCell ⟨pp, 2, none⟩ v4) := ((Chg.refl [pp] w4).set (by simp) _).below (Nat.le_trans (Nat.le_trans hB1s hs3) hc4.size) (by intro b hb; simp at hb; subst hb; exact HP.out.hp)
      have hst4 := hP3d.str.chg hc4 (fun hm => (hrowT.isT (by simpa using hm)).ne hP3d.str.isT (by decide) rfl)
      have hrow5 : RowS (Bytes (w4.setCell ⟨pp, 2, none⟩ v4)) (w4.setCell ⟨pp, 2, none⟩ v4) w1.drew.heap.size o1 ((P.taken 1 0 k).2.map (·.2)) := by
        have h3 : RowS (Bytes w3.drew) w3.drew w1.drew.heap.size o1 ((P.taken 1 0 k).2.map (·.2)) := HROW.out.chg (Chg.refl [] w3).drew (by simp) (fun u d hd => hd.chg (Chg.refl [] w3).drew (by simp))
        have ht : ∀ b ∈ (wv1 0).ownBlock.toList, IsT w3.drew b 138 := fun b hb => hrowT.isT (by simpa using hb)
        have h4 : RowS (Bytes w4) w4 w1.drew.heap.size o1 ((P.taken 1 0 k).2.map (·.2)) := h3.chg hc4 (fun b hb e => (h3.isT e).ne (ht b hb) (by decide) rfl) (fun u d hd => hd.chg hc4 (fun b hb => (ht b hb).noB (by decide)))
        exact h4.chg (F := [pp]) ((Chg.refl [pp] w4).set (by simp) _) (fun b hb e => by simp at hb; subst hb; exact (h4.isT e).ne hst4.isT (by decide) rfl) (fun u d hd => hd.chg (F := [pp]) ((Chg.refl [pp] w4).set (by simp) _) (by simpa using hst4.noB (by decide)))
      rw [HD.out.1] at hrow5
      have CH := Lib.hid (hand_0 _ B pp _ q _ _ _ o1 lo m hP5 hrow5 (by show P1.got 0 ≤ lo; rw [HSM.out.2.2.1]; exact HD.out.2.1) (by show lo + m ≤ P1.sent 1; rw [HSM.out.2.1]; exact HD.out.2.2) (by show P1.sent 1 ≤ 10000; rw [HSM.out.2.1]; exact OK.out.sent 1 (by decide)))
      have hcell3 : w3.drew.cell? ⟨pp, 2, none⟩ = some (.slice va (P1.way 0).length vc) := by
        have h := hP3d.str.cell 2
        rw [h]
        show some (wv1 0) = _
        rw [hvv]
      have hcell4 : w4.cell? ⟨pp, 2, none⟩ = some (.slice va (P1.way 0).length vc) := by
        have h := hst4.cell 2
        rw [h]
        show some (wv1 0) = _
        rw [hvv]
      have hfr4 : w4.frozen? ⟨pp, 2, none⟩ = false := hst4.frozen _
      obtain ⟨va4, vc4, hv4⟩ := hr4.slice
      obtain ⟨n4, hn4⟩ : ∃ n4, n4 = (P1.way 0 ++ ((P.taken 1 0 k).1.pumped P1.now).2).length := ⟨_, rfl⟩
      rw [← hn4] at hv4
      subst hv4
      rw [hvv] at happ
      obtain ⟨s5, hs5⟩ : ∃ s5, s5 = w4.setCell ⟨pp, 2, none⟩ (.slice va4 n4 vc4) := ⟨_, rfl⟩
      have HS5 := Lib.hid hs5
      rw [← hs5] at CH hbl5
      have HAP := Lib.hid happ
      have HBL4 := Lib.hid hbl4
      have HBL5 := Lib.hid hbl5
      have HB5 : Hid (B ≤ s5.heap.size) := Lib.hid (by rw [hs5]; simp [World.setCell]; exact Nat.le_trans (Nat.le_trans hB1s hs3) hc4.size)
      clear hP3d hvv hwayl htsl hrowT happ hr4 hc4 hob4 hP5 hbl4 hbl5 hst4 hrow5 hs5 hn4
      go_upto_region 8 with (fail)
      refine wp_region_phase 15 (fun w' => w'.cell? ⟨pp, 2, none⟩ = some (.slice va (P1.way 0).length vc)) (by kernel_rfl) ?_
      refine wpAnyP_with (by exact hcell3) (fun hSw => ?_)
      refine wpAnyP_take 0 [] (v := ?_) rfl (by kernel_rfl) (fun _ _ _ h => h) (by assumption) (Or.inl ⟨by rfl, ?_⟩) ?_
      rotate_left
      · (intro w hSw; (try dsimp only at hSw); go_simp; try with_reducible rfl)
      simp only [List.getElem_toArray, List.getElem_cons_succ, List.getElem_cons_zero, Act.put, List.setIfInBounds_toArray, List.set_cons_zero, List.set_cons_succ]
      refine wpAnyP_take 1 [] (v := ?_) rfl (by kernel_rfl) (fun _ _ _ h => h) (by assumption) (Or.inl ⟨by rfl, ?_⟩) ?_
      rotate_left
      · (intro w hSw; (try dsimp only at hSw); go_simp; try with_reducible rfl)
      simp only [List.getElem_toArray, List.getElem_cons_succ, List.getElem_cons_zero, Act.put, List.setIfInBounds_toArray, List.set_cons_zero, List.set_cons_succ]
      refine wpAnyP_take 2 [] (v := ?_) rfl (by kernel_rfl) (fun _ _ _ h => h) (by assumption) (Or.inl ⟨by rfl, ?_⟩) ?_
      rotate_left
      · (intro w hSw; (try dsimp only at hSw); go_simp; try with_reducible rfl)
      simp only [List.getElem_toArray, List.getElem_cons_succ, List.getElem_cons_zero, Act.put, List.setIfInBounds_toArray, List.set_cons_zero, List.set_cons_succ]
      refine wpAnyP_take 3 [] (v := ?_) rfl (by kernel_rfl) (fun _ _ _ h => h) (by assumption) (Or.inl ⟨by rfl, ?_⟩) ?_
      rotate_left
      · (intro w hSw; (try dsimp only at hSw); go_simp; try with_reducible rfl)
      simp only [List.getElem_toArray, List.getElem_cons_succ, List.getElem_cons_zero, Act.put, List.setIfInBounds_toArray, List.set_cons_zero, List.set_cons_succ]
      refine wpAnyP_take 4 [] (v := ?_) rfl (by kernel_rfl) (fun _ _ _ h => h) (by assumption) (Or.inl ⟨by rfl, ?_⟩) ?_
      rotate_left
      · (intro w hSw; (try dsimp only at hSw); go_simp; try with_reducible rfl)
      simp only [List.getElem_toArray, List.getElem_cons_succ, List.getElem_cons_zero, Act.put, List.setIfInBounds_toArray, List.set_cons_zero, List.set_cons_succ]
      refine wpAnyP_take 5 [] (v := ?_) rfl (by kernel_rfl) (fun _ _ _ h => h) (by assumption) (Or.inl ⟨by rfl, ?_⟩) ?_
      rotate_left
      · (intro w hSw; (try dsimp only at hSw); go_simp; try with_reducible rfl)
      simp only [List.getElem_toArray, List.getElem_cons_succ, List.getElem_cons_zero, Act.put, List.setIfInBounds_toArray, List.set_cons_zero, List.set_cons_succ]
      refine wpAnyP_take 6 [] (v := ?_) rfl (by kernel_rfl) (fun _ _ _ h => h) (by assumption) (Or.inl ⟨by rfl, ?_⟩) ?_
      rotate_left
      · (intro w hSw; (try dsimp only at hSw); go_simp; try with_reducible rfl)
      simp only [List.getElem_toArray, List.getElem_cons_succ, List.getElem_cons_zero, Act.put, List.setIfInBounds_toArray, List.set_cons_zero, List.set_cons_succ]
      refine wpAnyP_take 7 [] (v := ?_) rfl (by kernel_rfl) (fun _ _ _ h => h) (by assumption) (Or.inl ⟨by rfl, ?_⟩) ?_
      rotate_left
      · (intro w hSw; (try dsimp only at hSw); go_simp; try with_reducible rfl)
      simp only [List.getElem_toArray, List.getElem_cons_succ, List.getElem_cons_zero, Act.put, List.setIfInBounds_toArray, List.set_cons_zero, List.set_cons_succ]
      refine wpAnyP_take 8 [] (v := ?_) rfl (by kernel_rfl) (fun _ _ _ h => h) (by assumption) (Or.inl ⟨by rfl, ?_⟩) ?_
      rotate_left
      · (intro w hSw; (try dsimp only at hSw); go_simp; try with_reducible rfl)
      simp only [List.getElem_toArray, List.getElem_cons_succ, List.getElem_cons_zero, Act.put, List.setIfInBounds_toArray, List.set_cons_zero, List.set_cons_succ]
      refine wpAnyP_take 9 [] (v := ?_) rfl (by kernel_rfl) (fun _ _ _ h => h) (by assumption) (Or.inl ⟨by rfl, ?_⟩) ?_
      rotate_left
      · (intro w hSw; (try dsimp only at hSw); go_simp; try with_reducible rfl)
      simp only [List.getElem_toArray, List.getElem_cons_succ, List.getElem_cons_zero, Act.put, List.setIfInBounds_toArray, List.set_cons_zero, List.set_cons_succ]
      refine wpAnyP_take 10 [] (v := ?_) rfl (by kernel_rfl) (fun _ _ _ h => h) (by assumption) (Or.inl ⟨by rfl, ?_⟩) ?_
      rotate_left
      · (intro w hSw; (try dsimp only at hSw); go_simp; try with_reducible rfl)
      simp only [List.getElem_toArray, List.getElem_cons_succ, List.getElem_cons_zero, Act.put, List.setIfInBounds_toArray, List.set_cons_zero, List.set_cons_succ]
      refine wpAnyP_take 12 [14, 13] (v := ?_) rfl (by kernel_rfl) (fun _ _ _ h => h) (by assumption) (Or.inl ⟨by rfl, ?_⟩) ?_
      rotate_left
      · (intro w hSw; (try dsimp only at hSw); go_simp; try with_reducible rfl)
      simp only [List.getElem_toArray, List.getElem_cons_succ, List.getElem_cons_zero, Act.put, List.setIfInBounds_toArray, List.set_cons_zero, List.set_cons_succ]
      refine wpAnyP_take 13 [14] (v := ?_) rfl (by kernel_rfl) (fun _ _ _ h => h) (by assumption) (Or.inl ⟨by rfl, ?_⟩) ?_
      rotate_left
      · (intro w hSw; (try dsimp only at hSw); go_simp; try with_reducible rfl)
      simp only [List.getElem_toArray, List.getElem_cons_succ, List.getElem_cons_zero, Act.put, List.setIfInBounds_toArray, List.set_cons_zero, List.set_cons_succ]
      refine wpAnyP_one 11 rfl (by kernel_rfl) (fun K hK => ?_)
      rw [if_pos (by rfl)]
      simp only [List.getElem_toArray, List.getElem_cons_succ, List.getElem_cons_zero, Act.put, List.setIfInBounds_toArray, List.set_cons_zero, List.set_cons_succ]
      (refine wp_app_eq _ _ 78 rfl rfl rfl HAP.out ?_; go_wp2_with (fail))
      refine hold_with (by (try dsimp only at hSw); exact hcell4) (fun hSn => ?_)
      clear hSw; have hSw := hSn; clear hSn
      refine wpAnyP_take 14 [] (v := ?_) rfl (by kernel_rfl) (fun _ _ _ h => h) (by assumption) (Or.inl ⟨by rfl, ?_⟩) ?_
      rotate_left
      · (intro w hSw; (try dsimp only at hSw); go_simp; try with_reducible rfl)
      simp only [List.getElem_toArray, List.getElem_cons_succ, List.getElem_cons_zero, Act.put, List.setIfInBounds_toArray, List.set_cons_zero, List.set_cons_succ]
      refine wpAnyP_one 15 rfl (by kernel_rfl) (fun K hK => ?_)
      rw [if_pos (by rfl)]
      go_wp2_with (fail)
      refine ⟨fun hz => (by simp at hz), ?_⟩
      refine wpAnyP_done (by kernel_rfl) ?_ _
      skip
      clear hSw hcell3 hcell4 hfr4 HAP
      rw [← HS5.out]
      go_wp2_with fail
      refine CH.out.mono ?_
      rintro e w6 ⟨rfl, hP6, hc6⟩
      have hbl6 := hc6.below HB5.out (by intro b hb; simp at hb; subst hb; exact HP.out.hp)
      have hfin : PairPost B pp { P.arrived 1 0 k stays with got := upd P.got 0 (gotTo (P.got 0) lo m) } w (.returned (.bool true)) w6 := by
        refine ⟨rfl, ?_, ((((HBL.out.trans ((Chg.refl [] w1).drew.below hB1s (by simp))).trans HBL3.out).trans ((Chg.refl [] w3).drew.below (Nat.le_trans hB1s hs3) (by simp))).trans (HBL4.out.trans HBL5.out)).trans hbl6⟩
        have e : { P.arrived 1 0 k stays with got := upd P.got 0 (gotTo (P.got 0) lo m) } = { P1 with e := upd P1.e 0 ((P.taken 1 0 k).1.pumped P1.now).1, way := upd P1.way 0 (P1.way 0 ++ ((P.taken 1 0 k).1.pumped P1.now).2), got := upd P1.got 0 (gotTo (P1.got 0) lo m) } := by
          unfold Pair.arrived
          rw [HSM.out.1, HSM.out.2.1, HSM.out.2.2.1, HSM.out.2.2.2, HPE.out]
        rw [e]
        exact ⟨_, _, _, hP6⟩
      have HF := Lib.hid hfin
      clear hP6 hc6 hbl6 hfin CH
      go_wp2_with fail
      go_ret
      exact HF.out
end Go.Proofs.Ytkmjpphmciaklaa
