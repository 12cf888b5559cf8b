/- Contracts of catwalkref31 over this seat's translation: hand. Contracts of catwalkref31 over this seat's translation: skip, Tick. -/
import Derived.Test.YtkmjpphmciaklaaJ8
import Derived.IntWalk
namespace Go.Proofs.Ytkmjpphmciaklaa
open Go.RowKit
set_option linter.unusedVariables false
set_option linter.unusedSimpArgs false
attribute [local go_sem ↓] Go.wp_at_zero Go.wp_at_succ

/-- At the head of a round of 'hand'. -/
def HandInv (B q : Nat) (r : Rcv Value) (v0 : Value) (w : World) (g : Nat) (v5 v6 : Value) (wr : World) : Prop :=
  ∃ done nx l v, g = l.length ∧ Own 31 2 wr w.heap.size v5 (pk done) ∧ RefAt wr B q v ⟨nx, l, r.since, r.twice⟩ ∧ v6 = .int .i64 (findI l nx) ∧ Chg [q] w wr ∧ 0 ≤ nx ∧ nx < 4294967296 ∧ done.length + l.length = r.l.length ∧
    (runF r.l.length r.nx r.l).1 = done ++ (runF l.length nx l).1 ∧ (runF r.l.length r.nx r.l).2 = (runF l.length nx l).2 ∧ (∀ b, v.ownBlock = some b → v5.ownBlock ≠ some b) ∧ (v = v0 ∨ ∀ b, v.ownBlock = some b → w.heap.size ≤ b)

def HandPost (B q : Nat) (r : Rcv Value) (v0 : Value) (now : Int) (w : World) (e : Ending) (w' : World) : Prop :=
  ∃ o v, e = .returned o ∧ Own 31 2 w' w.heap.size o (pk (runF r.l.length r.nx r.l).1) ∧
    RefAt w' B q v ⟨(runF r.l.length r.nx r.l).2.1, (runF r.l.length r.nx r.l).2.2, now, r.twice⟩ ∧ Chg [q] w w' ∧ (v = v0 ∨ ∀ b, v.ownBlock = some b → w.heap.size ≤ b)

theorem findI_none {α : Type} {l : List (Int × α)} {k : Int} (h : findN l k = none) : findI l k = -1 := by unfold findI; rw [h]
theorem findI_some {α : Type} {l : List (Int × α)} {k : Int} {i : Nat} (h : findN l k = some i) : findI l k = i := by unfold findI; rw [h]

set_option maxRecDepth 100000 in
set_option maxHeartbeats 2000000 in
theorem hand_any (B q : Nat) (v0 : Value) (r : Rcv Value) (now : Int) (w : World) (hr : RefAt w B q v0 r) (hB : B ≤ w.heap.size) (h0 : 0 ≤ r.nx) (h1 : r.nx < 4294967296) (hlen : r.l.length ≤ 1000) :
    Calls Try.prog 57 #[.pointer (some ⟨q, 0, none⟩), .int .i64 now] w (HandPost B q r v0 now w) := by
  have HR := Lib.hid hr
  have hq : q < w.heap.size := hr.1.lt
  obtain ⟨c0, _⟩ := hr.1.four
  have CF := Lib.hid (find_any B q v0 r r.nx w hr (by omega))
  have hv0 : ∀ b, v0.ownBlock = some b → b < w.heap.size := fun b hb => (hr.2.1.lt b hb).2
  clear hr
  go_enter Try.func57, Try.ntmps57
  go_wp2_with fail
  refine CF.out.mono ?_; rintro e' w' ⟨rfl, rfl⟩
  clear CF
  go_wp2_with fail
  go_loopg [5, 6] r.l.length (fun g v5 v6 wr => HandInv B q r v0 w g v5 v6 wr)
  case atStart => exact ⟨[], r.nx, r.l, v0, rfl, Own.nil _ _ _ _, HR.out, rfl, Chg.refl _ _, h0, h1, by simp, by simp, rfl, fun b _ => by simp [Value.ownBlock], .inl rfl⟩
  case round =>
    obtain ⟨done, nx, l, v, rfl, hown, hat, rfl, hc, n0, n1, hdl, e1, e2, hsep, hnew⟩ := hrel
    have HOWN := Lib.hid hown
    have HAT := Lib.hid hat
    have HC := Lib.hid hc
    have E1 := Lib.hid e1
    have E2 := Lib.hid e2
    have HSEP := Lib.hid hsep
    have HNEW := Lib.hid hnew
    have HDL := Lib.hid hdl
    obtain ⟨a, cap, rfl, hcap, hcell⟩ := hat.cells
    simp only at hcap hcell
    obtain ⟨c0, c1, c2, c3, f0, f1, f2, f3⟩ := hat.1.four
    simp only at c0 c1 c2 c3
    have hsz := hc.size
    have hll : l.length ≤ 1000 := by omega
    rcases find_cases l nx with ⟨hlk, hf⟩ | ⟨i, d, hli, hlk, hf⟩
    · have hfi := findI_none hf
      rw [hfi]
      have hz := runF_none (f := l.length) hlk
      rw [hz] at e1 e2
      simp only [List.append_nil] at e1
      have hfin : HandPost B q r v0 now w (.returned u5) (wr.setCell ⟨q, 2, none⟩ (.int .i64 now)) := by
        have hcs : Chg [q] wr (wr.setCell ⟨q, 2, none⟩ (.int .i64 now)) := (Chg.refl _ _).set (by simp) _
        refine ⟨u5, _, rfl, ?_, ?_, hc.trans hcs, hnew⟩
        · rw [e1]
          exact hown.chg hcs (fun x hx => by simp at hx; subst hx; exact hown.ne hat.1 (by decide))
        · rw [e2]
          exact ⟨hat.1.set 2 _, hat.2.1.chg hcs (fun x hx => by simp at hx; subst hx; exact hat.2.1.ne hat.1 (by decide)), hat.2.2⟩
      have HF := Lib.hid hfin
      clear hown hat hc e1 e2 hsep hnew hdl hcell hlk hf hfi hz hfin
      go_wp2_with fail
      go_ret
      exact HF.out
    · have hil : i < l.length := (List.getElem?_eq_some_iff.1 hli).1
      have hfi := findI_some hf
      rw [hfi]
      obtain ⟨g, rfl, hg, hgl, ck0, ck1⟩ := hcell i hil
      have hlg : l[i]'hil = (nx, d) := by
        have := (List.getElem?_eq_some_iff.1 hli).2
        exact this
      rw [hlg] at ck0 ck1
      simp only at ck0 ck1
      obtain ⟨da, dn, dc, hd⟩ := hat.2.2.2 _ (List.mem_of_getElem? hli)
      simp only at hd
      subst hd
      obtain ⟨v', w1, happ, hown1, hch1, hob1⟩ := own_push elem31 27 hown hsz (x := [.int .u32 nx, .slice da dn dc]) (c := 1) rfl (by intro u hu; simp at hu; rcases hu with rfl | rfl <;> rfl) (by rw [pk_len]; omega)
      have hq1 : q ∉ (Value.ownBlock u5).toList := fun hx => hown.ne hat.1 (by decide) (by simpa using hx)
      have hat1 : RefAt w1 B q (.slice (some ⟨g, 0, none⟩) l.length cap) ⟨nx, l, r.since, r.twice⟩ := hat.chg hch1 hq1 (fun x hx e => hsep x e (by simpa using hx))
      have hc1 : Chg [q] w w1 := hc.trans' hch1 (fun x hx => Or.inr ((hown.lt x (by simpa using hx)).1))
      -- the second statement
      obtain ⟨k3, hk3⟩ : ∃ k3, k3 = i + 1 := ⟨_, rfl⟩
      have hwrap : IntKind.i64.wrap ((i : Nat) + 1 : Int) = ((k3 : Nat) : Int) := by rw [IntKind.wrap_i64]; omega
      obtain ⟨o2, ho2⟩ : ∃ o2, o2 = if cap = k3 then 0 else k3 * 2 := ⟨_, rfl⟩
      have hif : (if cap = k3 then some (⟨g, 0, none⟩ : Addr) else some ⟨g, k3 * 2, none⟩) = some ⟨g, o2, none⟩ := by rw [ho2]; split <;> rfl
      have hpl := pk_len l
      have hw0 : Chg [] w1 (w1.alloc (.cells #[] 31)).drew := ((Chg.refl _ _).alloc _).drew
      have he0 : Own 31 2 (w1.alloc (.cells #[] 31)).drew w1.heap.size (.slice (some ⟨w1.heap.size, 0, none⟩) 0 0) [] := ⟨Flat.nil _, World.ownsRow_made w1 #[] 0 (Nat.le_refl _) (by decide) rfl⟩
      obtain ⟨v1, wb, v2, w2, happ1, happ2, hown2, hcb, hc2⟩ := own_del elem31 27 (wa := w1) (k := i) (cap := cap) (g := g) (o2 := o2) (xs := pk l) (base := B) (by rw [hpl]; exact hat1.2.1) (by rw [hpl]; exact hil) (by rw [hpl]; omega) (by rw [hpl]; exact hcap) hw0 he0 (fun hne => by rw [ho2, if_neg (by omega), hk3])
      rw [hpl, ← hk3] at happ2
      obtain ⟨v2a, v2c, hv2⟩ := hown2.slice
      obtain ⟨v2n, hv2n⟩ : ∃ v2n, v2n = ((pk l).eraseIdx i).length := ⟨_, rfl⟩
      rw [← hv2n] at hv2
      subst hv2
      have hq2 : At w2 q 55 [.int .u32 nx, .slice (some ⟨g, 0, none⟩) l.length cap, .int .i64 r.since, .int .i64 r.twice] := hat1.1.chg hc2 (by simp)
      have hera : pk (l.filter (fun p => p.1 != nx)) = (pk l).eraseIdx i := by
        rw [← erase_key hat.2.2.1 hli]
        exact map_erase _ _ _
      obtain ⟨nx', hnx'⟩ : ∃ nx', nx' = (nx + 1) % 4294967296 := ⟨_, rfl⟩
      obtain ⟨wf, hwf⟩ : ∃ wf, wf = (w2.setCell ⟨q, 1, none⟩ (.slice v2a v2n v2c)).setCell ⟨q, 0, none⟩ (.int .u32 nx') := ⟨_, rfl⟩
      have hcf : Chg [q] w2 wf := by rw [hwf]; exact ((Chg.refl [q] w2).set (by simp) _).set (by simp) _
      have hv2q : (Value.slice v2a v2n v2c).ownBlock ≠ some q := hown2.ne hq2 (by decide)
      have hlt1 := hc1.size
      have hatf : RefAt wf B q (.slice v2a v2n v2c) ⟨nx', l.filter (fun p => p.1 != nx), r.since, r.twice⟩ := by
        refine ⟨by rw [hwf]; exact (hq2.set 1 _).set 0 _, ?_, ?_, fun p hp => hat.2.2.2 p (List.mem_filter.1 hp).1⟩
        · rw [hera]
          exact (hown2.mono (by omega)).chg hcf (fun x hx => by simp at hx; subst hx; exact hv2q)
        · exact hat.2.2.1.sublist (List.filter_sublist.map _)
      have hownf : Own 31 2 wf w.heap.size v' (pk (done ++ [(nx, .slice da dn dc)])) := by
        rw [pk_app]
        exact (hown1.keep hc2).chg hcf (fun x hx => by simp at hx; subst hx; exact (hown1.keep hc2).ne hq2 (by decide))
      have hfl : (l.filter (fun p => p.1 != nx)).length + 1 = l.length := filter_len hat.2.2.1 (List.mem_of_getElem? hli)
      have hrun := runF_some (f := (l.filter (fun p => p.1 != nx)).length) hlk
      rw [hfl, ← hnx'] at hrun
      rw [hrun] at e1 e2
      have hnn : 0 ≤ nx' ∧ nx' < 4294967296 := by omega
      have CF := Lib.hid (find_any B q (.slice v2a v2n v2c) _ nx' wf hatf (by show (l.filter _).length ≤ _; omega))
      have hfin : HandInv B q r v0 w (l.filter (fun p => p.1 != nx)).length v' (.int .i64 (findI (l.filter (fun p => p.1 != nx)) nx')) wf := by
        refine ⟨_, nx', _, .slice v2a v2n v2c, rfl, hownf, hatf, rfl, (hc1.trans' hc2 (by simp)).trans hcf, hnn.1, hnn.2, by simp; omega, by rw [e1]; simp, e2, fun b hb e => ?_, .inr fun b hb => ?_⟩
        · have h1 := (hown2.lt b hb).1
          have h2 := (hown1.lt b e).2
          omega
        · have h1 := (hown2.lt b hb).1
          omega
      have HF := Lib.hid hfin
      have HA1 := Lib.hid happ1
      have HA2 := Lib.hid happ2
      have HFL := Lib.hid hfl
      have HWF := Lib.hid hwf
      have HKB := Lib.hid ((hcb.cell (p := ⟨q, 1, none⟩) hat1.1.lt (by simp)).trans hat1.1.four.2.1)
      have HNX := Lib.hid hnx'
      obtain ⟨d0, d1, d2, d3, x0, x1, x2, x3⟩ := hat1.1.four
      obtain ⟨y0, y1, y2, y3, z0, z1, z2, z3⟩ := hq2.four
      have hq1l : q < w1.heap.size := hat1.1.lt
      have hil' : ((i : Nat) : Int) < (l.length : Nat) := by omega
      have hi0' : (0 : Int) ≤ ((i : Nat) : Int) := by omega
      have hic : i ≤ cap := by omega
      have hk3l : k3 ≤ l.length := by omega
      have h41 : w1.alloc (.cells #[] 31) = w1.alloc (.cells #[] 31) := rfl
      simp only at d0 d1 d2 d3
      clear h41 hv2n hown hat hc e1 e2 hsep hnew hdl hcell hlk hf hfi hlg hown1 hch1 hob1 hq1 hat1 hc1 hk3 ho2 hpl hw0 he0 happ1 happ2 hown2 hcb hc2 hq2 hera hnx' hwf hcf hv2q hatf hownf hfl hrun hfin HOWN HAT HC E1 E2 HSEP HNEW HDL hli HR hv0
      go_wp2_with (at_builtin; refine wpList_app_eq rfl _ _ 27 rfl rfl rfl happ ?_)
      clear happ c0 c1 c2 c3 f0 f1 f2 f3 ck0 ck1
      go_upto_region 6 with (fail)
      refine wp_region_phase 19 (fun w' => w'.cell? ⟨q, 1, none⟩ = some (.slice (some ⟨g, 0, none⟩) l.length cap)) (by kernel_rfl) ?_
      refine wpAnyP_with (by exact d1) (fun hSw => ?_)
      refine wpAnyP_take 0 [] (v := ?_) rfl (by kernel_rfl) (fun _ _ _ h => h) (by assumption) (Or.inl ⟨by rfl, ?_⟩) ?_
      rotate_left
      · (intro w hSw; (try dsimp only at hSw); go_simp; try with_reducible rfl)
      simp only [Act.put, List.setIfInBounds_toArray, List.set_cons_zero, List.set_cons_succ]
      refine wpAnyP_take 2 [] (v := ?_) rfl (by kernel_rfl) (fun _ _ _ h => h) (by assumption) (Or.inl ⟨by rfl, ?_⟩) ?_
      rotate_left
      · (intro w hSw; (try dsimp only at hSw); go_simp; try with_reducible rfl)
      simp only [Act.put, List.setIfInBounds_toArray, List.set_cons_zero, List.set_cons_succ]
      refine wpAnyP_take 3 [] (v := ?_) rfl (by kernel_rfl) (fun _ _ _ h => h) (by assumption) (Or.inl ⟨by rfl, ?_⟩) ?_
      rotate_left
      · (intro w hSw; (try dsimp only at hSw); go_simp; try with_reducible rfl)
      simp only [Act.put, List.setIfInBounds_toArray, List.set_cons_zero, List.set_cons_succ]
      refine wpAnyP_take 4 [] (v := ?_) rfl (by kernel_rfl) (fun _ _ _ h => h) (by assumption) (Or.inl ⟨by rfl, ?_⟩) ?_
      rotate_left
      · (intro w hSw; (try dsimp only at hSw); go_simp; try with_reducible rfl)
      simp only [Act.put, List.setIfInBounds_toArray, List.set_cons_zero, List.set_cons_succ]
      refine wpAnyP_take 5 [] (v := ?_) rfl (by kernel_rfl) (fun _ _ _ h => h) (by assumption) (Or.inl ⟨by rfl, ?_⟩) ?_
      rotate_left
      · (intro w hSw; (try dsimp only at hSw); go_simp; try with_reducible rfl)
      simp only [Act.put, List.setIfInBounds_toArray, List.set_cons_zero, List.set_cons_succ]
      refine wpAnyP_take 6 [] (v := ?_) rfl (by kernel_rfl) (fun _ _ _ h => h) (by assumption) (Or.inl ⟨by rfl, ?_⟩) ?_
      rotate_left
      · (intro w hSw; (try dsimp only at hSw); go_simp; try with_reducible rfl)
      simp only [Act.put, List.setIfInBounds_toArray, List.set_cons_zero, List.set_cons_succ]
      refine wpAnyP_take 7 [] (v := ?_) rfl (by kernel_rfl) (fun _ _ _ h => h) (by assumption) (Or.inl ⟨by rfl, ?_⟩) ?_
      rotate_left
      · (intro w hSw; (try dsimp only at hSw); go_simp; try with_reducible rfl)
      simp only [Act.put, List.setIfInBounds_toArray, List.set_cons_zero, List.set_cons_succ]
      refine wpAnyP_take 9 [] (v := ?_) rfl (by kernel_rfl) (fun _ _ _ h => h) (by assumption) (Or.inl ⟨by rfl, ?_⟩) ?_
      rotate_left
      · (intro w hSw; (try dsimp only at hSw); go_simp; try with_reducible rfl)
      simp only [Act.put, List.setIfInBounds_toArray, List.set_cons_zero, List.set_cons_succ]
      refine wpAnyP_take 10 [] (v := ?_) rfl (by kernel_rfl) (fun _ _ _ h => h) (by assumption) (Or.inl ⟨by rfl, ?_⟩) ?_
      rotate_left
      · (intro w hSw; (try dsimp only at hSw); go_simp; try with_reducible rfl)
      simp only [Act.put, List.setIfInBounds_toArray, List.set_cons_zero, List.set_cons_succ]
      refine wpAnyP_take 11 [] (v := ?_) rfl (by kernel_rfl) (fun _ _ _ h => h) (by assumption) (Or.inl ⟨by rfl, ?_⟩) ?_
      rotate_left
      · (intro w hSw; (try dsimp only at hSw); go_simp; try with_reducible rfl)
      simp only [Act.put, List.setIfInBounds_toArray, List.set_cons_zero, List.set_cons_succ]
      refine wpAnyP_take 12 [] (v := ?_) rfl (by kernel_rfl) (fun _ _ _ h => h) (by assumption) (Or.inl ⟨by rfl, ?_⟩) ?_
      rotate_left
      · (intro w hSw; (try dsimp only at hSw); go_simp; try with_reducible rfl)
      simp only [Act.put, List.setIfInBounds_toArray, List.set_cons_zero, List.set_cons_succ]
      refine wpAnyP_take 13 [] (v := ?_) rfl (by kernel_rfl) (fun _ _ _ h => h) (by assumption) (Or.inl ⟨by rfl, ?_⟩) ?_
      rotate_left
      · (intro w hSw; (try dsimp only at hSw); go_simp; try with_reducible rfl)
      simp only [Act.put, List.setIfInBounds_toArray, List.set_cons_zero, List.set_cons_succ]
      refine wpAnyP_take 14 [] (v := ?_) rfl (by kernel_rfl) (fun _ _ _ h => h) (by assumption) (Or.inl ⟨by rfl, ?_⟩) ?_
      rotate_left
      · (intro w hSw; (try dsimp only at hSw); go_simp; try with_reducible rfl)
      simp only [Act.put, List.setIfInBounds_toArray, List.set_cons_zero, List.set_cons_succ]
      refine wpAnyP_take 15 [] (v := ?_) rfl (by kernel_rfl) (fun _ _ _ h => h) (by assumption) (Or.inl ⟨by rfl, ?_⟩) ?_
      rotate_left
      · (intro w hSw; (try dsimp only at hSw); go_simp; try with_reducible rfl)
      simp only [Act.put, List.setIfInBounds_toArray, List.set_cons_zero, List.set_cons_succ]
      refine wpAnyP_one 1 rfl (by kernel_rfl) (fun K hK => ?_)
      rw [if_pos (by rfl)]
      go_wp2_with (fail)
      refine hold_with (by (try dsimp only at hSw); exact (((Chg.refl [] w1).alloc _).drew.cell (p := ⟨q, 1, none⟩) hq1l (by simp)).trans d1) (fun hSn => ?_)
      clear hSw; have hSw := hSn; clear hSn
      refine wpAnyP_one 8 rfl (by kernel_rfl) (fun K hK => ?_)
      rw [if_pos (by rfl)]
      (refine wp_app_eq _ _ 27 rfl rfl rfl HA1.out ?_; go_wp2_with (fail))
      refine hold_with (by (try dsimp only at hSw); exact HKB.out) (fun hSn => ?_)
      clear hSw; have hSw := hSn; clear hSn
      refine wpAnyP_one 16 rfl (by kernel_rfl) (fun K hK => ?_)
      rw [if_pos (by rfl)]
      (refine wp_app_eq _ _ 27 rfl rfl rfl HA2.out ?_; go_wp2_with (fail))
      refine hold_with (by (try dsimp only at hSw); exact y1) (fun hSn => ?_)
      clear hSw; have hSw := hSn; clear hSn
      refine wpAnyP_take 17 [18] (v := ?_) rfl (by kernel_rfl) (fun _ _ _ h => h) (by assumption) (Or.inl ⟨by rfl, ?_⟩) ?_
      rotate_left
      · (intro w hSw; (try dsimp only at hSw); go_simp; try with_reducible rfl)
      simp only [Act.put, List.setIfInBounds_toArray, List.set_cons_zero, List.set_cons_succ]
      refine wpAnyP_take 18 [] (v := ?_) rfl (by kernel_rfl) (fun _ _ _ h => h) (by assumption) (Or.inl ⟨by rfl, ?_⟩) ?_
      rotate_left
      · (intro w hSw; (try dsimp only at hSw); go_simp; try with_reducible rfl)
      simp only [Act.put, List.setIfInBounds_toArray, List.set_cons_zero, List.set_cons_succ]
      refine wpAnyP_one 19 rfl (by kernel_rfl) (fun K hK => ?_)
      rw [if_pos (by rfl)]
      go_wp2_with (fail)
      refine ⟨fun hz => (by simp at hz), ?_⟩
      refine wpAnyP_done (by kernel_rfl) ?_ _
      skip
      clear hSw d0 d1 d2 d3 x0 x1 x2 x3 hwrap hif HA1 HA2 HKB
      go_wp2_with fail
      rw [← HNX.out, ← HWF.out]
      refine CF.out.mono ?_; rintro e' w' ⟨rfl, rfl⟩
      clear CF
      go_wp2_with fail
      go_roundg (l.filter (fun p => p.1 != nx)).length
      case measure => have := HFL.out; omega
      case rel => exact HF.out
end Go.Proofs.Ytkmjpphmciaklaa
namespace Go.Proofs.Ytkmjpphmciaklaa
open Go.RowKit
set_option linter.unusedVariables false
set_option linter.unusedSimpArgs false
attribute [local go_sem ↓] Go.wp_at_zero Go.wp_at_succ

def RefPost (B q : Nat) (r' : Rcv Value) (out : List (Int × Value)) (v0 : Value) (w : World) (e : Ending) (w' : World) : Prop :=
  ∃ o v, e = .returned o ∧ Own 31 2 w' w.heap.size o (pk out) ∧ RefAt w' B q v r' ∧ Chg (q :: v0.ownBlock.toList) w w'
theorem HandPost.ref {B q : Nat} {r : Rcv Value} {v0 : Value} {now : Int} {w : World} {e : Ending} {w' : World} (h : HandPost B q r v0 now w e w') : RefPost B q (r.run r.nx now).1 (r.run r.nx now).2 v0 w e w' := by
  obtain ⟨o, v, he, h1, h2, h3, _⟩ := h
  exact ⟨o, v, he, h1, h2, h3.mono (fun x hx => by simp at hx; subst hx; left; simp)⟩

set_option maxRecDepth 100000 in
set_option maxHeartbeats 2000000 in
theorem skip_any (B q : Nat) (v0 : Value) (r : Rcv Value) (now : Int) (w : World) (hr : RefAt w B q v0 r) (hB : B ≤ w.heap.size) (ok : r.Ok) (hne : r.l ≠ []) (hlen : r.l.length ≤ 1000) :
    Calls Try.prog 54 #[.pointer (some ⟨q, 0, none⟩), .int .i64 now] w (RefPost B q (r.run (leastK r.nx r.l) now).1 (r.run (leastK r.nx r.l) now).2 v0 w) := by
  have HR := Lib.hid hr
  have OK := Lib.hid ok
  have hq : q < w.heap.size := hr.1.lt
  have hpos : 0 < r.l.length := List.length_pos_iff.2 hne
  obtain ⟨a, cap, rfl, hcap, hcell⟩ := hr.cells
  obtain ⟨g0, rfl, hg0, hgl0, e00, e01⟩ := hcell 0 hpos
  have hcells : ∀ k (hk : k < r.l.length), w.cell? ⟨g0, k * 2, none⟩ = some (.int .u32 (r.l[k]'hk).1) := fun k hk => by
    obtain ⟨g, e, _, _, e0, _⟩ := hcell k hk
    simp only [Option.some.injEq, Addr.mk.injEq, and_true] at e
    rw [e]; exact e0
  obtain ⟨c0, c1, c2, c3, f0, f1, f2, f3⟩ := hr.1.four
  obtain ⟨b0, hb0⟩ : ∃ b0, b0 = (r.l[0]'hpos).1 := ⟨_, rfl⟩
  have d0 : w.cell? ⟨g0, 0, none⟩ = some (.int .u32 b0) := by rw [hb0]; exact hcells 0 hpos
  have HB0 := Lib.hid hb0
  have HC := Lib.hid hcells
  have hpos' : (0 : Int) < (r.l.length : Nat) := by omega
  have hkb : ∀ k (hk : k < r.l.length), 0 ≤ (r.l[k]'hk).1 ∧ (r.l[k]'hk).1 < 4294967296 ∧ off r.nx (r.l[k]'hk).1 < 2147483648 := fun k hk => ok.keys _ (List.getElem_mem hk)
  have HKB := Lib.hid hkb
  clear hr ok hne hcell hb0 e00 e01 hcells hkb
  go_enter Try.func54, Try.ntmps54
  go_wp2_with fail
  go_loopg [5, 6] r.l.length (fun g s5 s6 wr => ∃ (k j : Nat) (hj : j < r.l.length), k ≤ r.l.length ∧ g = r.l.length - k ∧ s6 = .int .i64 k ∧ s5 = .int .u32 (r.l[j]'hj).1 ∧ (∀ i (hi : i < r.l.length), i < k → off r.nx (r.l[j]'hj).1 ≤ off r.nx (r.l[i]'hi).1) ∧ w = wr)
  case atStart => exact ⟨0, 0, hpos, by omega, rfl, rfl, by rw [HB0.out], fun i hi h => by omega, rfl⟩
  case round =>
    obtain ⟨k, j, hj, hk, rfl, rfl, rfl, hmin, rfl⟩ := hrel
    obtain ⟨best, hbest⟩ : ∃ b, b = (r.l[j]'hj).1 := ⟨_, rfl⟩
    have hbb := HKB.out j hj
    rw [← hbest] at hmin hbb ⊢
    have HM := Lib.hid hmin
    have HBE := Lib.hid hbest
    clear hmin hbest
    obtain ⟨hb1, hb2, hb3⟩ := hbb
    by_cases hkl : k < r.l.length
    · have hkl' : ((k : Nat) : Int) < (r.l.length : Nat) := by omega
      have hxb := HKB.out k hkl
      have ck := HC.out k hkl
      obtain ⟨x, hx⟩ : ∃ x, x = (r.l[k]'hkl).1 := ⟨_, rfl⟩
      rw [← hx] at hxb ck
      obtain ⟨hx1, hx2, hx3⟩ := hxb
      have HX := Lib.hid hx
      have CL := Lib.hid (less02_any x best w hx1 hx2 hb1 hb2)
      have HL := Lib.hid (less_off r.nx x best hx1 hx2 hb1 hb2 hx3 hb3)
      clear hx
      by_cases hlt : off r.nx x < off r.nx best
      · have hd := decide_eq_true hlt
        rw [← HL.out] at hd
        have HD := Lib.hid hd
        have HLT := Lib.hid hlt
        clear hd hlt
        go_wp2_with fail
        refine CL.out.mono ?_; rintro e' w' ⟨rfl, rfl⟩
        rw [HD.out]
        go_wp2_with fail
        go_roundg (r.l.length - (k + 1))
        case measure => omega
        case rel =>
          refine ⟨k + 1, k, hkl, by omega, rfl, rfl, by rw [HX.out], fun i hi h => ?_, rfl⟩
          rw [← HX.out]
          by_cases e : i = k
          · subst e; rw [← HX.out]; omega
          · have h1 := HM.out i hi (by omega)
            have h2 := HLT.out
            omega
      · have hd := decide_eq_false hlt
        rw [← HL.out] at hd
        have HD := Lib.hid hd
        have HLT := Lib.hid hlt
        clear hd hlt
        go_wp2_with fail
        refine CL.out.mono ?_; rintro e' w' ⟨rfl, rfl⟩
        rw [HD.out]
        go_wp2_with fail
        go_roundg (r.l.length - (k + 1))
        case measure => omega
        case rel =>
          refine ⟨k + 1, j, hj, by omega, rfl, rfl, by rw [HBE.out], fun i hi h => ?_, rfl⟩
          rw [← HBE.out]
          by_cases e : i = k
          · subst e; have := HLT.out; rw [← HX.out]; omega
          · exact HM.out i hi (by omega)
    · obtain rfl : k = r.l.length := by omega
      have hkk : best = leastK r.nx r.l := by
        obtain ⟨⟨p, hp, e1⟩, e2⟩ := leastK_spec r.nx r.l (List.ne_nil_of_length_pos hpos)
        obtain ⟨i, hi, rfl⟩ := List.mem_iff_getElem.1 hp
        have h2 := HKB.out i hi
        have h3 := e2 _ (List.getElem_mem hj)
        have h4 := HM.out i hi hi
        rw [e1] at h3 ⊢
        rw [← HBE.out] at h3
        exact off_inj r.nx best _ hb1 hb2 h2.1 h2.2.1 (by omega)
      have hcs : Chg [q] w (w.setCell ⟨q, 0, none⟩ (.int .u32 best)) := (Chg.refl _ _).set (by simp) _
      have hr2 : RefAt (w.setCell ⟨q, 0, none⟩ (.int .u32 best)) B q (.slice (some ⟨g0, 0, none⟩) r.l.length cap) ⟨best, r.l, r.since, r.twice⟩ :=
        ⟨HR.out.1.set 0 _, HR.out.2.1.chg hcs (fun x hx => by simp at hx; subst hx; exact HR.out.2.1.ne HR.out.1 (by decide)), HR.out.2.2⟩
      have CT := Lib.hid (hand_any B q _ _ now _ hr2 (Nat.le_trans hB hcs.size) hb1 hb2 hlen)
      have HK := Lib.hid hkk
      have HCS := Lib.hid hcs
      clear hcs hr2 hkk
      go_wp2_with fail
      refine CT.out.mono ?_
      rintro e' w' hp
      obtain ⟨o, v, rfl, h1, h2, h3⟩ := hp.ref
      have H1 := Lib.hid h1
      have H2 := Lib.hid h2
      have H3 := Lib.hid h3
      clear h1 h2 h3 hp CT
      go_wp2_with fail
      go_ret
      rw [← HK.out]
      refine ⟨o, v, rfl, ?_, H2.out, ?_⟩
      · exact H1.out.mono HCS.out.size
      · exact (HCS.out.mono (fun x hx => by simp at hx; subst hx; left; simp)).trans H3.out
end Go.Proofs.Ytkmjpphmciaklaa
