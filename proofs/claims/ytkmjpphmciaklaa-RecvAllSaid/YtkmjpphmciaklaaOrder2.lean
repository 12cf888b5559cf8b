/- Order: the walk. -/
import Derived.Test.YtkmjpphmciaklaaOrder
namespace Go.Proofs.Ytkmjpphmciaklaa
open Go.RowKit
set_option linter.unusedVariables false
set_option linter.unusedSimpArgs false
attribute [local go_sem ↓] Go.wp_at_zero Go.wp_at_succ

/-- At the head of a round of the second loop. -/
def OrdInv (many : Nat) (w : World) (g : Nat) (v5 v6 v8 : Value) (wr : World) : Prop :=
  ∃ (out left : List Nat) (i : Nat), g = left.length ∧ v8 = .int .i64 i ∧ i ≤ many ∧ out.length + left.length = many ∧ Ints wr w.heap.size v5 out ∧ Ints wr w.heap.size v6 left ∧
    (v6.ownBlock = none ∨ v6.ownBlock ≠ v5.ownBlock) ∧ left.Pairwise (· < ·) ∧ (∀ j ∈ left, i ≤ j + 7 ∧ j < many) ∧ (∀ rest, Good i left rest → Good 0 (List.range many) (out ++ rest)) ∧ Chg [] w wr ∧ i = out.length

theorem Ints.slice {w : World} {base : Nat} {v : Value} {xs : List Nat} (h : Ints w base v xs) : ∃ a c, v = .slice a xs.length c := by
  rcases h.2 with ⟨rfl, h0⟩ | ⟨g, cap, cur, rfl, _⟩
  · exact ⟨_, _, by rw [h0]⟩
  · exact ⟨_, _, rfl⟩
theorem Ints.own {w : World} {base : Nat} {v : Value} {xs : List Nat} (h : Ints w base v xs) : ∀ k ∈ v.ownBlock.toList, base ≤ k := owns_base h

set_option maxRecDepth 100000 in
set_option maxHeartbeats 2000000 in
theorem order_any (many : Nat) (a : Option Addr) (len cap : Nat) (w : World) (hmany : many ≤ 200) (ht : Turns w a len) (hlen : len ≤ 300) :
    Calls Try.prog 12 #[.int .i64 many, .slice a len cap] w (OrderPost many w) := by
  have HT := Lib.hid ht
  clear ht
  go_enter Try.func12, Try.ntmps12
  go_wp2_with fail
  go_loopg [6, 7] many (fun g s6 s7 wr => ∃ k : Nat, k ≤ many ∧ g = many - k ∧ s7 = .int .i64 k ∧ Ints wr w.heap.size s6 (List.range k) ∧ Chg [] w wr)
  case atStart => exact ⟨0, by omega, rfl, rfl, Ints.nil _ _, Chg.refl _ _⟩
  case round =>
    obtain ⟨k, hk, rfl, rfl, hI, hC⟩ := hrel
    by_cases hkm : k < many
    · obtain ⟨v', w', happ, hI', hg, hob⟩ := ints_app (World.ownsRow.alloc hI (.cells #[.int .i64 k] 3)) (hC.alloc (.cells #[.int .i64 k] 3)).size (g := wr.heap.size) (o := 0) (m := 1) (c := 1) (news := [k]) rfl (fun j hj => by
        have : j = 0 := by simp at hj; exact hj
        subst this
        exact (At.new wr 3 [.int .i64 k]).cell 0) (by rw [List.length_range]; omega)
      have HI' := Lib.hid hI'
      have HC' := Lib.hid ((hC.alloc (.cells #[.int .i64 k] 3)).trans' (grown_chg hg) (fun x hx => Or.inr (Ints.own hI x hx)))
      clear hI' hg hob hI hC
      go_wp2_with (at_builtin; refine wpList_append_eq rfl _ _ 23 rfl rfl rfl happ ?_)
      clear happ
      go_wp2_with fail
      go_roundg (many - (k + 1))
      case measure => omega
      case rel => exact ⟨k + 1, by omega, rfl, rfl, by rw [List.range_succ]; exact HI'.out, HC'.out⟩
    · obtain rfl : k = many := by omega
      have HI := Lib.hid hI
      have HC := Lib.hid hC
      clear hI hC
      go_wp2_with fail
      go_loopg [5, 6, 8, 9] k (fun g s5 s6 s8 s9 wr => OrdInv k w g s5 s6 s8 wr)
      case atStart =>
        refine ⟨[], List.range k, 0, by simp, rfl, by omega, by simp, Ints.nil _ _, HI.out, ?_, List.pairwise_lt_range, fun j hj => ⟨by omega, by simpa using hj⟩, fun rest h => h, HC.out, rfl⟩
        · cases Value.ownBlock u6 <;> simp [Value.ownBlock]
      case round =>
        obtain ⟨out, left, i, rfl, rfl, hik, hol, h5, h6, hsep, hsrt, hwt, hgd, hch, hio⟩ := hrel
        by_cases hle : left = []
        · have HH := Lib.hid (show OrderPost k w (.returned u5) wr from ⟨u5, out, rfl, h5, by have := hgd [] (by rw [hle]; exact Good.nil _); simpa using this, hch⟩)
          subst hle
          obtain ⟨a6, c6, rfl⟩ := h6.slice
          clear h5 h6 hsep hsrt hwt hgd hch
          go_wp2_with fail
          go_ret
          exact HH.out
        · obtain ⟨g6, cap6, rfl, hg6, hb6, hc6, hm6, hcell⟩ := h6.form hle
          have hpos : 0 < left.length := List.length_pos_iff.2 hle
          obtain ⟨l0, hl0⟩ : ∃ l0, l0 = left[0]'hpos := ⟨_, rfl⟩
          have c0 : wr.cell? ⟨g6, 0, none⟩ = some (.int .i64 (l0 : Nat)) := by rw [hl0]; exact hcell 0 hpos
          have hl1 := hwt l0 (by rw [hl0]; exact List.getElem_mem hpos)
          obtain ⟨hl2, hl3⟩ := hl1
          have hpos' : (0 : Int) < (left.length : Nat) := by omega
          have H5 := Lib.hid h5
          have H6 := Lib.hid h6
          have HSEP := Lib.hid hsep
          have HSRT := Lib.hid hsrt
          have HWT := Lib.hid hwt
          have HGD := Lib.hid hgd
          have HCH := Lib.hid hch
          have HCELL := Lib.hid hcell
          have HL0 := Lib.hid hl0
          have HOL := Lib.hid hol
          have HLE := Lib.hid hle
          have hio' : i ≤ out.length := by omega
          have hoi' : out.length ≤ i := by omega
          have hll : left.length ≤ 200 := by omega
          clear h5 h6 hsep hsrt hwt hgd hch hcell hl0 hol hle hio HI HC
          go_upto_region 10 with (fail)
          go_cut [35] (fun s35 wx => s35 = .bool (decide (i < len ∧ i < l0 + 7)) ∧ wx = wr)
          case first =>
            by_cases h1 : i < len
            · by_cases h2 : i < l0 + 7
              · have f1 : ((i : Nat) : Int) < (len : Nat) := by omega
                have f2 : ((i : Nat) : Int) - 7 < (l0 : Nat) := by omega
                go_wp2_with fail
                go_meet
                exact ⟨by simp [h1, h2], rfl⟩
              · have f1 : ((i : Nat) : Int) < (len : Nat) := by omega
                have f2 : ¬ ((i : Nat) : Int) - 7 < (l0 : Nat) := by omega
                go_wp2_with fail
                go_meet
                exact ⟨by simp [h1, h2], rfl⟩
            · have f1 : ¬ ((i : Nat) : Int) < (len : Nat) := by omega
              go_wp2_with fail
              go_meet
              exact ⟨by simp [h1], rfl⟩
          case rest =>
            obtain ⟨rfl, hw⟩ := hcut
            obtain rfl : wr = wc := hw.symm
            go_upto_if 35 with (fail)
            go_cut [9] (fun s9 wx => ∃ kk : Nat, s9 = .int .i64 kk ∧ kk < left.length ∧ (l0 + 7 ≤ i → kk = 0) ∧ wx = wr)
            case first =>
              by_cases hb : i < len ∧ i < l0 + 7
              · obtain ⟨b, off, n, rfl, hbl, hcl⟩ := HT.out i hb.1
                have ct : wr.cell? ⟨b, off + i, none⟩ = some (.int .i64 n) := by rw [HCH.out.cell hbl (by simp)]; exact hcl
                have hb1 := hb.1
                have hb2 := hb.2
                rw [decide_eq_true hb]
                clear hb hcl
                go_wp2_with fail
                all_goals
                  go_meet
                  first
                    | exact ⟨7, (show Value.int .i64 7 = Value.int .i64 ((7 : Nat) : Int) from rfl), by omega, fun h => by omega, rfl⟩
                    | exact ⟨0, (show Value.int .i64 0 = Value.int .i64 ((0 : Nat) : Int) from rfl), by omega, fun h => by omega, rfl⟩
                    | exact ⟨left.length - 1, (show Value.int .i64 ((left.length : Nat) - 1 : Int) = Value.int .i64 ((left.length - 1 : Nat) : Int) from congrArg _ (by omega)), by omega, fun h => by omega, rfl⟩
                    | exact ⟨n.toNat, (show Value.int .i64 n = Value.int .i64 ((n.toNat : Nat) : Int) from congrArg _ (by omega)), by omega, fun h => by omega, rfl⟩
              · rw [decide_eq_false hb]
                go_wp2_with fail
                go_meet
                exact ⟨0, rfl, hpos, fun _ => rfl, rfl⟩
            case rest =>
              obtain ⟨kk, rfl, hkk, hkz, hw⟩ := hcut
              obtain rfl : wr = wc := hw.symm
              obtain ⟨lk1, hlk1⟩ : ∃ x, x = left[kk]'hkk := ⟨_, rfl⟩
              have ck : wr.cell? ⟨g6, kk, none⟩ = some (.int .i64 (lk1 : Nat)) := by rw [hlk1]; exact HCELL.out kk hkk
              have hlk2 := (HWT.out lk1 (by rw [hlk1]; exact List.getElem_mem hkk)).2
              have HLK1 := Lib.hid hlk1
              clear hlk1
              have hkk' : ((kk : Nat) : Int) < (left.length : Nat) := by omega
              go_upto_if 51 with (fail)
              go_cut [9] (fun s9 wx => ∃ kk : Nat, s9 = .int .i64 kk ∧ kk < left.length ∧ (l0 + 7 ≤ i → kk = 0) ∧ wx = wr)
              case first =>
                go_wp2_with fail
                all_goals
                  go_meet
                  first
                    | exact ⟨0, (show Value.int .i64 0 = Value.int .i64 ((0 : Nat) : Int) from rfl), hpos, fun h => rfl, rfl⟩
                    | exact ⟨kk, rfl, hkk, hkz, rfl⟩
              case rest =>
                obtain ⟨k2, rfl, hk2, hkz2, hw⟩ := hcut
                obtain rfl : wr = wc := hw.symm
                clear ck HLK1 hlk2 hkk' hkz hkk
                obtain ⟨n2, hn2⟩ : ∃ x, x = left[k2]'hk2 := ⟨_, rfl⟩
                have ck : wr.cell? ⟨g6, k2, none⟩ = some (.int .i64 (n2 : Nat)) := by rw [hn2]; exact HCELL.out k2 hk2
                have hk2' : ((k2 : Nat) : Int) < (left.length : Nat) := by omega
                have HN2 := Lib.hid hn2
                clear hn2 c0
                have hwsz := HCH.out.size
                obtain ⟨v5, wa, happ, h5a, hga, hoba⟩ := ints_app (World.ownsRow.alloc H5.out (.cells #[.int .i64 n2] 3)) (HCH.out.alloc (.cells #[.int .i64 n2] 3)).size (g := wr.heap.size) (o := 0) (m := 1) (c := 1) (news := [n2]) rfl (fun j hj => by
                  have : j = 0 := by simp at hj; exact hj
                  subst this
                  exact (At.new wr 3 [.int .i64 n2]).cell 0) (by omega)
                have h6a : Ints wa w.heap.size (.slice (some ⟨g6, 0, none⟩) left.length cap6) left := Ints.kept (World.ownsRow.alloc H6.out (.cells #[.int .i64 n2] 3)) hga HSEP.out
                have hca := ((HCH.out.alloc (.cells #[.int .i64 n2] 3)).trans' (grown_chg hga) (fun x hx => Or.inr (Ints.own H5.out x hx)))
                have H5A := Lib.hid h5a
                have H6A := Lib.hid h6a
                have HCA := Lib.hid hca
                clear h5a h6a hca hga hoba
                go_wp2_with (at_builtin; refine wpList_append_eq rfl _ _ 23 rfl rfl rfl happ ?_)
                clear happ ck
                obtain ⟨k3, hk3⟩ : ∃ k3, k3 = k2 + 1 := ⟨_, rfl⟩
                have hwrap : IntKind.i64.wrap ((k2 : Nat) + 1 : Int) = ((k3 : Nat) : Int) := by rw [IntKind.wrap_i64]; omega
                have hk3l : k3 ≤ left.length := by omega
                have hk2c : k2 ≤ cap6 := by omega
                obtain ⟨o2, ho2⟩ : ∃ o2, o2 = if cap6 = k3 then 0 else k3 := ⟨_, rfl⟩
                have hif : (if cap6 = k3 then some (⟨g6, 0, none⟩ : Addr) else some ⟨g6, k3, none⟩) = some ⟨g6, o2, none⟩ := by rw [ho2]; split <;> rfl
                have HO2 := Lib.hid ho2
                have HK3 := Lib.hid hk3
                clear ho2 hk3
                go_upto_region 15 with (fail)
                have hwa := HCA.out.size
                have h6lt : g6 < wa.heap.size := (World.ownsRow.lt H6A.out g6 rfl).2
                have hm0 : Ints (wa.alloc (.cells #[] 3)).drew w.heap.size (.slice (some ⟨wa.heap.size, 0, none⟩) 0 0) [] := World.ownsRow_made wa #[] 0 hwa (by decide) rfl
                have h6b : Ints (wa.alloc (.cells #[] 3)).drew w.heap.size (.slice (some ⟨g6, 0, none⟩) left.length cap6) left := World.ownsRow.alloc H6A.out (.cells #[] 3)
                have hcells : ∀ {wx : World}, Ints wx w.heap.size (.slice (some ⟨g6, 0, none⟩) left.length cap6) left → ∀ j (hj : j < left.length), wx.cell? ⟨g6, j, none⟩ = some (.int .i64 ((left[j]'hj : Nat) : Int)) := fun {wx} hx j hj => by
                  obtain ⟨g', cap', he, _, _, _, _, hq⟩ := hx.form HLE.out
                  simp only [Value.slice.injEq, Option.some.injEq, Addr.mk.injEq, and_true] at he
                  rw [he.1]
                  exact hq j hj
                obtain ⟨v1, w1, happ1, h1a, hg1, hob1⟩ := ints_app hm0 (HCA.out.alloc (.cells #[] 3)).drew.size (g := g6) (o := 0) (m := k2) (c := cap6) (news := left.take k2) (by rw [List.length_take]; omega) (fun j hj => by
                  rw [Nat.zero_add, List.getElem_take]
                  exact hcells h6b j (by rw [List.length_take] at hj; omega)) (by simp; omega)
                have h6c : Ints w1 w.heap.size (.slice (some ⟨g6, 0, none⟩) left.length cap6) left := h6b.kept hg1 (Or.inr (by simp [Value.ownBlock]; omega))
                have hc1 : Chg [] w w1 := (HCA.out.alloc (.cells #[] 3)).drew.trans' (grown_chg hg1) (fun x hx => Or.inr (Ints.own hm0 x hx))
                obtain ⟨v2, w2, happ2, h2a, hg2, hob2⟩ := ints_app h1a hc1.size (g := g6) (o := o2) (m := left.length - k3) (c := cap6 - k3) (news := left.drop k3) (by rw [List.length_drop]) (fun j hj => by
                  rw [List.getElem_drop]
                  rw [List.length_drop] at hj
                  have ho : o2 = k3 := by rw [HO2.out, if_neg (by omega)]
                  rw [ho]
                  exact hcells h6c (k3 + j) (by omega)) (by simp; omega)
                have hc2 : Chg [] w w2 := hc1.trans' (grown_chg hg2) (fun x hx => Or.inr (Ints.own h1a x hx))
                have hv1 : ∀ x, v1.ownBlock = some x → wa.heap.size ≤ x := fun x hx => by
                  rcases hob1 with e | e
                  · rw [e] at hx; simp [Value.ownBlock] at hx; omega
                  · rw [e] at hx
                    have hz : wa.heap.size ≤ (wa.alloc (.cells #[] 3)).drew.heap.size := ((Chg.refl [] wa).alloc (.cells #[] 3)).drew.size
                    simp only [Option.some.injEq] at hx
                    omega
                have hv2 : ∀ x, v2.ownBlock = some x → wa.heap.size ≤ x := fun x hx => by
                  rcases hob2 with e | e
                  · rw [e] at hx; exact hv1 x hx
                  · rw [e] at hx
                    have hz : wa.heap.size ≤ w1.heap.size := Nat.le_trans ((Chg.refl [] wa).alloc (.cells #[] 3)).drew.size hg1.size
                    simp only [Option.some.injEq] at hx
                    omega
                have h5lt := World.ownsRow.lt H5A.out
                have hne5 : ∀ (u : Value), (∀ x, u.ownBlock = some x → wa.heap.size ≤ x) → v5.ownBlock = none ∨ v5.ownBlock ≠ u.ownBlock := fun u hu => by
                  cases hv : v5.ownBlock with
                  | none => exact .inl rfl
                  | some x =>
                    refine .inr (fun e => ?_)
                    have h1 := (h5lt x hv).2
                    have h2 := hu x e.symm
                    omega
                have h5b : Ints w2 w.heap.size v5 (out ++ [n2]) := by
                  have hz : Ints (wa.alloc (.cells #[] 3)).drew w.heap.size v5 (out ++ [n2]) := World.ownsRow.alloc H5A.out (.cells #[] 3)
                  exact (hz.kept hg1 (hne5 (.slice (some ⟨wa.heap.size, 0, none⟩) 0 0) (fun x hx => by simp [Value.ownBlock] at hx; omega))).kept hg2 (hne5 v1 hv1)
                have hsep2 : v2.ownBlock = none ∨ v2.ownBlock ≠ v5.ownBlock := by
                  rcases hne5 v2 hv2 with e | e
                  · rw [e]; cases v2.ownBlock <;> simp
                  · exact Or.inr (fun h => e h.symm)
                obtain ⟨t1, t2, t3⟩ := Good.turn (many := k) hk2 HSRT.out (fun j hj => (HWT.out j hj).1) (by rw [← HL0.out]; exact hkz2) HGD.out
                rw [← HN2.out] at t3
                have hera : [] ++ left.take k2 ++ left.drop k3 = left.eraseIdx k2 := by rw [HK3.out, List.nil_append, List.eraseIdx_eq_take_drop_succ]
                rw [hera] at h2a
                have hfin : OrdInv k w (left.length - 1) v5 v2 (.int .i64 ((i : Nat) + 1 : Int)) w2 := by
                  refine ⟨out ++ [n2], left.eraseIdx k2, i + 1, by rw [List.length_eraseIdx_of_lt hk2], rfl, by have := HOL.out; omega, by rw [List.length_append, List.length_eraseIdx_of_lt hk2]; have := HOL.out; simp; omega, h5b, h2a, hsep2, t1, fun j hj => ⟨t2 j hj, (HWT.out j (List.mem_of_mem_eraseIdx hj)).2⟩, t3, hc2, by simp; omega⟩
                have HFIN := Lib.hid hfin
                have HA1 := Lib.hid happ1
                have HA2 := Lib.hid happ2
                clear hm0 h6b hcells h1a hg1 hob1 h6c hc1 h2a hg2 hob2 hc2 hv1 hv2 h5lt hne5 h5b hsep2 t1 t2 t3 hera hfin happ1 happ2
                refine wp_region_phase 10 (fun _ => True) (by kernel_rfl) ?_
                refine wpAnyP_with (by trivial) (fun hSw => ?_)
                refine wpAnyP_take 1 [] (v := ?_) rfl (by kernel_rfl) (fun _ _ _ h => h) (by assumption) (Or.inl ⟨by rfl, ?_⟩) ?_
                rotate_left
                · (intro w hSw; (try dsimp only at hSw); go_simp; try with_reducible rfl)
                simp only [Act.put, List.setIfInBounds_toArray, List.set_cons_zero, List.set_cons_succ]
                refine wpAnyP_take 2 [] (v := ?_) rfl (by kernel_rfl) (fun _ _ _ h => h) (by assumption) (Or.inl ⟨by rfl, ?_⟩) ?_
                rotate_left
                · (intro w hSw; (try dsimp only at hSw); go_simp; try with_reducible rfl)
                simp only [Act.put, List.setIfInBounds_toArray, List.set_cons_zero, List.set_cons_succ]
                refine wpAnyP_take 3 [] (v := ?_) rfl (by kernel_rfl) (fun _ _ _ h => h) (by assumption) (Or.inl ⟨by rfl, ?_⟩) ?_
                rotate_left
                · (intro w hSw; (try dsimp only at hSw); go_simp; try with_reducible rfl)
                simp only [Act.put, List.setIfInBounds_toArray, List.set_cons_zero, List.set_cons_succ]
                refine wpAnyP_take 5 [] (v := ?_) rfl (by kernel_rfl) (fun _ _ _ h => h) (by assumption) (Or.inl ⟨by rfl, ?_⟩) ?_
                rotate_left
                · (intro w hSw; (try dsimp only at hSw); go_simp; try with_reducible rfl)
                simp only [Act.put, List.setIfInBounds_toArray, List.set_cons_zero, List.set_cons_succ]
                refine wpAnyP_take 6 [] (v := ?_) rfl (by kernel_rfl) (fun _ _ _ h => h) (by assumption) (Or.inl ⟨by rfl, ?_⟩) ?_
                rotate_left
                · (intro w hSw; (try dsimp only at hSw); go_simp; try with_reducible rfl)
                simp only [Act.put, List.setIfInBounds_toArray, List.set_cons_zero, List.set_cons_succ]
                refine wpAnyP_take 7 [] (v := ?_) rfl (by kernel_rfl) (fun _ _ _ h => h) (by assumption) (Or.inl ⟨by rfl, ?_⟩) ?_
                rotate_left
                · (intro w hSw; (try dsimp only at hSw); go_simp; try with_reducible rfl)
                simp only [Act.put, List.setIfInBounds_toArray, List.set_cons_zero, List.set_cons_succ]
                refine wpAnyP_take 8 [] (v := ?_) rfl (by kernel_rfl) (fun _ _ _ h => h) (by assumption) (Or.inl ⟨by rfl, ?_⟩) ?_
                rotate_left
                · (intro w hSw; (try dsimp only at hSw); go_simp; try with_reducible rfl)
                simp only [Act.put, List.setIfInBounds_toArray, List.set_cons_zero, List.set_cons_succ]
                refine wpAnyP_one 0 rfl (by kernel_rfl) (fun K hK => ?_)
                rw [if_pos (by rfl)]
                go_wp2_with (fail)
                refine hold_with (by (try dsimp only at hSw); trivial) (fun hSn => ?_)
                clear hSw; have hSw := hSn; clear hSn
                refine wpAnyP_one 4 rfl (by kernel_rfl) (fun K hK => ?_)
                rw [if_pos (by rfl)]
                (refine wp_append_eq _ _ 23 rfl rfl rfl HA1.out ?_; go_wp2_with (fail))
                refine hold_with (by (try dsimp only at hSw); trivial) (fun hSn => ?_)
                clear hSw; have hSw := hSn; clear hSn
                refine wpAnyP_one 9 rfl (by kernel_rfl) (fun K hK => ?_)
                rw [if_pos (by rfl)]
                (refine wp_append_eq _ _ 23 rfl rfl rfl HA2.out ?_; go_wp2_with (fail))
                refine hold_with (by (try dsimp only at hSw); trivial) (fun hSn => ?_)
                clear hSw; have hSw := hSn; clear hSn
                refine wpAnyP_one 10 rfl (by kernel_rfl) (fun K hK => ?_)
                rw [if_pos (by rfl)]
                go_wp2_with (fail)
                refine ⟨fun hz => (by simp at hz), ?_⟩
                refine wpAnyP_done (by kernel_rfl) ?_ _
                skip
                go_wp2_with fail
                go_roundg (left.length - 1)
                case measure => omega
                case rel => exact HFIN.out
end Go.Proofs.Ytkmjpphmciaklaa
