/- The sender: Ack. -/
import Derived.Test.YtkmjpphmciaklaaJ13
import Derived.Deep.CutBlock
namespace Go.Proofs.Ytkmjpphmciaklaa
open Go.RowKit
set_option linter.unusedVariables false
set_option linter.unusedSimpArgs false
attribute [local go_sem ↓] Go.wp_at_zero Go.wp_at_succ

/-- How many of those under way an ack tells. -/
def ackT (seq : Int) : List (Int × Int) → Nat
  | [] => 0
  | f :: l => if lessB seq f.1 then 0 else ackT seq l + 1
def ackN (seq nx : Int) (air : List (Int × Int)) : Nat := if lessB seq nx then ackT seq air else 0
theorem ackT_le (seq : Int) : ∀ l, ackT seq l ≤ l.length
  | [] => by simp [ackT]
  | f :: l => by
    have := ackT_le seq l
    unfold ackT
    split <;> simp <;> omega
theorem ackT_in (seq : Int) : ∀ {l : List (Int × Int)} {k : Nat} {f : Int × Int}, k < ackT seq l → l[k]? = some f → lessB seq f.1 = false
  | [], k, f, h, _ => by simp [ackT] at h
  | x :: l, 0, f, h, hf => by
    simp at hf; subst hf
    unfold ackT at h
    cases hl : lessB seq x.1 with
    | true => rw [hl] at h; simp at h
    | false => rfl
  | x :: l, k + 1, f, h, hf => by
    unfold ackT at h
    split at h
    · omega
    · exact ackT_in seq (l := l) (k := k) (by omega) (by simpa using hf)
theorem ackT_out (seq : Int) : ∀ {l : List (Int × Int)} {f : Int × Int}, l[ackT seq l]? = some f → lessB seq f.1 = true
  | [], f, hf => by simp at hf
  | x :: l, f, hf => by
    unfold ackT at hf
    split at hf
    · rename_i h
      simp at hf; subst hf; exact h
    · exact ackT_out seq (by simpa using hf)
theorem ackN_le (seq nx : Int) (l : List (Int × Int)) : ackN seq nx l ≤ l.length := by
  unfold ackN
  split
  · exact ackT_le _ _
  · omega
theorem ackN_in {seq nx : Int} {l : List (Int × Int)} {k : Nat} {f : Int × Int} (h : k < ackN seq nx l) (hf : l[k]? = some f) : lessB seq f.1 = false ∧ lessB seq nx = true := by
  unfold ackN at h
  split at h
  · rename_i hn
    exact ⟨ackT_in seq h hf, hn⟩
  · omega
theorem ackN_out {seq nx : Int} {l : List (Int × Int)} {f : Int × Int} (hf : l[ackN seq nx l]? = some f) : lessB seq f.1 = true ∨ lessB seq nx = false := by
  unfold ackN at hf
  split at hf
  · exact .inl (ackT_out seq hf)
  · rename_i hn
    exact .inr (by simpa using hn)

theorem fl_ne {l : List (Int × Int)} (h : 0 < l.length) : fl l ≠ [] := by
  intro e
  have h0 : (fl l).length = 0 := by rw [e]; rfl
  rw [fl_len] at h0
  omega
/-- How long an answer took, at a place. -/
def tookF (air : List (Int × Int)) (now : Int) (n : Nat) : Int := max (now - (air.getD (n - 1) (0, 0)).2) 0
def Snd.ack {α : Type} (x : Snd α) (now seq : Int) : Snd α × Nat :=
  if ackN seq x.nx x.air = 0 then (x, 0)
  else ({ x with air := x.air.drop (ackN seq x.nx x.air), m := rm x.m (tookF x.air now (ackN seq x.nx x.air)), d := rd x.m x.d (tookF x.air now (ackN seq x.nx x.air)),
                 s := (wit x.mo (cutZ (ackN seq x.nx x.air : Nat) 0 16).toNat (x.s, x.a)).1, a := (wit x.mo (cutZ (ackN seq x.nx x.air : Nat) 0 16).toNat (x.s, x.a)).2 }, ackN seq x.nx x.air)
def AckPost (B p pr g : Nat) (va0 : Value) (fr : Nat) (x : Snd Value) (now seq : Int) (w : World) (e : Ending) (w' : World) : Prop :=
  ∃ va, e = .returned (.int .i64 (x.ack now seq).2) ∧ SndAt w' B p pr g va fr (x.ack now seq).1 ∧ Chg [p] w w' ∧ (va = va0 ∨ ∀ b, va.ownBlock = some b → w.heap.size ≤ b)

set_option maxRecDepth 100000 in
set_option maxHeartbeats 2000000 in
theorem ack_any (w : World) (B p pr g : Nat) (va0 : Value) (fr : Nat) (x : Snd Value) (now seq : Int) (h : SndAt w B p pr g va0 fr x) (hB : B ≤ w.heap.size) (ok : x.Ok) (hn0 : -1000000000 ≤ now) (hn1 : now ≤ 1000000000) :
    Calls Try.prog 32 #[.pointer (some ⟨p, 0, none⟩), .int .i64 now, .int .u32 seq] w (AckPost B p pr g va0 fr x now seq w) := by
  have H := Lib.hid h
  have OK := Lib.hid ok
  obtain ⟨va, vc, rfl⟩ := h.air.slice
  have hA := h.str
  rw [fl_len] at hA H
  rw [fl_len]
  obtain ⟨N, hN⟩ : ∃ N, N = ackN seq x.nx x.air := ⟨_, rfl⟩
  have hNl : N ≤ x.air.length := by rw [hN]; exact ackN_le _ _ _
  have hcell : ∀ k (hk : k < x.air.length), ∃ ga, va = some ⟨ga, 0, none⟩ ∧ ga < w.heap.size ∧ w.cell? ⟨ga, k * 2, none⟩ = some (.int .u32 (x.air[k]'hk).1) ∧ w.cell? ⟨ga, k * 2 + 1, none⟩ = some (.int .i64 (x.air[k]'hk).2) := fun k hk => by
    obtain ⟨ga, cap, he, _, hgl, _, _, hq⟩ := h.air.form (fl_ne (by omega))
    simp only [Value.slice.injEq] at he
    exact ⟨ga, he.1, hgl, hq k 0 _ _ (fl_at (List.getElem?_eq_getElem hk)) rfl, hq k 1 _ _ (fl_at (List.getElem?_eq_getElem hk)) rfl⟩
  have ha16 := ok.air
  have HA := Lib.hid hA
  have HN := Lib.hid hN
  have HCELL := Lib.hid hcell
  obtain ⟨c0, c1, c2, c3, c4, c5, c6, c7, c8⟩ := hA.nine
  clear h ok hA hN hcell
  go_enter Try.func32, Try.ntmps32
  go_upto_block 0 with (fail)
  go_cut [7] (fun s7 wx => s7 = .int .i64 N ∧ Chg [] w wx)
  case first =>
    go_wp2_with fail
    go_loopg [7, 15] (x.air.length - 0) (fun q s7 s15 wr => ∃ k : Nat, k ≤ N ∧ q = x.air.length - k ∧ s7 = .int .i64 k ∧ s15 = .int .i64 k ∧ Chg [] w wr)
    case atStart => exact ⟨0, by omega, rfl, rfl, rfl, Chg.refl _ _⟩
    case round =>
      obtain ⟨k, hk, rfl, rfl, rfl, hc⟩ := hrel
      have HC := Lib.hid hc
      by_cases hkl : k < x.air.length
      · obtain ⟨ga, rfl, hgl, e0, e1⟩ := HCELL.out k hkl
        have d0 : wr.cell? ⟨ga, k * 2, none⟩ = _ := (hc.cell (p := ⟨ga, k * 2, none⟩) hgl (by simp)).trans e0
        have d1 : wr.cell? ⟨ga, k * 2 + 1, none⟩ = _ := (hc.cell (p := ⟨ga, k * 2 + 1, none⟩) hgl (by simp)).trans e1
        have cc := (hc.cell (p := ⟨p, 0, none⟩) HA.out.lt (by simp)).trans c0
        obtain ⟨fs, hfs⟩ : ∃ fs, fs = (x.air[k]'hkl).1 := ⟨_, rfl⟩
        obtain ⟨fa, hfa⟩ : ∃ fa, fa = (x.air[k]'hkl).2 := ⟨_, rfl⟩
        have hget : x.air[k]? = some (fs, fa) := by rw [List.getElem?_eq_getElem hkl, hfs, hfa]
        rw [← hfs] at d0
        rw [← hfa] at d1
        have hpw := HA.out.lt
        have hsz := hc.size
        have hkl' : ((k : Nat) : Int) < (x.air.length : Nat) := by omega
        have cc2 : ∀ o, (wr.alloc o).cell? ⟨p, 0, none⟩ = some (.int .u32 x.nx) := fun o => (((Chg.refl [] wr).alloc o).cell (p := ⟨p, 0, none⟩) (Nat.lt_of_lt_of_le hpw hsz) (by simp)).trans cc
        by_cases hkN : k < N
        · have hin := ackN_in (by rw [HN.out] at hkN; exact hkN) hget
          have F1 := Lib.hid hin.1
          have F2 := Lib.hid hin.2
          clear e0 e1 hfs hfa hget hin hc
          go_wp2_with fail
          refine (less_any _ _ _).mono ?_; rintro e' w' ⟨rfl, rfl⟩
          simp only [F1.out]
          go_wp2_with fail
          refine (less_any _ _ _).mono ?_; rintro e' w' ⟨rfl, rfl⟩
          simp only [F2.out]
          go_wp2_with fail
          go_roundg (x.air.length - (k + 1))
          case measure => omega
          case rel => exact ⟨k + 1, by omega, rfl, rfl, rfl, HC.out.alloc _⟩
        · have hkN' : k = N := by omega
          have hget' : x.air[ackN seq x.nx x.air]? = some (fs, fa) := by rw [← HN.out, ← hkN']; exact hget
          have HK := Lib.hid hkN'
          rcases Bool.eq_false_or_eq_true (lessB seq fs) with h1 | h1
          · have F1 := Lib.hid h1
            clear e0 e1 hfs hfa hget hget' hc hkN' hkN h1
            go_wp2_with fail
            refine (less_any _ _ _).mono ?_; rintro e' w' ⟨rfl, rfl⟩
            simp only [F1.out]
            go_wp2_with fail
            go_meet
            exact ⟨by rw [HK.out], HC.out.alloc _⟩
          · have h2 := (ackN_out hget').resolve_left (by simp [h1])
            have F1 := Lib.hid h1
            have F2 := Lib.hid h2
            clear e0 e1 hfs hfa hget hget' hc hkN' hkN h1 h2
            go_wp2_with fail
            refine (less_any _ _ _).mono ?_; rintro e' w' ⟨rfl, rfl⟩
            simp only [F1.out]
            go_wp2_with fail
            refine (less_any _ _ _).mono ?_; rintro e' w' ⟨rfl, rfl⟩
            simp only [F2.out]
            go_wp2_with fail
            go_meet
            exact ⟨by rw [HK.out], HC.out.alloc _⟩
      · have hkN' : k = N := by omega
        have HK := Lib.hid hkN'
        clear hkN' hc
        go_wp2_with fail
        go_meet
        exact ⟨by rw [HK.out], HC.out⟩
  case rest =>
    obtain ⟨rfl, hc⟩ := hcut
    have hA1 := HA.out.chg hc (by simp)
    clear c0 c1 c2 c3 c4 c5 c6 c7 c8
    obtain ⟨c0, c1, c2, c3, c4, c5, c6, c7, c8⟩ := hA1.nine
    have g1 := hA1.frozen 1
    have g6 := hA1.frozen 6
    have g7 := hA1.frozen 7
    have HA1 := Lib.hid hA1
    have HC := Lib.hid hc
    have hm0 := OK.out.m0
    have hm1 := OK.out.m1
    have hd0 := OK.out.d0
    have hd1 := OK.out.d1
    clear hA1 hc
    by_cases h0 : N = 0
    · have hak : x.ack now seq = (x, 0) := by unfold Snd.ack; rw [← HN.out, if_pos h0]
      have hfin : AckPost B p pr g (.slice va x.air.length vc) fr x now seq w (.returned (.int .i64 0)) wc := by
        refine ⟨_, by rw [hak]; rfl, ?_, HC.out.mono (by simp), .inl rfl⟩
        rw [hak]; exact H.out.keep HC.out
      have HF := Lib.hid hfin
      subst h0
      clear hak hfin
      go_wp2_with fail
      go_ret
      exact HF.out
    · obtain ⟨k1, hk1⟩ : ∃ k1, N = k1 + 1 := ⟨N - 1, by omega⟩
      obtain ⟨ga, rfl, hgl, e0, e1⟩ := HCELL.out k1 (by omega)
      obtain ⟨fa, hfa⟩ : ∃ fa, fa = (x.air[k1]'(by omega)).2 := ⟨_, rfl⟩
      have hats := OK.out.ats _ (List.getElem_mem (show k1 < x.air.length by omega))
      rw [← hfa] at e1 hats
      have d1 : wc.cell? ⟨ga, k1 * 2 + 1, none⟩ = _ := (HC.out.cell (p := ⟨ga, k1 * 2 + 1, none⟩) hgl (by simp)).trans e1
      have hglc : ga < wc.heap.size := Nat.lt_of_lt_of_le hgl HC.out.size
      obtain ⟨t, ht⟩ : ∃ t, t = tookF x.air now N := ⟨_, rfl⟩
      have ht2 : t = max (now - fa) 0 := by
        have hN1 : N - 1 = k1 := by omega
        have hget : x.air.getD k1 (0, 0) = x.air[k1]'(by omega) := by rw [List.getD_eq_getElem?_getD, List.getElem?_eq_getElem (by omega)]; rfl
        rw [ht, hfa, ← hget, ← hN1]
        rfl
      have HT := Lib.hid ht
      have HT2 := Lib.hid ht2
      have hw1 : IntKind.i64.wrap (now - fa) = now - fa := IntWalk.i64_in _ (by omega)
      have hw2 : IntKind.i64.wrap ((N : Nat) - 1 : Int) = (k1 : Nat) := by rw [IntKind.wrap_i64]; omega
      have hb0 : (0 : Int) ≤ (k1 : Nat) := by omega
      have hb1 : ((k1 : Nat) : Int) < (x.air.length : Nat) := by omega
      have hn0' : (((N : Nat) : Int) == 0) = false := beq_eq_false_iff_ne.2 (by omega)
      have hNp : 0 < N := by omega
      have HK1 := Lib.hid hk1
      clear e0 e1 hfa hats ht ht2 h0 hk1
      go_upto_region 10 with (fail)
      go_cut [] (fun wx => At wx p 122 [.int .u32 x.nx, .slice (some ⟨ga, 0, none⟩) x.air.length vc, .pointer (some ⟨pr, 0, none⟩), .int .i64 x.s, .int .i64 x.mo, .int .i64 x.a, .int .i64 (rm x.m t), .int .i64 (rd x.m x.d t), .int .i64 x.lost] ∧ Chg [p] w wx)
      case first =>
        by_cases hneg : now - fa < 0
        · have hte : t = 0 := by have := HT2.out; omega
          subst hte
          refine wp_region_phase 20 (fun w' => w'.cell? ⟨p, 1, none⟩ = some (.slice (some ⟨ga, 0, none⟩) x.air.length vc) ∧ w'.cell? ⟨p, 6, none⟩ = some (.int .i64 x.m) ∧ w'.cell? ⟨p, 7, none⟩ = some (.int .i64 x.d) ∧ w'.cell? ⟨ga, k1 * 2 + 1, none⟩ = some (.int .i64 fa)) (by kernel_rfl) ?_
          refine wpAnyP_with (by exact ⟨c1, c6, c7, d1⟩) (fun hSw => ?_)
          refine wpAnyP_take 0 [] (v := ?_) rfl (by kernel_rfl) (fun _ _ _ h => h) (by assumption) (Or.inl ⟨by rfl, ?_⟩) ?_
          rotate_left
          · (intro w hSw; (try dsimp only at hSw); obtain ⟨y1, y6, y7, yt⟩ := hSw; go_simp; try with_reducible rfl)
          simp only [List.getElem_toArray, List.getElem_cons_succ, List.getElem_cons_zero, Act.put, List.setIfInBounds_toArray, List.set_cons_zero, List.set_cons_succ]
          refine wpAnyP_take 1 [] (v := ?_) rfl (by kernel_rfl) (fun _ _ _ h => h) (by assumption) (Or.inl ⟨by rfl, ?_⟩) ?_
          rotate_left
          · (intro w hSw; (try dsimp only at hSw); obtain ⟨y1, y6, y7, yt⟩ := hSw; go_simp; try with_reducible rfl)
          simp only [List.getElem_toArray, List.getElem_cons_succ, List.getElem_cons_zero, Act.put, List.setIfInBounds_toArray, List.set_cons_zero, List.set_cons_succ]
          refine wpAnyP_take 2 [] (v := ?_) rfl (by kernel_rfl) (fun _ _ _ h => h) (by assumption) (Or.inl ⟨by rfl, ?_⟩) ?_
          rotate_left
          · (intro w hSw; (try dsimp only at hSw); obtain ⟨y1, y6, y7, yt⟩ := hSw; go_simp; try with_reducible rfl)
          simp only [List.getElem_toArray, List.getElem_cons_succ, List.getElem_cons_zero, Act.put, List.setIfInBounds_toArray, List.set_cons_zero, List.set_cons_succ]
          refine wpAnyP_take 3 [] (v := ?_) rfl (by kernel_rfl) (fun _ _ _ h => h) (by assumption) (Or.inl ⟨by rfl, ?_⟩) ?_
          rotate_left
          · (intro w hSw; (try dsimp only at hSw); obtain ⟨y1, y6, y7, yt⟩ := hSw; go_simp; try with_reducible rfl)
          simp only [List.getElem_toArray, List.getElem_cons_succ, List.getElem_cons_zero, Act.put, List.setIfInBounds_toArray, List.set_cons_zero, List.set_cons_succ]
          refine wpAnyP_take 4 [] (v := ?_) rfl (by kernel_rfl) (fun _ _ _ h => h) (by assumption) (Or.inl ⟨by rfl, ?_⟩) ?_
          rotate_left
          · (intro w hSw; (try dsimp only at hSw); obtain ⟨y1, y6, y7, yt⟩ := hSw; go_simp; try with_reducible rfl)
          simp only [List.getElem_toArray, List.getElem_cons_succ, List.getElem_cons_zero, Act.put, List.setIfInBounds_toArray, List.set_cons_zero, List.set_cons_succ]
          refine wpAnyP_take 5 [] (v := ?_) rfl (by kernel_rfl) (fun _ _ _ h => h) (by assumption) (Or.inl ⟨by rfl, ?_⟩) ?_
          rotate_left
          · (intro w hSw; (try dsimp only at hSw); obtain ⟨y1, y6, y7, yt⟩ := hSw; go_simp; try with_reducible rfl)
          simp only [List.getElem_toArray, List.getElem_cons_succ, List.getElem_cons_zero, Act.put, List.setIfInBounds_toArray, List.set_cons_zero, List.set_cons_succ]
          refine wpAnyP_take 6 [] (v := ?_) rfl (by kernel_rfl) (fun _ _ _ h => h) (by assumption) (Or.inl ⟨by rfl, ?_⟩) ?_
          rotate_left
          · (intro w hSw; (try dsimp only at hSw); obtain ⟨y1, y6, y7, yt⟩ := hSw; go_simp; try with_reducible rfl)
          simp only [List.getElem_toArray, List.getElem_cons_succ, List.getElem_cons_zero, Act.put, List.setIfInBounds_toArray, List.set_cons_zero, List.set_cons_succ]
          refine wpAnyP_take 7 [] (v := ?_) rfl (by kernel_rfl) (fun _ _ _ h => h) (by assumption) (Or.inl ⟨by rfl, ?_⟩) ?_
          rotate_left
          · (intro w hSw; (try dsimp only at hSw); obtain ⟨y1, y6, y7, yt⟩ := hSw; go_simp; try with_reducible rfl)
          simp only [List.getElem_toArray, List.getElem_cons_succ, List.getElem_cons_zero, Act.put, List.setIfInBounds_toArray, List.set_cons_zero, List.set_cons_succ]
          refine wpAnyP_take 8 [] (v := ?_) rfl (by kernel_rfl) (fun _ _ _ h => h) (by assumption) (Or.inl ⟨by rfl, ?_⟩) ?_
          rotate_left
          · (intro w hSw; (try dsimp only at hSw); obtain ⟨y1, y6, y7, yt⟩ := hSw; go_simp; try with_reducible rfl)
          simp only [List.getElem_toArray, List.getElem_cons_succ, List.getElem_cons_zero, Act.put, List.setIfInBounds_toArray, List.set_cons_zero, List.set_cons_succ]
          refine wpAnyP_take 9 [] (v := ?_) rfl (by kernel_rfl) (fun _ _ _ h => h) (by assumption) (Or.inl ⟨by rfl, ?_⟩) ?_
          rotate_left
          · (intro w hSw; (try dsimp only at hSw); obtain ⟨y1, y6, y7, yt⟩ := hSw; go_simp; try with_reducible rfl)
          simp only [List.getElem_toArray, List.getElem_cons_succ, List.getElem_cons_zero, Act.put, List.setIfInBounds_toArray, List.set_cons_zero, List.set_cons_succ]
          refine wpAnyP_take 10 [] (v := ?_) rfl (by kernel_rfl) (fun _ _ _ h => h) (by assumption) (Or.inl ⟨by rfl, ?_⟩) ?_
          rotate_left
          · (intro w hSw; (try dsimp only at hSw); obtain ⟨y1, y6, y7, yt⟩ := hSw; go_simp; try with_reducible rfl)
          simp only [List.getElem_toArray, List.getElem_cons_succ, List.getElem_cons_zero, Act.put, List.setIfInBounds_toArray, List.set_cons_zero, List.set_cons_succ]
          refine wpAnyP_take 11 [] (v := ?_) rfl (by kernel_rfl) (fun _ _ _ h => h) (by assumption) (Or.inl ⟨by rfl, ?_⟩) ?_
          rotate_left
          · (intro w hSw; (try dsimp only at hSw); obtain ⟨y1, y6, y7, yt⟩ := hSw; go_simp; try with_reducible rfl)
          simp only [List.getElem_toArray, List.getElem_cons_succ, List.getElem_cons_zero, Act.put, List.setIfInBounds_toArray, List.set_cons_zero, List.set_cons_succ]
          refine wpAnyP_take 12 [] (v := ?_) rfl (by kernel_rfl) (fun _ _ _ h => h) (by assumption) (Or.inl ⟨by rfl, ?_⟩) ?_
          rotate_left
          · (intro w hSw; (try dsimp only at hSw); obtain ⟨y1, y6, y7, yt⟩ := hSw; go_simp; try with_reducible rfl)
          simp only [List.getElem_toArray, List.getElem_cons_succ, List.getElem_cons_zero, Act.put, List.setIfInBounds_toArray, List.set_cons_zero, List.set_cons_succ]
          refine wpAnyP_take 13 [] (v := ?_) rfl (by kernel_rfl) (fun _ _ _ h => h) (by assumption) (Or.inl ⟨by rfl, ?_⟩) ?_
          rotate_left
          · (intro w hSw; (try dsimp only at hSw); obtain ⟨y1, y6, y7, yt⟩ := hSw; go_simp; try with_reducible rfl)
          simp only [List.getElem_toArray, List.getElem_cons_succ, List.getElem_cons_zero, Act.put, List.setIfInBounds_toArray, List.set_cons_zero, List.set_cons_succ]
          refine wpAnyP_take 14 [] (v := ?_) rfl (by kernel_rfl) (fun _ _ _ h => h) (by assumption) (Or.inl ⟨by rfl, ?_⟩) ?_
          rotate_left
          · (intro w hSw; (try dsimp only at hSw); obtain ⟨y1, y6, y7, yt⟩ := hSw; go_simp; try with_reducible rfl)
          simp only [List.getElem_toArray, List.getElem_cons_succ, List.getElem_cons_zero, Act.put, List.setIfInBounds_toArray, List.set_cons_zero, List.set_cons_succ]
          refine wpAnyP_take 15 [] (v := ?_) rfl (by kernel_rfl) (fun _ _ _ h => h) (by assumption) (Or.inl ⟨by rfl, ?_⟩) ?_
          rotate_left
          · (intro w hSw; (try dsimp only at hSw); obtain ⟨y1, y6, y7, yt⟩ := hSw; go_simp; try with_reducible rfl)
          simp only [List.getElem_toArray, List.getElem_cons_succ, List.getElem_cons_zero, Act.put, List.setIfInBounds_toArray, List.set_cons_zero, List.set_cons_succ]
          refine wpAnyP_take 16 [] (v := ?_) rfl (by kernel_rfl) (fun _ _ _ h => h) (by assumption) (Or.inl ⟨by rfl, ?_⟩) ?_
          rotate_left
          · (intro w hSw; (try dsimp only at hSw); obtain ⟨y1, y6, y7, yt⟩ := hSw; go_simp; try with_reducible rfl)
          simp only [List.getElem_toArray, List.getElem_cons_succ, List.getElem_cons_zero, Act.put, List.setIfInBounds_toArray, List.set_cons_zero, List.set_cons_succ]
          refine wpAnyP_one 17 rfl (by kernel_rfl) (fun K hK => ?_)
          rw [if_pos (by rfl)]
          go_wp2_with ((refine (rtt_sample x.m x.d _ _ hm0 hm1 hd0 hd1).mono ?_; rintro e w1 ⟨rfl, hc1⟩; have h1 := HA1.out.chg ((Chg.refl [] wc).drew.trans hc1) (by simp); have z6 := h1.frozen 6; have z7 := h1.frozen 7; have zt := (hc1.cell (p := ⟨ga, k1 * 2 + 1, none⟩) hglc (by simp)).trans d1; obtain ⟨x0, x1, x2, x3, x4, x5, x6, x7, x8⟩ := h1.nine; have HC1 : Hid (Chg [] w w1) := Lib.hid (HC.out.trans ((Chg.refl [] wc).drew.trans hc1)); clear hc1))
          refine hold_with (by (try dsimp only at hSw); exact ⟨x1, x6, x7, zt⟩) (fun hSn => ?_)
          clear hSw; have hSw := hSn; clear hSn
          refine wpAnyP_take 18 [19] (v := ?_) rfl (by kernel_rfl) (fun _ _ _ h => h) (by assumption) (Or.inl ⟨by rfl, ?_⟩) ?_
          rotate_left
          · (intro w hSw; (try dsimp only at hSw); obtain ⟨y1, y6, y7, yt⟩ := hSw; go_simp; try with_reducible rfl)
          simp only [List.getElem_toArray, List.getElem_cons_succ, List.getElem_cons_zero, Act.put, List.setIfInBounds_toArray, List.set_cons_zero, List.set_cons_succ]
          refine wpAnyP_take 19 [] (v := ?_) rfl (by kernel_rfl) (fun _ _ _ h => h) (by assumption) (Or.inl ⟨by rfl, ?_⟩) ?_
          rotate_left
          · (intro w hSw; (try dsimp only at hSw); obtain ⟨y1, y6, y7, yt⟩ := hSw; go_simp; try with_reducible rfl)
          simp only [List.getElem_toArray, List.getElem_cons_succ, List.getElem_cons_zero, Act.put, List.setIfInBounds_toArray, List.set_cons_zero, List.set_cons_succ]
          refine wpAnyP_one 20 rfl (by kernel_rfl) (fun K hK => ?_)
          rw [if_pos (by rfl)]
          go_wp2_with (fail)
          refine ⟨fun hz => (by simp at hz), ?_⟩
          refine wpAnyP_done (by kernel_rfl) ?_ _
          skip
          clear hSw x0 x1 x2 x3 x4 x5 x6 x7 x8 z6 z7 zt
          go_wp2_with fail
          go_meet
          exact ⟨(h1.set 6 _).set 7 _, ((HC1.out.mono (F' := [p]) (by simp)).set (by simp) _).set (by simp) _⟩
        · have hte : t = now - fa := by have := HT2.out; omega
          subst hte
          refine wp_region_phase 20 (fun w' => w'.cell? ⟨p, 1, none⟩ = some (.slice (some ⟨ga, 0, none⟩) x.air.length vc) ∧ w'.cell? ⟨p, 6, none⟩ = some (.int .i64 x.m) ∧ w'.cell? ⟨p, 7, none⟩ = some (.int .i64 x.d) ∧ w'.cell? ⟨ga, k1 * 2 + 1, none⟩ = some (.int .i64 fa)) (by kernel_rfl) ?_
          refine wpAnyP_with (by exact ⟨c1, c6, c7, d1⟩) (fun hSw => ?_)
          refine wpAnyP_take 0 [] (v := ?_) rfl (by kernel_rfl) (fun _ _ _ h => h) (by assumption) (Or.inl ⟨by rfl, ?_⟩) ?_
          rotate_left
          · (intro w hSw; (try dsimp only at hSw); obtain ⟨y1, y6, y7, yt⟩ := hSw; go_simp; try with_reducible rfl)
          simp only [List.getElem_toArray, List.getElem_cons_succ, List.getElem_cons_zero, Act.put, List.setIfInBounds_toArray, List.set_cons_zero, List.set_cons_succ]
          refine wpAnyP_take 1 [] (v := ?_) rfl (by kernel_rfl) (fun _ _ _ h => h) (by assumption) (Or.inl ⟨by rfl, ?_⟩) ?_
          rotate_left
          · (intro w hSw; (try dsimp only at hSw); obtain ⟨y1, y6, y7, yt⟩ := hSw; go_simp; try with_reducible rfl)
          simp only [List.getElem_toArray, List.getElem_cons_succ, List.getElem_cons_zero, Act.put, List.setIfInBounds_toArray, List.set_cons_zero, List.set_cons_succ]
          refine wpAnyP_take 2 [] (v := ?_) rfl (by kernel_rfl) (fun _ _ _ h => h) (by assumption) (Or.inl ⟨by rfl, ?_⟩) ?_
          rotate_left
          · (intro w hSw; (try dsimp only at hSw); obtain ⟨y1, y6, y7, yt⟩ := hSw; go_simp; try with_reducible rfl)
          simp only [List.getElem_toArray, List.getElem_cons_succ, List.getElem_cons_zero, Act.put, List.setIfInBounds_toArray, List.set_cons_zero, List.set_cons_succ]
          refine wpAnyP_take 3 [] (v := ?_) rfl (by kernel_rfl) (fun _ _ _ h => h) (by assumption) (Or.inl ⟨by rfl, ?_⟩) ?_
          rotate_left
          · (intro w hSw; (try dsimp only at hSw); obtain ⟨y1, y6, y7, yt⟩ := hSw; go_simp; try with_reducible rfl)
          simp only [List.getElem_toArray, List.getElem_cons_succ, List.getElem_cons_zero, Act.put, List.setIfInBounds_toArray, List.set_cons_zero, List.set_cons_succ]
          refine wpAnyP_take 4 [] (v := ?_) rfl (by kernel_rfl) (fun _ _ _ h => h) (by assumption) (Or.inl ⟨by rfl, ?_⟩) ?_
          rotate_left
          · (intro w hSw; (try dsimp only at hSw); obtain ⟨y1, y6, y7, yt⟩ := hSw; go_simp; try with_reducible rfl)
          simp only [List.getElem_toArray, List.getElem_cons_succ, List.getElem_cons_zero, Act.put, List.setIfInBounds_toArray, List.set_cons_zero, List.set_cons_succ]
          refine wpAnyP_take 5 [] (v := ?_) rfl (by kernel_rfl) (fun _ _ _ h => h) (by assumption) (Or.inl ⟨by rfl, ?_⟩) ?_
          rotate_left
          · (intro w hSw; (try dsimp only at hSw); obtain ⟨y1, y6, y7, yt⟩ := hSw; go_simp; try with_reducible rfl)
          simp only [List.getElem_toArray, List.getElem_cons_succ, List.getElem_cons_zero, Act.put, List.setIfInBounds_toArray, List.set_cons_zero, List.set_cons_succ]
          refine wpAnyP_take 6 [] (v := ?_) rfl (by kernel_rfl) (fun _ _ _ h => h) (by assumption) (Or.inl ⟨by rfl, ?_⟩) ?_
          rotate_left
          · (intro w hSw; (try dsimp only at hSw); obtain ⟨y1, y6, y7, yt⟩ := hSw; go_simp; try with_reducible rfl)
          simp only [List.getElem_toArray, List.getElem_cons_succ, List.getElem_cons_zero, Act.put, List.setIfInBounds_toArray, List.set_cons_zero, List.set_cons_succ]
          refine wpAnyP_take 7 [] (v := ?_) rfl (by kernel_rfl) (fun _ _ _ h => h) (by assumption) (Or.inl ⟨by rfl, ?_⟩) ?_
          rotate_left
          · (intro w hSw; (try dsimp only at hSw); obtain ⟨y1, y6, y7, yt⟩ := hSw; go_simp; try with_reducible rfl)
          simp only [List.getElem_toArray, List.getElem_cons_succ, List.getElem_cons_zero, Act.put, List.setIfInBounds_toArray, List.set_cons_zero, List.set_cons_succ]
          refine wpAnyP_take 8 [] (v := ?_) rfl (by kernel_rfl) (fun _ _ _ h => h) (by assumption) (Or.inl ⟨by rfl, ?_⟩) ?_
          rotate_left
          · (intro w hSw; (try dsimp only at hSw); obtain ⟨y1, y6, y7, yt⟩ := hSw; go_simp; try with_reducible rfl)
          simp only [List.getElem_toArray, List.getElem_cons_succ, List.getElem_cons_zero, Act.put, List.setIfInBounds_toArray, List.set_cons_zero, List.set_cons_succ]
          refine wpAnyP_take 9 [] (v := ?_) rfl (by kernel_rfl) (fun _ _ _ h => h) (by assumption) (Or.inl ⟨by rfl, ?_⟩) ?_
          rotate_left
          · (intro w hSw; (try dsimp only at hSw); obtain ⟨y1, y6, y7, yt⟩ := hSw; go_simp; try with_reducible rfl)
          simp only [List.getElem_toArray, List.getElem_cons_succ, List.getElem_cons_zero, Act.put, List.setIfInBounds_toArray, List.set_cons_zero, List.set_cons_succ]
          refine wpAnyP_take 10 [] (v := ?_) rfl (by kernel_rfl) (fun _ _ _ h => h) (by assumption) (Or.inl ⟨by rfl, ?_⟩) ?_
          rotate_left
          · (intro w hSw; (try dsimp only at hSw); obtain ⟨y1, y6, y7, yt⟩ := hSw; go_simp; try with_reducible rfl)
          simp only [List.getElem_toArray, List.getElem_cons_succ, List.getElem_cons_zero, Act.put, List.setIfInBounds_toArray, List.set_cons_zero, List.set_cons_succ]
          refine wpAnyP_take 11 [] (v := ?_) rfl (by kernel_rfl) (fun _ _ _ h => h) (by assumption) (Or.inl ⟨by rfl, ?_⟩) ?_
          rotate_left
          · (intro w hSw; (try dsimp only at hSw); obtain ⟨y1, y6, y7, yt⟩ := hSw; go_simp; try with_reducible rfl)
          simp only [List.getElem_toArray, List.getElem_cons_succ, List.getElem_cons_zero, Act.put, List.setIfInBounds_toArray, List.set_cons_zero, List.set_cons_succ]
          refine wpAnyP_take 12 [] (v := ?_) rfl (by kernel_rfl) (fun _ _ _ h => h) (by assumption) (Or.inl ⟨by rfl, ?_⟩) ?_
          rotate_left
          · (intro w hSw; (try dsimp only at hSw); obtain ⟨y1, y6, y7, yt⟩ := hSw; go_simp; try with_reducible rfl)
          simp only [List.getElem_toArray, List.getElem_cons_succ, List.getElem_cons_zero, Act.put, List.setIfInBounds_toArray, List.set_cons_zero, List.set_cons_succ]
          refine wpAnyP_take 13 [] (v := ?_) rfl (by kernel_rfl) (fun _ _ _ h => h) (by assumption) (Or.inl ⟨by rfl, ?_⟩) ?_
          rotate_left
          · (intro w hSw; (try dsimp only at hSw); obtain ⟨y1, y6, y7, yt⟩ := hSw; go_simp; try with_reducible rfl)
          simp only [List.getElem_toArray, List.getElem_cons_succ, List.getElem_cons_zero, Act.put, List.setIfInBounds_toArray, List.set_cons_zero, List.set_cons_succ]
          refine wpAnyP_take 14 [] (v := ?_) rfl (by kernel_rfl) (fun _ _ _ h => h) (by assumption) (Or.inl ⟨by rfl, ?_⟩) ?_
          rotate_left
          · (intro w hSw; (try dsimp only at hSw); obtain ⟨y1, y6, y7, yt⟩ := hSw; go_simp; try with_reducible rfl)
          simp only [List.getElem_toArray, List.getElem_cons_succ, List.getElem_cons_zero, Act.put, List.setIfInBounds_toArray, List.set_cons_zero, List.set_cons_succ]
          refine wpAnyP_take 15 [] (v := ?_) rfl (by kernel_rfl) (fun _ _ _ h => h) (by assumption) (Or.inl ⟨by rfl, ?_⟩) ?_
          rotate_left
          · (intro w hSw; (try dsimp only at hSw); obtain ⟨y1, y6, y7, yt⟩ := hSw; go_simp; try with_reducible rfl)
          simp only [List.getElem_toArray, List.getElem_cons_succ, List.getElem_cons_zero, Act.put, List.setIfInBounds_toArray, List.set_cons_zero, List.set_cons_succ]
          refine wpAnyP_take 16 [] (v := ?_) rfl (by kernel_rfl) (fun _ _ _ h => h) (by assumption) (Or.inl ⟨by rfl, ?_⟩) ?_
          rotate_left
          · (intro w hSw; (try dsimp only at hSw); obtain ⟨y1, y6, y7, yt⟩ := hSw; go_simp; try with_reducible rfl)
          simp only [List.getElem_toArray, List.getElem_cons_succ, List.getElem_cons_zero, Act.put, List.setIfInBounds_toArray, List.set_cons_zero, List.set_cons_succ]
          refine wpAnyP_one 17 rfl (by kernel_rfl) (fun K hK => ?_)
          rw [if_pos (by rfl)]
          go_wp2_with ((refine (rtt_sample x.m x.d _ _ hm0 hm1 hd0 hd1).mono ?_; rintro e w1 ⟨rfl, hc1⟩; have h1 := HA1.out.chg ((Chg.refl [] wc).drew.trans hc1) (by simp); have z6 := h1.frozen 6; have z7 := h1.frozen 7; have zt := (hc1.cell (p := ⟨ga, k1 * 2 + 1, none⟩) hglc (by simp)).trans d1; obtain ⟨x0, x1, x2, x3, x4, x5, x6, x7, x8⟩ := h1.nine; have HC1 : Hid (Chg [] w w1) := Lib.hid (HC.out.trans ((Chg.refl [] wc).drew.trans hc1)); clear hc1))
          refine hold_with (by (try dsimp only at hSw); exact ⟨x1, x6, x7, zt⟩) (fun hSn => ?_)
          clear hSw; have hSw := hSn; clear hSn
          refine wpAnyP_take 18 [19] (v := ?_) rfl (by kernel_rfl) (fun _ _ _ h => h) (by assumption) (Or.inl ⟨by rfl, ?_⟩) ?_
          rotate_left
          · (intro w hSw; (try dsimp only at hSw); obtain ⟨y1, y6, y7, yt⟩ := hSw; go_simp; try with_reducible rfl)
          simp only [List.getElem_toArray, List.getElem_cons_succ, List.getElem_cons_zero, Act.put, List.setIfInBounds_toArray, List.set_cons_zero, List.set_cons_succ]
          refine wpAnyP_take 19 [] (v := ?_) rfl (by kernel_rfl) (fun _ _ _ h => h) (by assumption) (Or.inl ⟨by rfl, ?_⟩) ?_
          rotate_left
          · (intro w hSw; (try dsimp only at hSw); obtain ⟨y1, y6, y7, yt⟩ := hSw; go_simp; try with_reducible rfl)
          simp only [List.getElem_toArray, List.getElem_cons_succ, List.getElem_cons_zero, Act.put, List.setIfInBounds_toArray, List.set_cons_zero, List.set_cons_succ]
          refine wpAnyP_one 20 rfl (by kernel_rfl) (fun K hK => ?_)
          rw [if_pos (by rfl)]
          go_wp2_with (fail)
          refine ⟨fun hz => (by simp at hz), ?_⟩
          refine wpAnyP_done (by kernel_rfl) ?_ _
          skip
          clear hSw x0 x1 x2 x3 x4 x5 x6 x7 x8 z6 z7 zt
          go_wp2_with fail
          go_meet
          exact ⟨(h1.set 6 _).set 7 _, ((HC1.out.mono (F' := [p]) (by simp)).set (by simp) _).set (by simp) _⟩
      case rest =>
        obtain ⟨hA5, hC5⟩ := hcut
        clear c0 c1 c2 c3 c4 c5 c6 c7 c8 g1 g6 g7 HA1 HC d1 hw1 hw2 hb0 hb1
        have hne := H.out.pr_ne
        have hO5 : Own 125 2 wc B (.slice (some ⟨ga, 0, none⟩) x.air.length vc) (fl x.air) := H.out.air.chg hC5 (fun b hb => by simp at hb; subst hb; exact hne.2.2.2.1)
        have hvc : x.air.length ≤ vc := by
          obtain ⟨g', cap', he, _, _, h5, _⟩ := hO5.form (fl_ne (by omega))
          simp only [Value.slice.injEq] at he
          rw [fl_len] at h5
          omega
        obtain ⟨o2, ho2⟩ : ∃ o2, o2 = if vc = N then 0 else N * 2 := ⟨_, rfl⟩
        have hif : (if vc = N then some (⟨ga, 0, none⟩ : Addr) else some ⟨ga, N * 2, none⟩) = some ⟨ga, o2, none⟩ := by rw [ho2]; split <;> rfl
        have hdr : fl (x.air.drop N) = (fl x.air).drop N := by simp [fl]
        have hBc : B ≤ wc.heap.size := Nat.le_trans hB hC5.size
        obtain ⟨v', w6, happ, hO6, hc6, hob6⟩ := own_app elem125 120 (Own.nil 125 2 wc wc.heap.size) (Nat.le_refl _) (A := some ⟨ga, o2, none⟩) (m := x.air.length - N) (c := vc - N) (news := fl (x.air.drop N)) (by rw [fl_len, List.length_drop]) (by rw [hdr]; exact hO5.1.sub fun y hy => List.mem_of_mem_drop hy)
          (fun hp => ⟨ga, o2, rfl, fun j u hu => by
            rw [hdr, hO5.1.drop, List.getElem?_drop] at hu
            obtain ⟨g', e, hq⟩ := hO5.cells rfl (by rw [fl_len]; omega)
            simp only [Option.some.injEq, Addr.mk.injEq, and_true] at e
            rw [ho2, if_neg (by omega), e]
            exact hq _ u hu⟩) (by simp; omega)
        obtain ⟨ba, bc, hv'⟩ := hO6.slice
        have hfl : ([] ++ fl (x.air.drop N)).length = x.air.length - N := by simp [fl]
        rw [hfl] at hv'
        subst hv'
        have hc6' : Chg [] wc w6 := hc6.mono (fun b hb => by simp [Value.ownBlock] at hb)
        have hA6 := hA5.chg hc6' (by simp)
        obtain ⟨w7, hw7⟩ : ∃ w7, w7 = w6.setCell ⟨p, 1, none⟩ (.slice ba (x.air.length - N) bc) := ⟨_, rfl⟩
        have hA7 : At w7 p 122 [.int .u32 x.nx, .slice ba (x.air.length - N) bc, .pointer (some ⟨pr, 0, none⟩), .int .i64 x.s, .int .i64 x.mo, .int .i64 x.a, .int .i64 (rm x.m t), .int .i64 (rd x.m x.d t), .int .i64 x.lost] := by
          rw [hw7]; exact hA6.set 1 _
        have hc7 : Chg [p] w6 w7 := by rw [hw7]; exact (Chg.refl [p] _).set (by simp) _
        have hO7 : Own 125 2 w7 wc.heap.size (.slice ba (x.air.length - N) bc) (fl (x.air.drop N)) := by
          have h6 : Own 125 2 w6 wc.heap.size (.slice ba (x.air.length - N) bc) (fl (x.air.drop N)) := by simpa using hO6
          exact h6.chg hc7 (fun b hb => by simp at hb; subst hb; exact h6.ne hA6 (by decide))
        have hC7 : Chg [p] w w7 := (hC5.trans (hc6'.mono (by simp))).trans hc7
        obtain ⟨c0, c1, c2, c3, c4, c5, c6, c7, c8⟩ := hA5.nine
        obtain ⟨d0, d1, d2, d3, d4, d5, d6, d7, d8⟩ := hA7.nine
        have g1 := hA6.frozen 1
        have k1' := hA6.nine.2.1
        have hap1 : (N : Int) ≤ (x.air.length : Nat) := by omega
        have hap0 : (0 : Int) ≤ (N : Nat) := by omega
        have hap2 : (x.air.length : Int) ≤ (vc : Nat) := by omega
        have HW7 := Lib.hid hw7
        have HA7 := Lib.hid hA7
        have HO7 := Lib.hid hO7
        have HC7 := Lib.hid hC7
        have HBc := Lib.hid hC5.size
        have CW := Lib.hid OK.out.win
        clear hA5 hC5 hne hO5 ho2 hdr hO6 hc6 hob6 hfl hc6' hA6 hw7 hA7 hc7 hO7 hC7
        go_upto_region 12 with (at_builtin; refine wpList_app_eq rfl _ _ 120 rfl rfl rfl happ ?_)
        rw [← HW7.out]
        clear happ c0 c1 c2 c3 c4 c5 c6 c7 c8 g1 k1' HW7 hif
        go_wp2_with fail
        refine (w_acked x.s x.a x.mo _ _ CW.out).mono ?_
        rintro e w8 ⟨rfl, hc8⟩
        have hA8 := HA7.out.chg hc8 (by simp)
        have g3 := hA8.frozen 3
        have g4 := hA8.frozen 4
        have g5 := hA8.frozen 5
        clear d0 d1 d2 d3 d4 d5 d6 d7 d8
        obtain ⟨d0, d1, d2, d3, d4, d5, d6, d7, d8⟩ := hA8.nine
        obtain ⟨S, hS⟩ : ∃ S, S = (wit x.mo (cutZ (N : Nat) 0 16).toNat (x.s, x.a)).1 := ⟨_, rfl⟩
        obtain ⟨A, hA⟩ : ∃ A, A = (wit x.mo (cutZ (N : Nat) 0 16).toNat (x.s, x.a)).2 := ⟨_, rfl⟩
        rw [← hS, ← hA]
        have hAf := ((hA8.set 3 (.int .i64 S)).set 4 (.int .i64 x.mo)).set 5 (.int .i64 A)
        have hC8 : Chg [p] w w8 := HC7.out.trans (hc8.mono (by simp))
        have hcf : Chg [p] w8 (((w8.setCell ⟨p, 3, none⟩ (.int .i64 S)).setCell ⟨p, 4, none⟩ (.int .i64 x.mo)).setCell ⟨p, 5, none⟩ (.int .i64 A)) := (((Chg.refl [p] _).set (by simp) _).set (by simp) _).set (by simp) _
        have hak : x.ack now seq = ({ x with air := x.air.drop N, m := rm x.m t, d := rd x.m x.d t, s := S, a := A }, N) := by
          unfold Snd.ack
          rw [← HN.out, if_neg (by omega), ← HT.out, ← hS, ← hA]
        have hne := H.out.pr_ne
        have hfin : AckPost B p pr g (.slice (some ⟨ga, 0, none⟩) x.air.length vc) fr x now seq w (.returned (.int .i64 (N : Nat))) (((w8.setCell ⟨p, 3, none⟩ (.int .i64 S)).setCell ⟨p, 4, none⟩ (.int .i64 x.mo)).setCell ⟨p, 5, none⟩ (.int .i64 A)) := by
          refine ⟨.slice ba (x.air.length - N) bc, by rw [hak], ?_, hC8.trans hcf, .inr fun b hb => Nat.le_trans HBc.out (HO7.out.lt b hb).1⟩
          rw [hak]
          have h8 := (HO7.out.keep hc8)
          exact ⟨hAf, (h8.chg hcf (fun b hb => by simp at hb; subst hb; exact h8.ne hA8 (by decide))).mono (Nat.le_trans hB HBc.out), (H.out.ring.chg hC8 (by simp; exact fun e => hne.1 e.symm) (by simp; exact fun e => hne.2.1 e.symm)).chg hcf (by simp; exact fun e => hne.1 e.symm) (by simp; exact fun e => hne.2.1 e.symm), H.out.hp, H.out.hpr, H.out.hg⟩
        have HF := Lib.hid hfin
        clear hA8 hS hA hAf hC8 hcf hak hne hfin hc8
        go_wp2_with fail
        go_ret
        exact HF.out
end Go.Proofs.Ytkmjpphmciaklaa
