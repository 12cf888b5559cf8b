/- Contracts of catwalk/recv over this seat's translation, the second half: run. Slices of bytes: what they read as, and a copy of one by append to nil. -/
import Derived.Test.YtkmjpphmciaklaaJ4
import Derived.Test.YtkmjpphmciaklaaJ1
import Derived.Deep.QuietTactic
import Derived.BigQuiet
import Derived.Laws.AppendOwn
import Derived.OwnWalk
import Derived.Deep.DeepCutAuto
import Derived.Deep.DrawnRows
import Derived.Maps.AppendAt
namespace Go.Proofs.Ytkmjpphmciaklaa
open Go.RowKit
set_option linter.unusedVariables false
set_option linter.unusedSimpArgs false
attribute [local go_sem ↓] Go.wp_at_zero Go.wp_at_succ

/-- What waits at a number. -/
def lk {α : Type} (l : List (Int × α)) (k : Int) : Option α := (l.find? (fun p => p.1 == k)).map (·.2)
theorem lk_some {α : Type} {l : List (Int × α)} {k : Int} {v : α} (h : lk l k = some v) : (k, v) ∈ l := by
  unfold lk at h
  cases hf : l.find? (fun p => p.1 == k) with
  | none => rw [hf] at h; cases h
  | some q =>
    rw [hf] at h
    have h1 := List.find?_some hf
    have h2 := List.mem_of_find?_eq_some hf
    obtain ⟨q1, q2⟩ := q
    simp at h h1
    subst h h1
    exact h2
theorem lk_none {α : Type} {l : List (Int × α)} {k : Int} (h : lk l k = none) : ∀ p ∈ l, p.1 ≠ k := by
  unfold lk at h
  intro p hp hk
  simp at h
  exact h p.1 p.2 hp hk
/-- Those that are handed on from a number on, the next number, those that are left. -/
def runF {α : Type} : Nat → Int → List (Int × α) → List (Int × α) × Int × List (Int × α)
  | 0, nx, l => ([], nx, l)
  | f + 1, nx, l => match lk l nx with
    | none => ([], nx, l)
    | some v => ((nx, v) :: (runF f ((nx + 1) % 4294967296) (l.filter (fun p => p.1 != nx))).1, (runF f ((nx + 1) % 4294967296) (l.filter (fun p => p.1 != nx))).2)
theorem runF_none {α : Type} {f : Nat} {nx : Int} {l : List (Int × α)} (h : lk l nx = none) : runF f nx l = ([], nx, l) := by
  cases f with
  | zero => rfl
  | succ f => unfold runF; rw [h]
theorem filter_len {l : List (Int × Value)} {k : Int} {v : Value} (hn : (l.map (·.1)).Nodup) (h : (k, v) ∈ l) : (l.filter (fun p => p.1 != k)).length + 1 = l.length := by
  obtain ⟨j, hj⟩ := List.mem_iff_getElem?.1 h
  rw [← erase_key hn hj]
  have hl := (List.getElem?_eq_some_iff.1 hj).1
  rw [List.length_eraseIdx_of_lt hl]
  omega
def cellsOf (l : List (Int × Value)) : List Value := l.flatMap (fun q => [.int .u32 q.1, q.2])
theorem cellsOf_len (l : List (Int × Value)) : (cellsOf l).length = l.length * 2 := by
  induction l with
  | nil => rfl
  | cons a l ih => simp only [cellsOf, List.flatMap_cons, List.length_append, List.length_cons, List.length_nil] at *; omega
theorem cellsOf_snoc (l : List (Int × Value)) (k : Int) (v : Value) : cellsOf (l ++ [(k, v)]) = cellsOf l ++ [.int .u32 k, v] := by simp [cellsOf]

/-- The values that wait are slices. -/
def Vals (l : List (Int × Value)) : Prop := ∀ p ∈ l, ∃ a n c, p.2 = .slice a n c

theorem Rcv.ne {w : World} {p m : Nat} {r : Rcv Value} (h : RcvAt w p m r) : p ≠ m := by
  intro e
  obtain ⟨h1, es, clock, h2, _⟩ := h
  unfold At at h1
  rw [e, h2] at h1
  cases h1
theorem RcvAt.chg {F : List Nat} {w w' : World} {p m : Nat} {r : Rcv Value} (h : RcvAt w p m r) (c : Chg F w w') (hp : p ∉ F) (hm : m ∉ F) : RcvAt w' p m r := ⟨h.1.chg c hp, h.2.chg c hm⟩
theorem Chg.grown {F : List Nat} {a w w' : World} {row : Option Nat} (h : Chg F a w) (hg : w.grownBy w' row) (hr : ∀ k, row = some k → a.heap.size ≤ k) : Chg F a w' :=
  ⟨hg.os.trans h.os, hg.tape.trans h.tape, hg.output.trans h.output, Nat.le_trans h.size hg.size,
   fun k hk hn => (hg.block k (Nat.lt_of_lt_of_le hk h.size) (fun e => by have := hr k e.symm; omega)).trans (h.block k hk hn)⟩

theorem ownsRow_chg {F : List Nat} {w w' : World} {base : Nat} {e : TypeId} {size : Nat} {v : Value} {n : Nat} {xs : List Value} (h : w.ownsRow base e size v n xs) (c : Chg F w w') (hF : ∀ x ∈ F, x < base) : w'.ownsRow base e size v n xs := by
  obtain ⟨h1, h2⟩ := h
  refine ⟨h1, ?_⟩
  rcases h2 with h2 | ⟨g, cap, cur, hv, hg, hh, r⟩
  · exact Or.inl h2
  · have hl : g < w.heap.size := (Array.getElem?_eq_some_iff.1 hh).1
    exact Or.inr ⟨g, cap, cur, hv, hg, by rw [c.block g hl (fun hm => by have := hF g hm; omega)]; exact hh, r⟩

theorem grown_chg {w w' : World} {row : Option Nat} (hg : w.grownBy w' row) : Chg row.toList w w' :=
  ⟨hg.os, hg.tape, hg.output, hg.size, fun k hk hn => hg.block k hk (fun e => hn (by rw [← e]; simp))⟩
theorem owns_base {w : World} {base : Nat} {e : TypeId} {size : Nat} {v : Value} {n : Nat} {xs : List Value} (h : w.ownsRow base e size v n xs) : ∀ k ∈ v.ownBlock.toList, base ≤ k := by
  obtain ⟨_, h2⟩ := h
  rcases h2 with ⟨rfl, _⟩ | ⟨g, cap, cur, rfl, hg, _⟩
  · intro k hk; simp [Value.ownBlock] at hk
  · intro k hk
    simp [Value.ownBlock] at hk
    omega
theorem runF_some {α : Type} {f : Nat} {nx : Int} {l : List (Int × α)} {v : α} (h : lk l nx = some v) :
    runF (f + 1) nx l = ((nx, v) :: (runF f ((nx + 1) % 4294967296) (l.filter (fun p => p.1 != nx))).1, (runF f ((nx + 1) % 4294967296) (l.filter (fun p => p.1 != nx))).2) := by
  conv => lhs; unfold runF
  rw [h]

/-- At the head of a round of 'run'. -/
def RunInv (p m : Nat) (r : Rcv Value) (w : World) (g : Nat) (v : Value) (wr : World) : Prop :=
  ∃ done nx l, g = l.length ∧ wr.ownsRow w.heap.size 31 2 v done.length (cellsOf done) ∧ RcvAt wr p m ⟨nx, l, r.since, r.twice⟩ ∧ Chg [p, m] w wr ∧ 0 ≤ nx ∧ nx < 4294967296 ∧ Vals l ∧ done.length + l.length = r.l.length ∧
    (runF r.l.length r.nx r.l).1 = done ++ (runF l.length nx l).1 ∧ (runF r.l.length r.nx r.l).2 = (runF l.length nx l).2

def RunPost (p m : Nat) (r : Rcv Value) (now : Int) (w : World) (e : Ending) (w' : World) : Prop :=
  ∃ v, e = .returned v ∧ w'.ownsRow w.heap.size 31 2 v (runF r.l.length r.nx r.l).1.length (cellsOf (runF r.l.length r.nx r.l).1) ∧
    RcvAt w' p m ⟨(runF r.l.length r.nx r.l).2.1, (runF r.l.length r.nx r.l).2.2, now, r.twice⟩ ∧ Chg [p, m] w w'

theorem Try.info31 : (Try.prog.info? 31).map (fun i => (i.zero, i.size, i.bytes)) = some (some (.agg #[.int .u32 0, .slice none 0 0]), 2, 32) := by kernel_rfl

set_option maxRecDepth 100000 in
set_option maxHeartbeats 2000000 in
theorem run_any (p m : Nat) (r : Rcv Value) (now : Int) (w : World) (hr : RcvAt w p m r) (hv : Vals r.l) (h0 : 0 ≤ r.nx) (h1 : r.nx < 4294967296) (hlen : r.l.length ≤ 100000) :
    Calls Try.prog 47 #[.pointer (some ⟨p, 0, none⟩), .int .i64 now] w (RunPost p m r now w) := by
  obtain ⟨i0, hi, hz0, hz1, hz2⟩ := info_parts Try.info31
  have HR := Lib.hid hr
  have HV := Lib.hid hv
  have hp : p < w.heap.size := hr.1.lt
  have hm : m < w.heap.size := hr.2.lt
  clear hr hv
  go_enter Try.func47, Try.ntmps47
  go_wp2_with fail
  go_loopg [5, 6, 7, 8] r.l.length (fun g v5 v6 v7 v8 wr => RunInv p m r w g v5 wr)
  case atStart => exact ⟨[], r.nx, r.l, rfl, ⟨rfl, Or.inl ⟨rfl, rfl⟩⟩, HR.out, Chg.refl _ _, h0, h1, HV.out, by simp, by simp, rfl⟩
  case round =>
    obtain ⟨done, nx, l, rfl, hown, hat, hc, n0, n1, hvl, hdl, e1, e2⟩ := hrel
    have hpm := Rcv.ne hat
    have HOWN := Lib.hid hown
    have HAT := Lib.hid hat
    have HC := Lib.hid hc
    have HVL := Lib.hid hvl
    have E1 := Lib.hid e1
    have E2 := Lib.hid e2
    obtain ⟨c0, c1, c2, c3, f0, f1, f2, f3⟩ := hat.1.four
    have hsz := hc.size
    have hnd := hat.2.nodup
    have HND := Lib.hid hnd
    have HNE := Lib.hid hpm
    clear hown hat hc hvl e1 e2 hnd hpm
    cases hlk : lk l nx with
    | none =>
      have HLK := Lib.hid hlk
      clear hlk
      have hlook : ∀ n, (Instr.lookup 97 (.map (some m)) (.int .u32 nx) true).run Try.prog (wr.drewN n) = .ok (.tuple #[.slice none 0 0, .bool false]) (wr.drewN n) := fun n =>
        look_none (z := .slice none 0 0) Try.underlying97 Try.underlying22 (by kernel_rfl) (HAT.out.2.chg ((Chg.refl [] wr).drewN n) (by simp)) (lk_none HLK.out)
      go_wp2_with fail
      go_quiet (fail)
      go_wp2
      go_ret
      have hz := runF_none (f := l.length) HLK.out
      have hE1 := E1.out
      have hE2 := E2.out
      rw [hz] at hE1 hE2
      simp only [List.append_nil] at hE1
      refine ⟨_, rfl, ?_, ?_, ?_⟩
      · rw [hE1]
        exact ownsRow_chg HOWN.out ((((Chg.refl [p] wr).drewN _)).set (by simp) _) (by simp; omega)
      · rw [hE2]
        exact ⟨(HAT.out.1.drewN).set 2 _, HAT.out.2.chg (((Chg.refl [p] wr).drewN _).set (by simp) _) (by simp; exact fun e => HNE.out e.symm)⟩
      · exact (HC.out.drewN _).set (by simp) _
    | some v =>
      obtain ⟨va, vn, vc, hvv⟩ := HVL.out _ (lk_some hlk)
      simp only at hvv
      subst hvv
      have HLK := Lib.hid hlk
      clear hlk
      have hlook : ∀ n, (Instr.lookup 97 (.map (some m)) (.int .u32 nx) true).run Try.prog (wr.drewN n) = .ok (.tuple #[.slice va vn vc, .bool true]) (wr.drewN n) := fun n =>
        look_some Try.underlying97 Try.underlying22 (HAT.out.2.chg ((Chg.refl [] wr).drewN n) (by simp)) (lk_some HLK.out)
      go_wp2_with fail
      go_quiet (fail)
      clear hlook
      obtain ⟨wd, hdel, hMd, hCd⟩ := drop_there (P := Try.prog) (w := wr.drewN (nq + 1)) Try.underlying97 Try.underlying22 0 (HAT.out.2.chg ((Chg.refl [] wr).drewN _) (by simp)) (lk_some HLK.out)
      have HMD := Lib.hid hMd
      have HCD := Lib.hid hCd
      clear hMd hCd
      go_wp2_with fail
      refine wp_region_phase 8 (fun w' => w'.cell? ⟨p, 0, none⟩ = some (.int .u32 nx) ∧ w'.cell? ⟨p, 1, none⟩ = some (.map (some m))) (by kernel_rfl) ?_
      refine wpAnyP_with (by exact ⟨c0, c1⟩) (fun hSw => ?_)
      refine wpAnyP_take 0 [3, 2, 1] (v := ?_) rfl (by kernel_rfl) (fun _ _ _ h => h) (by assumption) (Or.inl ⟨by rfl, ?_⟩) ?_
      rotate_left
      · (intro w hSw; (try dsimp only at hSw); go_simp; try with_reducible rfl)
      simp only [Act.put, List.setIfInBounds_toArray, List.set_cons_zero, List.set_cons_succ]
      refine wpAnyP_take 1 [3, 2] (v := ?_) rfl (by kernel_rfl) (fun _ _ _ h => h) (by assumption) (Or.inl ⟨by rfl, ?_⟩) ?_
      rotate_left
      · (intro w hSw; (try dsimp only at hSw); go_simp; try with_reducible rfl)
      simp only [Act.put, List.setIfInBounds_toArray, List.set_cons_zero, List.set_cons_succ]
      refine wpAnyP_take 2 [3] (v := ?_) rfl (by kernel_rfl) (fun _ _ _ h => h) (by assumption) (Or.inl ⟨by rfl, ?_⟩) ?_
      rotate_left
      · (intro w hSw; (try dsimp only at hSw); go_simp; try with_reducible rfl)
      simp only [Act.put, List.setIfInBounds_toArray, List.set_cons_zero, List.set_cons_succ]
      refine wpAnyP_take 3 [] (v := ?_) rfl (by kernel_rfl) (fun _ _ _ h => h) (by assumption) (Or.inl ⟨by rfl, ?_⟩) ?_
      rotate_left
      · (intro w hSw; (try dsimp only at hSw); go_simp; try with_reducible rfl)
      simp only [Act.put, List.setIfInBounds_toArray, List.set_cons_zero, List.set_cons_succ]
      refine wpAnyP_take 4 [7, 6, 5] (v := ?_) rfl (by kernel_rfl) (fun _ _ _ h => h) (by assumption) (Or.inl ⟨by rfl, ?_⟩) ?_
      rotate_left
      · (intro w hSw; (try dsimp only at hSw); go_simp; try with_reducible rfl)
      simp only [Act.put, List.setIfInBounds_toArray, List.set_cons_zero, List.set_cons_succ]
      refine wpAnyP_take 5 [7, 6] (v := ?_) rfl (by kernel_rfl) (fun _ _ _ h => h) (by assumption) (Or.inl ⟨by rfl, ?_⟩) ?_
      rotate_left
      · (intro w hSw; (try dsimp only at hSw); go_simp; try with_reducible rfl)
      simp only [Act.put, List.setIfInBounds_toArray, List.set_cons_zero, List.set_cons_succ]
      refine wpAnyP_take 6 [7] (v := ?_) rfl (by kernel_rfl) (fun _ _ _ h => h) (by assumption) (Or.inl ⟨by rfl, ?_⟩) ?_
      rotate_left
      · (intro w hSw; (try dsimp only at hSw); go_simp; try with_reducible rfl)
      simp only [Act.put, List.setIfInBounds_toArray, List.set_cons_zero, List.set_cons_succ]
      refine wpAnyP_take 7 [] (v := ?_) rfl (by kernel_rfl) (fun _ _ _ h => h) (by assumption) (Or.inl ⟨by rfl, ?_⟩) ?_
      rotate_left
      · (intro w hSw; (try dsimp only at hSw); go_simp; try with_reducible rfl)
      simp only [Act.put, List.setIfInBounds_toArray, List.set_cons_zero, List.set_cons_succ]
      refine wpAnyP_one 8 rfl (by kernel_rfl) (fun K hK => ?_)
      rw [if_pos (by rfl)]
      go_wp2_with (fail)
      refine ⟨fun hz => (by simp at hz), ?_⟩
      refine wpAnyP_done (by kernel_rfl) ?_ _
      have HP := Lib.hid ((HAT.out.1.drewN (n := nq + 1)).chg HCD.out (by simp; exact HNE.out))
      have HO := Lib.hid (ownsRow_chg (ownsRow_chg HOWN.out ((Chg.refl [] wr).drewN (nq + 1)) (by simp)) HCD.out (by simp; omega))
      obtain ⟨d0, d1, d2, d3, x0, x1, x2, x3⟩ := HP.out.four
      have hsd := HCD.out.size
      have hpd := HP.out.lt
      have hsd : wr.heap.size ≤ wd.heap.size := hsd
      clear hSw hdel c0 c1 c2 c3 f0 f1 f2 f3
      go_wp2_with (at_builtin; refine wpList_append_own _ rfl _ _ 27 rfl w.heap.size 31 i0 (.agg #[.int .u32 0, .slice none 0 0]) 2 32 Try.underlying27 hi hz0 hz1 hz2 rfl (by decide) _ _ _ rfl (HO.out.alloc _) ⟨wd.heap.size, 0, none⟩ 1 1 [.int .u32 nx, .slice va vn vc] rfl rfl ?c1 ?c2 ?c3 ?c4 ?c5 ?_)
      case c2 => simp [Value.oneCell']
      case c3 => unfold maxLen; omega
      case c4 => omega
      case c5 => omega
      intro v' w1 hown' hgrow _
      have hG := grown_chg hgrow
      have hbase := owns_base HO.out
      have hpn : p ∉ (Value.ownBlock u5).toList := fun hx => by have := hbase p hx; omega
      have hmn : m ∉ (Value.ownBlock u5).toList := fun hx => by have := hbase m hx; omega
      have HP1 := Lib.hid ((HP.out.alloc (.cells #[.int .u32 nx, .slice va vn vc] 31)).chg hG hpn)
      have HM1 := Lib.hid ((HMD.out.chg ((Chg.refl [] wd).alloc (.cells #[.int .u32 nx, .slice va vn vc] 31)) (by simp)).chg hG hmn)
      have HO1 := Lib.hid hown'
      have HC1 := Lib.hid ((((HC.out.drewN (nq + 1)).trans' HCD.out (by simp)).alloc (.cells #[.int .u32 nx, .slice va vn vc] 31)).trans' hG (fun x hx => Or.inr (hbase x hx)))
      obtain ⟨y0, y1, y2, y3, z0, z1, z2, z3⟩ := HP1.out.four
      have hfl := filter_len HND.out (lk_some HLK.out)
      have HFL := Lib.hid hfl
      clear hG hgrow hown' hbase hpn hmn d0 d1 d2 d3 x0 x1 x2 x3 hfl
      go_wp2
      go_roundg (l.filter (fun p => p.1 != nx)).length
      case measure => have := HFL.out; omega
      case rel =>
        have hE1 := E1.out
        have hE2 := E2.out
        rw [← HFL.out, runF_some HLK.out] at hE1 hE2
        refine ⟨done ++ [(nx, .slice va vn vc)], (nx + 1) % 4294967296, l.filter (fun p => p.1 != nx), rfl, ?_, ⟨HP1.out.set 0 _, ?_⟩, HC1.out.set (by simp) _, by omega, by omega, fun q hq => HVL.out q (List.mem_filter.1 hq).1, ?_, ?_, hE2⟩
        · rw [cellsOf_snoc, List.length_append]
          exact ownsRow_chg HO1.out ((Chg.refl [p] w1).set (by simp) _) (by simp; omega)
        · exact HM1.out.chg ((Chg.refl [p] w1).set (by simp) _) (by simp; exact fun e => HNE.out e.symm)
        · rw [List.length_append]; have := HFL.out; simp; omega
        · rw [hE1]; simp
end Go.Proofs.Ytkmjpphmciaklaa
namespace Go.Proofs.Ytkmjpphmciaklaa
open Go.RowKit
set_option linter.unusedVariables false
set_option linter.unusedSimpArgs false

/-- A slice value that reads as these bytes: its cells lie in a block of bytes (type 5). -/
def Bytes (w : World) (v : Value) (d : List Int) : Prop :=
  ∃ A c, v = .slice A d.length c ∧ (d ≠ [] → ∃ g o, A = some ⟨g, o, none⟩ ∧ ∃ cs fz, w.heap[g]? = some (.cells cs 5 fz) ∧ ∀ j : Nat, ∀ u : Int, d[j]? = some u → cs[o + j]? = some (.int .u8 u))
/-- Block b is no block of bytes. -/
def NoB (w : World) (b : Nat) : Prop := ∀ cs fz, w.heap[b]? ≠ some (.cells cs 5 fz)
theorem At.noB {w : World} {b T : Nat} {cs : List Value} (h : At w b T cs) (hT : T ≠ 5) : NoB w b := by
  intro cs' fz he
  unfold At at h
  rw [h] at he
  simp at he
  exact hT he.2.1
theorem Bytes.chg {F : List Nat} {w w' : World} {v : Value} {d : List Int} (h : Bytes w v d) (c : Chg F w w') (hF : ∀ b ∈ F, NoB w b) : Bytes w' v d := by
  obtain ⟨A, n, rfl, hd⟩ := h
  refine ⟨A, n, rfl, fun hne => ?_⟩
  obtain ⟨g, o, rfl, cs, fz, hg, hc⟩ := hd hne
  exact ⟨g, o, rfl, cs, fz, by rw [c.block g (Array.getElem?_eq_some_iff.1 hg).1 (fun hm => hF g hm cs fz hg)]; exact hg, hc⟩
theorem Bytes.slice {w : World} {v : Value} {d : List Int} (h : Bytes w v d) : ∃ a n c, v = .slice a n c := by
  obtain ⟨A, n, rfl, _⟩ := h; exact ⟨_, _, _, rfl⟩
theorem Bytes.nil (w : World) : Bytes w (.slice none 0 0) [] := ⟨none, 0, rfl, fun h => absurd rfl h⟩
theorem Bytes.of_owns {w : World} {base : Nat} {v : Value} {d : List Int} {n : Nat} (h : w.ownsRow base 5 1 v n (d.map (.int .u8))) : Bytes w v d := by
  obtain ⟨hl, h⟩ := h
  simp at hl
  subst hl
  rcases h with ⟨rfl, h0⟩ | ⟨g, cap, cur, rfl, _, hg, _, _, _, ht⟩
  · exact ⟨none, 0, by rw [h0], fun hn => absurd (List.eq_nil_of_length_eq_zero h0) hn⟩
  · refine ⟨_, _, rfl, fun _ => ⟨g, 0, rfl, cur, (0, 0), hg, fun j u hu => ?_⟩⟩
    have h1 : (d.map (Value.int .u8))[j]? = some (.int .u8 u) := by rw [List.getElem?_map, hu]; rfl
    have hj : j < d.length := (List.getElem?_eq_some_iff.1 hu).1
    rw [← ht, List.getElem?_take_of_lt (by omega)] at h1
    simpa using h1
theorem grown_none {w w' : World} (h : w.grownBy w' none) : Chg [] w w' :=
  ⟨h.os, h.tape, h.output, h.size, fun k hk _ => h.block k hk (by simp)⟩

/-- A slice value that reads as these bytes; its cells lie in a block of which S holds. -/
def BytS (S : Nat → Prop) (w : World) (v : Value) (d : List Int) : Prop :=
  ∃ A c, v = .slice A d.length c ∧ (d ≠ [] → ∃ g o, A = some ⟨g, o, none⟩ ∧ S g ∧ g < w.heap.size ∧ ∀ j : Nat, ∀ u : Int, d[j]? = some u → w.cell? ⟨g, o + j, none⟩ = some (.int .u8 u))
theorem BytS.mono {S S' : Nat → Prop} {w : World} {v : Value} {d : List Int} (h : BytS S w v d) (hS : ∀ g, g < w.heap.size → S g → S' g) : BytS S' w v d := by
  obtain ⟨A, c, rfl, hd⟩ := h
  refine ⟨A, c, rfl, fun hne => ?_⟩
  obtain ⟨g, o, rfl, hs, hg, hc⟩ := hd hne
  exact ⟨g, o, rfl, hS g hg hs, hg, hc⟩
theorem BytS.chg {S : Nat → Prop} {F : List Nat} {w w' : World} {v : Value} {d : List Int} (h : BytS S w v d) (c : Chg F w w') (hF : ∀ g, g < w.heap.size → S g → g ∉ F) : BytS S w' v d := by
  obtain ⟨A, n, rfl, hd⟩ := h
  refine ⟨A, n, rfl, fun hne => ?_⟩
  obtain ⟨g, o, rfl, hs, hg, hc⟩ := hd hne
  exact ⟨g, o, rfl, hs, Nat.lt_of_lt_of_le hg c.size, fun j u hu => (c.cell (p := ⟨g, o + j, none⟩) hg (hF g hg hs)).trans (hc j u hu)⟩
theorem BytS.slice {S : Nat → Prop} {w : World} {v : Value} {d : List Int} (h : BytS S w v d) : ∃ a n c, v = .slice a n c := by
  obtain ⟨A, n, rfl, _⟩ := h; exact ⟨_, _, _, rfl⟩
theorem BytS.slice' {S : Nat → Prop} {w : World} {v : Value} {d : List Int} (h : BytS S w v d) : ∃ a c, v = .slice a d.length c := by
  obtain ⟨A, n, rfl, _⟩ := h; exact ⟨_, _, rfl⟩
theorem Bytes.wide {w : World} {v : Value} {d : List Int} (h : Bytes w v d) : BytS (fun g => ∃ cs fz, w.heap[g]? = some (.cells cs 5 fz)) w v d := by
  obtain ⟨A, n, rfl, hd⟩ := h
  refine ⟨A, n, rfl, fun hne => ?_⟩
  obtain ⟨g, o, rfl, cs, fz, hg, hc⟩ := hd hne
  exact ⟨g, o, rfl, ⟨cs, fz, hg⟩, (Array.getElem?_eq_some_iff.1 hg).1, fun j u hu => by simp [World.cell?, hg, hc j u hu]⟩
theorem Bytes.off {w : World} {v : Value} {d : List Int} {F : List Nat} (h : Bytes w v d) (hF : ∀ b ∈ F, NoB w b) : BytS (fun g => g ∉ F) w v d :=
  h.wide.mono fun g _ ⟨cs, fz, hg⟩ hm => hF g hm cs fz hg
theorem BytS.at {S : Nat → Prop} {w : World} {a : Option Addr} {n c : Nat} {d : List Int} (h : BytS S w (.slice a n c) d) : n = d.length ∧ ∀ k (hk : k < d.length), ∃ g o, a = some ⟨g, o, none⟩ ∧ g < w.heap.size ∧ w.cell? ⟨g, o + k, none⟩ = some (.int .u8 (d[k]'hk)) := by
  obtain ⟨A, c', he, hd⟩ := h
  simp only [Value.slice.injEq] at he
  obtain ⟨rfl, rfl, rfl⟩ := he
  refine ⟨rfl, fun k hk => ?_⟩
  obtain ⟨g, o, rfl, _, hg, hc⟩ := hd (by intro e; rw [e] at hk; simp at hk)
  exact ⟨g, o, rfl, hg, hc k _ (List.getElem?_eq_getElem hk)⟩

theorem bytes_copy {P : Program} {t ty : TypeId} {i : TypeInfo} (ht : P.underlying t = some (.slice 5)) (hi : P.info? 5 = some i) (hz : i.zero = some (.int .u8 0)) (hs : i.size = 1) (hb : i.bytes = 1) {S : Nat → Prop}
    {w : World} {v : Value} {d : List Int} (h : BytS S w v d) (hl : d.length ≤ 1000000) :
    ∃ v' w', (Builtin.append_ #[t, t] ty #[.slice none 0 0, v]).run P w = .ok v' w' ∧ Bytes w' v' d ∧ Chg [] w w' := by
  obtain ⟨A, c, rfl, hd⟩ := h
  by_cases hne : d = []
  · subst hne
    refine ⟨.slice none 0 0, w, ?_, Bytes.nil _, Chg.refl _ _⟩
    cases A with
    | none => simp [Builtin.append_, run_underlying ht, sizeOf, typeInfo, hi, Builtin.lenOf, Builtin.firstCells]
    | some a => simp [Builtin.append_, run_underlying ht, sizeOf, typeInfo, hi, Builtin.lenOf, Builtin.firstCells, hs, loadCells, loadCellsFrom]
  · obtain ⟨g, o, rfl, _, hg, hc⟩ := hd hne
    obtain ⟨v', w', h1, h2, h3, _, _⟩ := run_append_own_at (P := P) w w.heap.size t ty 5 i (.int .u8 0) 1 1 ht hi hz hs hb rfl (by omega) (.slice none 0 0) 0 [] ⟨rfl, .inl ⟨rfl, rfl⟩⟩ ⟨g, o, none⟩ d.length c (d.map (.int .u8)) (by simp)
      (fun j u hu => by
        rw [List.getElem?_map] at hu
        cases hdj : d[j]? with
        | none => rw [hdj] at hu; cases hu
        | some x =>
          rw [hdj] at hu
          obtain rfl : Value.int .u8 x = u := by simpa using hu
          have hadd : Addr.add ⟨g, o, none⟩ j = ⟨g, o + j, none⟩ := by unfold Addr.add; split <;> simp_all
          rw [hadd]
          exact hc j x hdj)
      (by intro u hu; obtain ⟨x, _, rfl⟩ := List.mem_map.1 hu; rfl) (by unfold maxLen; omega) (by omega) (Nat.le_refl _)
    exact ⟨v', w', h1, Bytes.of_owns (by simpa using h2), grown_none h3⟩

/-- An append of one slice to another, its run being known. -/
theorem wp_append_eq {P : Program} {o : Oper} {a : Act} {w w' : World} {v u v' : Value} {K : Act → World → Prop} {Q : Exit → Act → World → Prop} (s x : Operand) (t : TypeId)
    (ho : o.op = .call { callee := .builtin .append, args := #[s, x], argTypes := #[t, t] }) (hs : a.eval s = v) (hx : a.eval x = u)
    (hrun : (Builtin.append_ #[t, t] o.type #[v, u]).run P w = .ok v' w') (h : K (a.put o.dst v') w') : o.wp P a w K Q := by
  unfold Oper.wp execOp
  simp only [ho, resolve, invoke, builtin, Sem.run_bind, Sem.run_pure, Result.andThen_ok, List.map_toArray, List.map_cons, List.map_nil, hs, hx, hrun]
  exact h
end Go.Proofs.Ytkmjpphmciaklaa
