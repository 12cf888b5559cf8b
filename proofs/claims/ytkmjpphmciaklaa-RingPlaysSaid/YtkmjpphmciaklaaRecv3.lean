/- Contracts of catwalk/recv over this seat's translation: Put, Tick; what they do as plain functions. -/
import Derived.Test.YtkmjpphmciaklaaRecv2
import Derived.Test.YtkmjpphmciaklaaBytes
namespace Go.Proofs.Ytkmjpphmciaklaa
open Go.RowKit
set_option linter.unusedVariables false
set_option linter.unusedSimpArgs false
attribute [local go_sem ↓] Go.wp_at_zero Go.wp_at_succ

/-- The least number of those that wait, as steps on from the next one. -/
def leastK {α : Type} (nx : Int) : List (Int × α) → Int
  | [] => 0
  | [p] => p.1
  | p :: q :: l => if off nx p.1 ≤ off nx (leastK nx (q :: l)) then p.1 else leastK nx (q :: l)
theorem leastK_spec {α : Type} (nx : Int) : ∀ (l : List (Int × α)), l ≠ [] → (∃ q ∈ l, leastK nx l = q.1) ∧ ∀ q ∈ l, off nx (leastK nx l) ≤ off nx q.1
  | [], h => absurd rfl h
  | [p], _ => ⟨⟨p, by simp, rfl⟩, fun q hq => by simp at hq; subst hq; exact Int.le_refl _⟩
  | p :: q :: l, _ => by
    obtain ⟨⟨x, hx, e⟩, h2⟩ := leastK_spec nx (q :: l) (by simp)
    unfold leastK
    split
    · rename_i hle
      exact ⟨⟨p, by simp, rfl⟩, fun y hy => by
        rcases List.mem_cons.1 hy with rfl | hy
        · exact Int.le_refl _
        · exact Int.le_trans hle (h2 y hy)⟩
    · rename_i hle
      exact ⟨⟨x, List.mem_cons_of_mem _ hx, e⟩, fun y hy => by
        rcases List.mem_cons.1 hy with rfl | hy
        · omega
        · exact h2 y hy⟩
/-- Those that are next go, from a number on. -/
def Rcv.run {α : Type} (r : Rcv α) (nx now : Int) : Rcv α × List (Int × α) :=
  (⟨(runF r.l.length nx r.l).2.1, (runF r.l.length nx r.l).2.2, now, r.twice⟩, (runF r.l.length nx r.l).1)
def Rcv.dup {α : Type} (r : Rcv α) (seq : Int) : Bool := (lk r.l seq).isSome || (seq != r.nx && !lessB r.nx seq)
/-- One more waits. -/
def Rcv.more {α : Type} (r : Rcv α) (now seq : Int) (d : α) : Rcv α := ⟨r.nx, r.l ++ [(seq, d)], if r.l.isEmpty then now else r.since, r.twice⟩
def Rcv.put {α : Type} (r : Rcv α) (now seq : Int) (d : α) : Rcv α × List (Int × α) :=
  if r.dup seq then (⟨r.nx, r.l, r.since, r.twice + 1⟩, [])
  else if seq = r.nx then (r.more now seq d).run r.nx now
  else if r.l.length < 8 then (r.more now seq d, [])
  else (r.more now seq d).run (leastK r.nx (r.more now seq d).l) now
def Rcv.tick {α : Type} (r : Rcv α) (now : Int) : Rcv α × List (Int × α) :=
  if r.l.isEmpty || decide (now - r.since < 4) then (r, []) else r.run (leastK r.nx r.l) now

theorem owns_mono {w : World} {a b : Nat} {e size n : Nat} {v : Value} {xs : List Value} (h : w.ownsRow b e size v n xs) (hab : a ≤ b) : w.ownsRow a e size v n xs := by
  obtain ⟨h1, h2⟩ := h
  refine ⟨h1, ?_⟩
  rcases h2 with h2 | ⟨g, cap, cur, hv, hg, r⟩
  · exact .inl h2
  · exact .inr ⟨g, cap, cur, hv, by omega, r⟩
theorem MapIs.noB {w : World} {m : Nat} {l : List (Int × Value)} (h : MapIs w m l) : NoB w m := by
  obtain ⟨es, clock, hb, _⟩ := h
  intro cs fz he
  rw [hb] at he
  cases he
theorem RcvAt.noB {w : World} {p m : Nat} {r : Rcv Value} (h : RcvAt w p m r) : ∀ b ∈ [p, m], NoB w b := by
  intro b hb
  simp at hb
  rcases hb with rfl | rfl
  · exact h.1.noB (by decide)
  · exact h.2.noB

/-- What Put leaves. -/
def PutPost (p m : Nat) (r : Rcv Value) (now seq : Int) (d : List Int) (w : World) (e : Ending) (w' : World) : Prop :=
  ∃ v o, Bytes w' v d ∧ e = .returned o ∧ w'.ownsRow w.heap.size 31 2 o (r.put now seq v).2.length (cellsOf (r.put now seq v).2) ∧ RcvAt w' p m (r.put now seq v).1 ∧ Chg [p, m] w w'

theorem Try.info5 : (Try.prog.info? 5).map (fun i => (i.zero, i.size, i.bytes)) = some (some (.int .u8 0), 1, 1) := by kernel_rfl

set_option maxRecDepth 100000 in
set_option maxHeartbeats 2000000 in
theorem put_twice (p m : Nat) (r : Rcv Value) (now seq : Int) (v : Value) (w : World) (hr : RcvAt w p m r) (hv : Vals r.l) (hd : ∃ a n c, v = .slice a n c) (h0 : 0 ≤ r.twice) (h1 : r.twice < 1000000) (hdup : r.dup seq = true) :
    Calls Try.prog 13 #[.pointer (some ⟨p, 0, none⟩), .int .i64 now, .int .u32 seq, v] w (PutPost p m r now seq [] w) := by
  obtain ⟨va, vn, vc, rfl⟩ := hd
  have HR := Lib.hid hr
  have HV := Lib.hid hv
  obtain ⟨c0, c1, c2, c3, f0, f1, f2, f3⟩ := hr.1.four
  have HDUP := Lib.hid hdup
  have hfin : PutPost p m r now seq [] w (.returned (.slice none 0 0)) (w.setCell ⟨p, 3, none⟩ (.int .i64 (r.twice + 1))) := by
    have hc : Chg [p, m] w (w.setCell ⟨p, 3, none⟩ (.int .i64 (r.twice + 1))) := (Chg.refl _ _).set (by simp) _
    refine ⟨.slice none 0 0, _, Bytes.nil _, rfl, ?_, ?_, hc⟩
    · simp only [Rcv.put, hdup, if_true]; exact ⟨rfl, .inl ⟨rfl, rfl⟩⟩
    · simp only [Rcv.put, hdup, if_true]
      exact ⟨hr.1.set 3 _, hr.2.chg ((Chg.refl [p] w).set (by simp) _) (by simp; exact fun e => Rcv.ne hr e.symm)⟩
  have HF := Lib.hid hfin
  clear hr hv hdup hfin
  cases hlk : lk r.l seq with
  | some x =>
    obtain ⟨xa, xn, xc, hx⟩ := HV.out _ (lk_some hlk)
    simp only at hx
    subst hx
    have hlook : ∀ n, (Instr.lookup 97 (.map (some m)) (.int .u32 seq) true).run Try.prog (w.drewN n) = .ok (.tuple #[.slice xa xn xc, .bool true]) (w.drewN n) := fun n =>
      look_some Try.underlying97 Try.underlying22 (HR.out.2.chg ((Chg.refl [] w).drewN n) (by simp)) (lk_some hlk)
    have HLK := Lib.hid hlk
    clear hlk
    have hlook0 := hlook 0
    simp only [World.drewN_zero] at hlook0
    go_enter Try.func13, Try.ntmps13
    go_wp2_with fail
    go_ret
    exact HF.out
  | none =>
    have hlook : ∀ n, (Instr.lookup 97 (.map (some m)) (.int .u32 seq) true).run Try.prog (w.drewN n) = .ok (.tuple #[.slice none 0 0, .bool false]) (w.drewN n) := fun n =>
      look_none (z := .slice none 0 0) Try.underlying97 Try.underlying22 (by kernel_rfl) (HR.out.2.chg ((Chg.refl [] w).drewN n) (by simp)) (lk_none hlk)
    have hlook0 := hlook 0
    simp only [World.drewN_zero] at hlook0
    have hne : seq ≠ r.nx := by
      intro e
      have h := HDUP.out
      rw [Rcv.dup, hlk, e] at h
      simp at h
    have hle : lessB r.nx seq = false := by
      have h := HDUP.out
      simp [Rcv.dup, hlk] at h
      exact h.2
    have HLE := Lib.hid hle
    clear hlk hle
    go_enter Try.func13, Try.ntmps13
    go_wp2_with fail
    refine (less_any _ _ _).mono ?_; rintro e' w' ⟨rfl, rfl⟩
    rw [HLE.out]
    go_wp2_with fail
    go_ret
    exact HF.out

/-- Ahead of the new one's coming in. -/
def PutPre (p m : Nat) (r : Rcv Value) (now : Int) (w w' : World) : Prop :=
  RcvAt w' p m ⟨r.nx, r.l, if r.l.isEmpty then now else r.since, r.twice⟩ ∧ Chg [p, m] w w'

theorem Rcv.more_ok {α : Type} {r : Rcv α} {now seq : Int} {d : α} (ok : r.Ok) (hs0 : 0 ≤ seq) (hs1 : seq < 4294967296) (hdup : r.dup seq = false) : (r.more now seq d).Ok := by
  refine ⟨ok.nx0, ok.nx1, fun q hq => ?_⟩
  rcases List.mem_append.1 hq with hq | hq
  · exact ok.keys q hq
  · simp at hq
    subst hq
    refine ⟨hs0, hs1, ?_⟩
    have h : (seq != r.nx && !lessB r.nx seq) = false := by
      unfold Rcv.dup at hdup
      rw [Bool.or_eq_false_iff] at hdup
      exact hdup.2
    have h0 := ok.nx0
    have h1 := ok.nx1
    unfold lessB at h
    simp at h
    show (seq - r.nx) % 4294967296 < 2147483648
    by_cases e : seq = r.nx
    · subst e; simp
    · exact (h e).2
theorem Rcv.more_len {α : Type} (r : Rcv α) (now seq : Int) (d : α) : (r.more now seq d).l.length = r.l.length + 1 := by simp [Rcv.more]
theorem Rcv.more_vals {r : Rcv Value} {now seq : Int} {v : Value} {d : List Int} {w : World} (hv : Vals r.l) (hb : Bytes w v d) : Vals (r.more now seq v).l := by
  intro q hq
  rcases List.mem_append.1 hq with hq | hq
  · exact hv q hq
  · simp at hq; subst hq; exact hb.slice

end Go.Proofs.Ytkmjpphmciaklaa
