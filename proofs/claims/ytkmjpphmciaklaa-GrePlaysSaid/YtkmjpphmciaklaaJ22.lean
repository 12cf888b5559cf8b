/- An end of a call: New, Send. -/
import Derived.Test.YtkmjpphmciaklaaJ21
namespace Go.Proofs.Ytkmjpphmciaklaa
open Go.RowKit
set_option linter.unusedVariables false
set_option linter.unusedSimpArgs false
attribute [local go_sem ↓] Go.wp_at_zero Go.wp_at_succ

/-- The blocks of an end. -/
def endF (q p pr g : Nat) (va : Value) (rp m : Nat) : List Nat := q :: rp :: m :: sndF p pr g va
/-- The end, part by part. -/
structure EndAt (w : World) (B q p pr g : Nat) (va : Value) (fr rp m : Nat) (E : End) : Prop where
  str : At w q 129 [.int .u16 E.call, .pointer (some ⟨p, 0, none⟩), .pointer (some ⟨rp, 0, none⟩), .bool E.owes, .int .i64 E.since]
  snd : SndIs w B p pr g va fr E.s
  rcv : RcvIs w rp m E.r
  hq : B ≤ q
  hr : B ≤ rp
  hm : B ≤ m
theorem EndOf.at {w : World} {B q : Nat} {F : List Nat} {E : End} (h : EndOf w B q F E) : ∃ p pr g va fr rp m, F = endF q p pr g va rp m ∧ EndAt w B q p pr g va fr rp m E := by
  obtain ⟨p, pr, g, va, fr, rp, m, hF, hA, hS, hR, h1, h2, h3⟩ := h
  exact ⟨p, pr, g, va, fr, rp, m, hF, hA, hS, hR, h1, h2, h3⟩
section
variable {w w' : World} {B q p pr g fr rp m : Nat} {va : Value} {E : End}
theorem EndAt.is (h : EndAt w B q p pr g va fr rp m E) : EndOf w B q (endF q p pr g va rp m) E := ⟨p, pr, g, va, fr, rp, m, rfl, h.str, h.snd, h.rcv, h.hq, h.hr, h.hm⟩
theorem EndAt.q_not (h : EndAt w B q p pr g va fr rp m E) : q ∉ sndF p pr g va := fun hm => by
  rcases (h.snd.kind q hm).2.2 with k | k | k | k <;> exact h.str.isT.ne k (by decide) rfl
theorem EndAt.rp_not (h : EndAt w B q p pr g va fr rp m E) : rp ∉ sndF p pr g va := fun hm => by
  rcases (h.snd.kind rp hm).2.2 with k | k | k | k <;> exact h.rcv.kind.1.ne k (by decide) rfl
theorem EndAt.m_not (h : EndAt w B q p pr g va fr rp m E) : m ∉ sndF p pr g va := fun hm => by
  rcases (h.snd.kind m hm).2.2 with k | k | k | k <;> exact h.rcv.kind.2 _ k
theorem EndAt.q_ne (h : EndAt w B q p pr g va fr rp m E) : q ≠ rp ∧ q ≠ m := ⟨h.str.isT.ne h.rcv.kind.1 (by decide), fun e => h.rcv.kind.2 129 (e ▸ h.str.isT)⟩
theorem EndAt.sndB (h : EndAt w B q p pr g va fr rp m E) : ∀ b ∈ sndF p pr g va, NoB w b := fun b hb => by
  rcases (h.snd.kind b hb).2.2 with k | k | k | k <;> exact k.noB (by decide)
theorem EndAt.keep (h : EndAt w B q p pr g va fr rp m E) (c : Chg [] w w') : EndAt w' B q p pr g va fr rp m E :=
  ⟨h.str.chg c (by simp), h.snd.keep c, h.rcv.chg c (by simp) (by simp) (by simp), h.hq, h.hr, h.hm⟩
theorem EndAt.snd_to (h : EndAt w B q p pr g va fr rp m E) {va' : Value} {fr' : Nat} {s' : Snd (List Int)} (hS : SndIs w' B p pr g va' fr' s') (c : Chg (sndF p pr g va) w w') : EndAt w' B q p pr g va' fr' rp m { E with s := s' } :=
  ⟨h.str.chg c h.q_not, hS, h.rcv.chg c h.rp_not h.m_not h.sndB, h.hq, h.hr, h.hm⟩
theorem EndAt.rcv_to (h : EndAt w B q p pr g va fr rp m E) {r' : Rcv (List Int)} (hR : RcvIs w' rp m r') (c : Chg [rp, m] w w') : EndAt w' B q p pr g va fr rp m { E with r := r' } := by
  refine ⟨h.str.chg c (by simp; exact h.q_ne), h.snd.chg c ?_ h.rcv.noB, hR, h.hq, h.hr, h.hm⟩
  intro b hb
  simp at hb
  rcases hb with rfl | rfl
  · exact h.rp_not
  · exact h.m_not
theorem EndAt.own_to (h : EndAt w B q p pr g va fr rp m E) {ow : Bool} {si : Int} (hA : At w' q 129 [.int .u16 E.call, .pointer (some ⟨p, 0, none⟩), .pointer (some ⟨rp, 0, none⟩), .bool ow, .int .i64 si]) (c : Chg [q] w w') : EndAt w' B q p pr g va fr rp m { E with owes := ow, since := si } := by
  have hn := h.q_ne
  have hb : NoB w q := h.str.noB (by decide)
  exact ⟨hA, h.snd.chg c (by simpa using h.q_not) (by simpa using hb), h.rcv.chg c (by simp; exact fun e => hn.1 e.symm) (by simp; exact fun e => hn.2 e.symm) (by simpa using hb), h.hq, h.hr, h.hm⟩
theorem endF_va {va va' : Value} {n : Nat} (h : ∀ b, va'.ownBlock = some b → va.ownBlock = some b ∨ n ≤ b) : ∀ b ∈ endF q p pr g va' rp m, b ∈ endF q p pr g va rp m ∨ n ≤ b := by
  intro b hb
  simp only [endF, sndF, List.mem_cons] at hb ⊢
  rcases hb with rfl | rfl | rfl | rfl | rfl | rfl | hb
  · simp
  · simp
  · simp
  · simp
  · simp
  · simp
  · rcases h b (by simpa using hb) with h' | h'
    · left; simp [h']
    · exact .inr h'
end

/-- What holds of an end in a law's course. -/
structure End.Ok (E : End) : Prop where
  s : E.s.Ok
  r : E.r.Ok
  rl : E.r.l.length ≤ 8
  rs0 : 0 ≤ E.r.since
  rs1 : E.r.since ≤ 100000000
  rt0 : 0 ≤ E.r.twice
  rt1 : E.r.twice ≤ 100000
  si0 : 0 ≤ E.since
  si1 : E.since ≤ 100000000
theorem pumpF_len {α : Type} (s now : Int) : ∀ (l : List α) (nx : Int) (air : List (Int × Int)), (pumpF s now nx air l).1.length ≤ l.length
  | [], nx, air => by simp [pumpF]
  | v :: l, nx, air => by
    by_cases h : (air.length : Int) < s
    · rw [pumpF_go h]
      have := pumpF_len s now l ((nx + 1) % 4294967296) (air ++ [(nx, now)])
      show (_ :: (pumpF s now ((nx + 1) % 4294967296) (air ++ [(nx, now)]) l).1).length ≤ _
      simp; omega
    · rw [pumpF_full h]; simp
theorem Snd.pump_len {α : Type} {x : Snd α} (ok : x.Ok) (now : Int) : (x.pump now).2.length ≤ 16 := Nat.le_trans (pumpF_len _ _ _ _ _) ok.wait

def newEnd (call most ticks : Int) : End := ⟨call, ⟨0, [], [], (cutZ most 1 16 + 1) / 2, 0, cutZ most 1 16, 8 * cutZ ticks 1 64, 0, 0⟩, ⟨0, [], 0, 0⟩, false, 0⟩
theorem newEnd_ok (call most ticks : Int) : (newEnd call most ticks).Ok :=
  ⟨⟨Int.le_refl _, by show (0 : Int) < 4294967296; decide, by simp [newEnd], by simp [newEnd], win_new _, by show 8 ≤ 8 * _; unfold cutZ; omega, by show 8 * _ ≤ 512; unfold cutZ; omega, by show (0 : Int) ≤ 0; decide, by show (0 : Int) ≤ 259; decide, by simp [newEnd], by simp [newEnd], by show (0 : Int) ≤ 0; decide, by show (0 : Int) ≤ 1000000000; decide⟩,
   ⟨Int.le_refl _, by show (0 : Int) < 4294967296; decide, by simp [newEnd]⟩, by simp [newEnd], Int.le_refl _, by show (0 : Int) ≤ 100000000; decide, Int.le_refl _, by show (0 : Int) ≤ 100000; decide, Int.le_refl _, by show (0 : Int) ≤ 100000000; decide⟩
def NewEndPost (call most ticks : Int) (w : World) (e : Ending) (w' : World) : Prop :=
  ∃ q F, e = .returned (.pointer (some ⟨q, 0, none⟩)) ∧ EndOf w' w.heap.size q F (newEnd call most ticks) ∧ Chg [] w w'
set_option maxRecDepth 100000 in
set_option maxHeartbeats 400000 in
theorem end_new (call most ticks : Int) (w : World) : Calls Try.prog 39 #[.int .u16 call, .int .i64 most, .int .i64 ticks] w (NewEndPost call most ticks w) := by
  go_enter Try.func39, Try.ntmps39
  go_wp2_with fail
  refine (send_new _ _ _ _).mono ?_
  rintro e w1 ⟨p, pr, g, rfl, hS, hc1⟩
  have HS := Lib.hid hS
  have HC1 := Lib.hid hc1
  clear hS hc1
  go_wp2_with fail
  refine (recv_new _ _).mono ?_
  rintro e w2 ⟨rp, m, rfl, hp, hm, hR, hc2⟩
  have hs2 := HC1.out.size
  have hE : ∀ q T, At w2 q T [] → True := fun _ _ _ => trivial
  have HC2 := Lib.hid hc2
  have HR := Lib.hid hR
  clear hc2 hR hE
  go_wp2_with fail
  go_ret
  have hca : Chg [] w2 (w2.alloc (.cells #[.int .u16 call, .pointer (some ⟨p, 0, none⟩), .pointer (some ⟨rp, 0, none⟩), .bool false, .int .i64 0] 129)) := (Chg.refl _ _).alloc _
  have hz := HC2.out.size
  have hSx : SndIs w1 w.heap.size p pr g (.slice none 0 0) 0 (newEnd call most ticks).s := ⟨[], HS.out, trivial⟩
  exact ⟨w2.heap.size, _, rfl, ⟨p, pr, g, .slice none 0 0, 0, rp, m, rfl, At.new w2 129 [_, _, _, _, _], (hSx.keep HC2.out).keep hca, ⟨_, HR.out.chg hca (by simp) (by simp), rfl, trivial, rfl, rfl⟩, by omega, by omega, by omega⟩, (HC1.out.trans HC2.out).trans hca⟩

/-- Behind a call of an end. -/
def Moved (B q : Nat) (F : List Nat) (E' : End) (w w' : World) : Prop := ∃ F', EndOf w' B q F' E' ∧ Chg F w w' ∧ ∀ b ∈ F', b ∈ F ∨ w.heap.size ≤ b
def End.send (E : End) (now : Int) (d : List Int) : End × List (Tun (List Int)) × Bool :=
  if d.length < 1 ∨ 1600 < d.length ∨ 16 ≤ E.s.wait.length then (E, [], false)
  else ({ E with s := ((E.s.push d).pump now).1 }.paidN ((E.s.push d).pump now).2.length, ((E.s.push d).pump now).2.map E.tun, true)
def SendPost (B q : Nat) (F : List Nat) (r : End × List (Tun (List Int)) × Bool) (w : World) (e : Ending) (w' : World) : Prop :=
  ∃ o, e = .returned (.tuple #[o, .bool r.2.2]) ∧ RowT (Bytes w') w' w.heap.size o r.2.1 ∧ Moved B q F r.1 w w'
set_option maxRecDepth 100000 in
set_option maxHeartbeats 1000000 in
theorem send_end {S : Nat → Prop} (w : World) (B q : Nat) (F : List Nat) (E : End) (now : Int) (a : Option Addr) (c : Nat) (d : List Int) (h : EndOf w B q F E) (ok : E.Ok) (hB : B ≤ w.heap.size) (hd : BytS S w (.slice a d.length c) d) (hn0 : -1000000000 ≤ now) (hn1 : now ≤ 1000000000) :
    Calls Try.prog 74 #[.pointer (some ⟨q, 0, none⟩), .int .i64 now, .slice a d.length c] w (SendPost B q F (E.send now d) w) := by
  have H := Lib.hid h
  have OK := Lib.hid ok
  have HD := Lib.hid hd
  have hno : ∀ w', Chg [] w w' → (d.length < 1 ∨ 1600 < d.length ∨ 16 ≤ E.s.wait.length) → SendPost B q F (E.send now d) w (.returned (.tuple #[.slice none 0 0, .bool false])) w' := fun w' hc hx => by
    unfold End.send
    rw [if_pos hx]
    exact ⟨_, rfl, RowT.nil _ _ _, F, h.keep hc, hc.mono (by simp), fun b hb => .inl hb⟩
  have HNO := Lib.hid hno
  clear h ok hd hno
  by_cases h1 : d.length < 1
  · have h1' : ((d.length : Nat) : Int) < 1 := by omega
    go_enter Try.func74, Try.ntmps74
    go_wp2_with fail
    go_ret2
    exact HNO.out _ (Chg.refl _ _) (.inl h1)
  by_cases h2 : 1600 < d.length
  · have h1' : ¬ ((d.length : Nat) : Int) < 1 := by omega
    have h2' : (1600 : Int) < (d.length : Nat) := by omega
    go_enter Try.func74, Try.ntmps74
    go_wp2_with fail
    go_ret2
    exact HNO.out _ (Chg.refl _ _) (.inr (.inl h2))
  have h1' : ¬ ((d.length : Nat) : Int) < 1 := by omega
  have h2' : ¬ (1600 : Int) < (d.length : Nat) := by omega
  obtain ⟨p, pr, g, va, fr, rp, m, rfl, hE⟩ := H.out.at
  obtain ⟨c0, c1, c2, c3, c4, _⟩ := hE.str.five
  have CT := Lib.hid (push_is w B p pr g va fr E.s (.slice a d.length c) d hE.snd HD.out (by omega))
  have HE := Lib.hid hE
  clear hE
  go_enter Try.func74, Try.ntmps74
  go_wp2_with fail
  refine CT.out.mono ?_
  rintro e w1 ⟨rfl, hS1, hc1⟩
  have hE1 := HE.out.snd_to hS1 hc1
  by_cases hlt : E.s.wait.length < 16
  · rw [decide_eq_true hlt]
    obtain ⟨d0, d1, d2, d3, d4, _⟩ := hE1.str.five
    have ok1 := Snd.push_ok OK.out.s d
    have hs1 : B ≤ w1.heap.size := Nat.le_trans hB hc1.size
    have CP := Lib.hid (pump_is w1 B p pr g va fr (E.s.push d) now hS1 hs1 ok1)
    have hlen := Snd.pump_len ok1 now
    have HE1 := Lib.hid hE1
    have HC1 := Lib.hid hc1
    clear hE1 hc1 hS1 CT c0 c1 c2 c3 c4 ok1
    go_wp2_with fail
    refine CP.out.mono ?_
    rintro e w2 ⟨o, va', fr', rfl, hO, hS2, hc2, hva⟩
    have hE2 := HE1.out.snd_to hS2 hc2
    have hnx0 := OK.out.r.nx0
    have hnx1 := OK.out.r.nx1
    have CK := Lib.hid (pack_any w2 B q _ _ o _ hE2.is hO.seqT (by omega) (Nat.le_trans hs1 hc2.size) hnx0 hnx1)
    obtain ⟨oa, oc, rfl, _⟩ := hO.seqT
    have HC2 := Lib.hid hc2
    have HVA := Lib.hid hva
    clear hE2 hO hS2 hc2 hva CP d0 d1 d2 d3 d4
    go_wp2_with fail
    refine CK.out.mono ?_
    rintro e w3 ⟨o3, rfl, hT, hE3, hc3⟩
    have hT' := hT
    obtain ⟨ta, tc, rfl⟩ := hT.slice
    have hfin : SendPost B q (endF q p pr g va rp m) (E.send now d) w (.returned (.tuple #[.slice ta ((E.s.push d).pump now).2.length tc, .bool true])) w3 := by
      rw [List.length_map] at hT'
      unfold End.send
      rw [if_neg (by omega)]
      have hs12 := HC1.out.size
      have hs23 := HC2.out.size
      have hsub : ∀ b ∈ sndF p pr g va, b ∈ endF q p pr g va rp m := fun b hb => by simp [endF, hb]
      refine ⟨_, rfl, ?_, _, hE3, ?_, fun b hb => ?_⟩
      · obtain ⟨l, r1, r2⟩ := hT'
        exact ⟨l, r1.mono (by omega), r2⟩
      · exact ((HC1.out.mono (fun b hb => .inl (hsub b hb))).trans (HC2.out.mono (fun b hb => .inl (hsub b hb)))).trans (hc3.mono (fun b hb => by simp at hb; subst hb; left; simp [endF]))
      · rcases endF_va HVA.out b hb with h' | h'
        · exact .inl h'
        · right; omega
    have HF := Lib.hid hfin
    clear hT hT' hE3 hc3 hfin CK
    go_wp2_with fail
    go_ret2
    exact HF.out
  · rw [decide_eq_false hlt]
    have hps : E.s.push d = E.s := by unfold Snd.push; rw [if_neg hlt]
    rw [hps] at hE1
    have hfin : SendPost B q (endF q p pr g va rp m) (E.send now d) w (.returned (.tuple #[.slice none 0 0, .bool false])) w1 := by
      unfold End.send
      rw [if_pos (by omega)]
      exact ⟨_, rfl, RowT.nil _ _ _, _, hE1.is, hc1.mono (fun b hb => by left; simp [endF, hb]), fun b hb => .inl hb⟩
    have HF := Lib.hid hfin
    clear hps hE1 hc1 hS1 hfin CT
    go_wp2_with fail
    go_ret2
    exact HF.out
end Go.Proofs.Ytkmjpphmciaklaa
