/- The sender against lists of bytes; what stays true of it. The chapter's example of layer 30. -/
import Derived.Test.YtkmjpphmciaklaaJ14
namespace Go.Proofs.Ytkmjpphmciaklaa
open Go.RowKit
set_option linter.unusedVariables false
set_option linter.unusedSimpArgs false

/-- Lists whose elements stand to one another as R says. -/
def RelV {α β : Type} (R : α → β → Prop) : List α → List β → Prop
  | [], [] => True
  | x :: l, y :: m => R x y ∧ RelV R l m
  | _, _ => False
theorem RelV.mono {α β : Type} {R R' : α → β → Prop} (h : ∀ x y, R x y → R' x y) : ∀ {l : List α} {m : List β}, RelV R l m → RelV R' l m
  | [], [], _ => trivial
  | _ :: _, _ :: _, hr => ⟨h _ _ hr.1, RelV.mono h hr.2⟩
  | [], _ :: _, hr => hr.elim
  | _ :: _, [], hr => hr.elim
theorem RelV.len {α β : Type} {R : α → β → Prop} : ∀ {l : List α} {m : List β}, RelV R l m → l.length = m.length
  | [], [], _ => rfl
  | _ :: _, _ :: _, hr => by simp [RelV.len hr.2]
  | [], _ :: _, hr => hr.elim
  | _ :: _, [], hr => hr.elim
theorem RelV.snoc {α β : Type} {R : α → β → Prop} : ∀ {l : List α} {m : List β} {x : α} {y : β}, RelV R l m → R x y → RelV R (l ++ [x]) (m ++ [y])
  | [], [], _, _, _, h => ⟨h, trivial⟩
  | _ :: _, _ :: _, _, _, hr, h => ⟨hr.1, RelV.snoc hr.2 h⟩
  | [], _ :: _, _, _, hr, _ => hr.elim
  | _ :: _, [], _, _, hr, _ => hr.elim
/-- The same sender with other things that wait. -/
def Snd.at {α β : Type} (a : Snd β) (l : List α) : Snd α := ⟨a.nx, a.air, l, a.s, a.a, a.mo, a.m, a.d, a.lost⟩
theorem pumpF_rel {α β : Type} {R : α → β → Prop} (s now : Int) : ∀ (nx : Int) (air : List (Int × Int)) {l : List α} {m : List β}, RelV R l m →
    RelL R (pumpF s now nx air l).1 (pumpF s now nx air m).1 ∧ (pumpF s now nx air l).2.1 = (pumpF s now nx air m).2.1 ∧ (pumpF s now nx air l).2.2.1 = (pumpF s now nx air m).2.2.1 ∧ RelV R (pumpF s now nx air l).2.2.2 (pumpF s now nx air m).2.2.2
  | nx, air, [], [], _ => ⟨trivial, rfl, rfl, trivial⟩
  | nx, air, x :: l, y :: m, hr => by
    by_cases h : (air.length : Int) < s
    · rw [pumpF_go h, pumpF_go h]
      have ih := pumpF_rel s now ((nx + 1) % 4294967296) (air ++ [(nx, now)]) hr.2
      exact ⟨⟨rfl, hr.1, ih.1⟩, ih.2⟩
    · rw [pumpF_full h, pumpF_full h]
      exact ⟨trivial, rfl, rfl, hr⟩
  | _, _, [], _ :: _, hr => hr.elim
  | _, _, _ :: _, [], hr => hr.elim

/-- The sender holds a. -/
def SndIs (w : World) (B p pr g : Nat) (va : Value) (fr : Nat) (a : Snd (List Int)) : Prop := ∃ l, SndAt w B p pr g va fr (a.at l) ∧ RelV (Bytes w) l a.wait
theorem SndIs.chg {F : List Nat} {w w' : World} {B p pr g fr : Nat} {va : Value} {a : Snd (List Int)} (h : SndIs w B p pr g va fr a) (c : Chg F w w') (hF : ∀ b ∈ F, b ∉ sndF p pr g va) (hN : ∀ b ∈ F, NoB w b) : SndIs w' B p pr g va fr a := by
  obtain ⟨l, h1, h2⟩ := h
  exact ⟨l, h1.chg c hF, h2.mono fun _ _ hb => hb.chg c hN⟩
theorem SndIs.keep {w w' : World} {B p pr g fr : Nat} {va : Value} {a : Snd (List Int)} (h : SndIs w B p pr g va fr a) (c : Chg [] w w') : SndIs w' B p pr g va fr a := h.chg c (by simp) (by simp)
theorem SndIs.kind {w : World} {B p pr g fr : Nat} {va : Value} {a : Snd (List Int)} (h : SndIs w B p pr g va fr a) : ∀ b ∈ sndF p pr g va, B ≤ b ∧ b < w.heap.size ∧ (IsT w b 122 ∨ IsT w b 156 ∨ IsT w b 29 ∨ IsT w b 125) := by
  obtain ⟨l, h1, _⟩ := h
  exact h1.kind
theorem Snd.Ok.at {α β : Type} {a : Snd β} (h : a.Ok) {l : List α} (hl : l.length = a.wait.length) : (a.at l).Ok :=
  ⟨h.nx0, h.nx1, h.air, by show l.length ≤ 16; rw [hl]; exact h.wait, h.win, h.m0, h.m1, h.d0, h.d1, h.keys, h.ats, h.l0, h.l1⟩

def PushIs (B p pr g : Nat) (va : Value) (fr : Nat) (a : Snd (List Int)) (d : List Int) (w : World) (e : Ending) (w' : World) : Prop :=
  e = .returned (.bool (decide (a.wait.length < 16))) ∧ SndIs w' B p pr g va fr (a.push d) ∧ Chg (sndF p pr g va) w w'
theorem push_is {S : Nat → Prop} (w : World) (B p pr g : Nat) (va : Value) (fr : Nat) (a : Snd (List Int)) (v : Value) (d : List Int) (h : SndIs w B p pr g va fr a) (hv : BytS S w v d) (hl : d.length ≤ 100000) :
    Calls Try.prog 34 #[.pointer (some ⟨p, 0, none⟩), v] w (PushIs B p pr g va fr a d w) := by
  obtain ⟨l, h1, h2⟩ := h
  refine (push_any w B p pr g va fr (a.at l) v d h1 hv hl).mono ?_
  rintro e w' ⟨u, hu, rfl, hS, hC⟩
  have hlen := h2.len
  have hC' : Chg (sndF p pr g va) w w' := hC.mono (fun b hb => by simp at hb; left; simp [sndF]; rcases hb with rfl | rfl <;> simp)
  have hw2 : RelV (Bytes w') l a.wait := h2.mono fun _ _ hb => hb.chg hC' h1.noB
  have hll : (a.at l).wait.length = a.wait.length := hlen
  refine ⟨by rw [hll], ?_, hC'⟩
  unfold Snd.push at hS ⊢
  by_cases hlt : a.wait.length < 16
  · rw [if_pos (by rw [hll]; exact hlt)] at hS
    rw [if_pos hlt]
    exact ⟨l ++ [u], hS, hw2.snoc hu⟩
  · rw [if_neg (by rw [hll]; exact hlt)] at hS
    rw [if_neg hlt]
    exact ⟨l, hS, hw2⟩

def PumpIs (B p pr g : Nat) (va0 : Value) (a : Snd (List Int)) (now : Int) (w : World) (e : Ending) (w' : World) : Prop :=
  ∃ o va fr, e = .returned o ∧ OutIs w' w.heap.size o (a.pump now).2 ∧ SndIs w' B p pr g va fr (a.pump now).1 ∧ Chg (sndF p pr g va0) w w' ∧ (∀ b, va.ownBlock = some b → va0.ownBlock = some b ∨ w.heap.size ≤ b)
theorem pk_cells (l : List (Int × Value)) : (pk l).flatten = cellsOf l := by simp [pk, cellsOf, List.flatMap]
theorem pump_is (w : World) (B p pr g : Nat) (va : Value) (fr : Nat) (a : Snd (List Int)) (now : Int) (h : SndIs w B p pr g va fr a) (hB : B ≤ w.heap.size) (ok : a.Ok) :
    Calls Try.prog 31 #[.pointer (some ⟨p, 0, none⟩), .int .i64 now] w (PumpIs B p pr g va a now w) := by
  obtain ⟨l, h1, h2⟩ := h
  refine (pump_any w B p pr g va fr (a.at l) now h1 hB (ok.at h2.len)).mono ?_
  rintro e w' ⟨o, va', fr', rfl, hO, hS, hC, hva⟩
  have hw2 : RelV (Bytes w') l a.wait := h2.mono fun _ _ hb => hb.chg hC h1.noB
  obtain ⟨r1, r2, r3, r4⟩ := pumpF_rel a.s now a.nx a.air hw2
  refine ⟨o, va', fr', rfl, ⟨_, ?_, r1⟩, ⟨(pumpF a.s now a.nx a.air l).2.2.2, ?_, r4⟩, hC, hva⟩
  · have h3 := hO.2
    rw [pk_len, pk_cells] at h3
    exact h3
  · have e : (Snd.at (a.pump now).1 (pumpF a.s now a.nx a.air l).2.2.2) = ((a.at l).pump now).1 := by
      show (⟨(pumpF a.s now a.nx a.air a.wait).2.1, (pumpF a.s now a.nx a.air a.wait).2.2.1, _, a.s, a.a, a.mo, a.m, a.d, a.lost⟩ : Snd Value) = ⟨(pumpF a.s now a.nx a.air l).2.1, (pumpF a.s now a.nx a.air l).2.2.1, _, a.s, a.a, a.mo, a.m, a.d, a.lost⟩
      rw [r2, r3]
      rfl
    rw [e]; exact hS

theorem ack_at {α β : Type} (a : Snd β) (l : List α) (now seq : Int) : (a.at l).ack now seq = ((a.ack now seq).1.at l, (a.ack now seq).2) := by
  unfold Snd.ack Snd.at
  simp only
  split <;> rfl
theorem late_at {α β : Type} (a : Snd β) (l : List α) (now : Int) : (a.at l).late now = ((a.late now).1.at l, (a.late now).2) := by
  unfold Snd.late Snd.at
  simp only
  split
  · rfl
  · split <;> rfl
def AckIs (B p pr g : Nat) (va0 : Value) (fr : Nat) (a' : Snd (List Int)) (n : Nat) (w : World) (e : Ending) (w' : World) : Prop :=
  ∃ va, e = .returned (.int .i64 n) ∧ SndIs w' B p pr g va fr a' ∧ Chg (sndF p pr g va0) w w' ∧ (∀ b, va.ownBlock = some b → va0.ownBlock = some b ∨ w.heap.size ≤ b)
theorem ack_is (w : World) (B p pr g : Nat) (va : Value) (fr : Nat) (a : Snd (List Int)) (now seq : Int) (h : SndIs w B p pr g va fr a) (hB : B ≤ w.heap.size) (ok : a.Ok) (hn0 : -1000000000 ≤ now) (hn1 : now ≤ 1000000000) :
    Calls Try.prog 32 #[.pointer (some ⟨p, 0, none⟩), .int .i64 now, .int .u32 seq] w (AckIs B p pr g va fr (a.ack now seq).1 (a.ack now seq).2 w) := by
  obtain ⟨l, h1, h2⟩ := h
  refine (ack_any w B p pr g va fr (a.at l) now seq h1 hB (ok.at h2.len) hn0 hn1).mono ?_
  rintro e w' ⟨va', he, hS, hC, hva⟩
  rw [ack_at] at he hS
  have hC' : Chg (sndF p pr g va) w w' := hC.mono (fun b hb => by simp at hb; subst hb; left; simp [sndF])
  have hwt : (a.ack now seq).1.wait = a.wait := by unfold Snd.ack; split <;> rfl
  refine ⟨va', he, ⟨l, hS, by rw [hwt]; exact h2.mono fun _ _ hb => hb.chg hC' h1.noB⟩, hC', fun b hb => ?_⟩
  rcases hva with rfl | hva
  · exact .inl hb
  · exact .inr (hva b hb)
theorem late_is (w : World) (B p pr g : Nat) (va : Value) (fr : Nat) (a : Snd (List Int)) (now : Int) (h : SndIs w B p pr g va fr a) (ok : a.Ok) (hn0 : -1000000000 ≤ now) (hn1 : now ≤ 1000000000) :
    Calls Try.prog 33 #[.pointer (some ⟨p, 0, none⟩), .int .i64 now] w (AckIs B p pr g va fr (a.late now).1 (a.late now).2 w) := by
  obtain ⟨l, h1, h2⟩ := h
  refine (late_any w B p pr g va fr (a.at l) now h1 (ok.at h2.len) hn0 hn1).mono ?_
  rintro e w' ⟨va', he, hS, hC, hva⟩
  rw [late_at] at he hS
  have hC' : Chg (sndF p pr g va) w w' := hC.mono (fun b hb => by simp at hb; subst hb; left; simp [sndF])
  have hwt : (a.late now).1.wait = a.wait := by
    unfold Snd.late
    split
    · rfl
    · split <;> rfl
  refine ⟨va', he, ⟨l, hS, by rw [hwt]; exact h2.mono fun _ _ hb => hb.chg hC' h1.noB⟩, hC', fun b hb => ?_⟩
  rcases hva with rfl | rfl
  · exact .inl hb
  · simp [Value.ownBlock] at hb

/-! ### What stays true -/
theorem rm_bd (m t : Int) (hm : 8 ≤ m) (hm' : m ≤ 512) : 8 ≤ rm m t ∧ rm m t ≤ 512 := by unfold rm rx cutZ; omega
theorem rd_bd (m d t : Int) (hm : 8 ≤ m) (hm' : m ≤ 512) (hd : 0 ≤ d) (hd' : d ≤ 259) : 0 ≤ rd m d t ∧ rd m d t ≤ 259 := by unfold rd rx cutZ; omega
theorem lm_bd (m : Int) (hm : 8 ≤ m) (hm' : m ≤ 512) : 8 ≤ lm m ∧ lm m ≤ 512 := by unfold lm; omega
section
variable {α : Type} {x : Snd α}
theorem Snd.push_ok (h : x.Ok) (v : α) : (x.push v).Ok := by
  unfold Snd.push
  split
  · exact ⟨h.nx0, h.nx1, h.air, by simp; omega, h.win, h.m0, h.m1, h.d0, h.d1, h.keys, h.ats, h.l0, h.l1⟩
  · exact h
theorem pumpF_ok {s now : Int} (hs : s ≤ 16) (hn0 : -1000000000 ≤ now) (hn1 : now ≤ 1000000000) : ∀ (l : List α) (nx : Int) (air : List (Int × Int)), 0 ≤ nx → nx < 4294967296 → air.length ≤ 16 → (∀ f ∈ air, 0 ≤ f.1 ∧ f.1 < 4294967296) → (∀ f ∈ air, -1000000000 ≤ f.2 ∧ f.2 ≤ 1000000000) →
    0 ≤ (pumpF s now nx air l).2.1 ∧ (pumpF s now nx air l).2.1 < 4294967296 ∧ (pumpF s now nx air l).2.2.1.length ≤ 16 ∧ (∀ f ∈ (pumpF s now nx air l).2.2.1, 0 ≤ f.1 ∧ f.1 < 4294967296) ∧ (∀ f ∈ (pumpF s now nx air l).2.2.1, -1000000000 ≤ f.2 ∧ f.2 ≤ 1000000000) ∧ (pumpF s now nx air l).2.2.2.length ≤ l.length
  | [], nx, air, h1, h2, h3, h4, h5 => ⟨h1, h2, h3, h4, h5, Nat.le_refl _⟩
  | v :: l, nx, air, h1, h2, h3, h4, h5 => by
    by_cases h : (air.length : Int) < s
    · rw [pumpF_go h]
      have ih := pumpF_ok hs hn0 hn1 l ((nx + 1) % 4294967296) (air ++ [(nx, now)]) (by omega) (by omega) (by simp; omega) (fun f hf => by
        rcases List.mem_append.1 hf with hf | hf
        · exact h4 f hf
        · simp at hf; subst hf; exact ⟨h1, h2⟩) (fun f hf => by
        rcases List.mem_append.1 hf with hf | hf
        · exact h5 f hf
        · simp at hf; subst hf; exact ⟨hn0, hn1⟩)
      exact ⟨ih.1, ih.2.1, ih.2.2.1, ih.2.2.2.1, ih.2.2.2.2.1, by simp; omega⟩
    · rw [pumpF_full h]
      exact ⟨h1, h2, h3, h4, h5, Nat.le_refl _⟩
theorem Snd.pump_ok (h : x.Ok) {now : Int} (hn0 : -1000000000 ≤ now) (hn1 : now ≤ 1000000000) : (x.pump now).1.Ok := by
  have hs : x.s ≤ 16 := by have := h.win; unfold Win at this; omega
  obtain ⟨h1, h2, h3, h4, h5, h6⟩ := pumpF_ok hs hn0 hn1 x.wait x.nx x.air h.nx0 h.nx1 h.air h.keys h.ats
  exact ⟨h1, h2, h3, Nat.le_trans h6 h.wait, h.win, h.m0, h.m1, h.d0, h.d1, h4, h5, h.l0, h.l1⟩
theorem Snd.ack_ok (h : x.Ok) (now seq : Int) : (x.ack now seq).1.Ok := by
  unfold Snd.ack
  split
  · exact h
  · have hr := rm_bd x.m (tookF x.air now (ackN seq x.nx x.air)) h.m0 h.m1
    have hd := rd_bd x.m x.d (tookF x.air now (ackN seq x.nx x.air)) h.m0 h.m1 h.d0 h.d1
    exact ⟨h.nx0, h.nx1, by have := h.air; simp; omega, h.wait, h.win.it _, hr.1, hr.2, hd.1, hd.2, fun f hf => h.keys f (List.mem_of_mem_drop hf), fun f hf => h.ats f (List.mem_of_mem_drop hf), h.l0, h.l1⟩
theorem Snd.late_ok (h : x.Ok) (now : Int) (hl : x.lost ≤ 999999000) : (x.late now).1.Ok ∧ (x.late now).1.lost ≤ x.lost + 16 := by
  unfold Snd.late
  split
  · exact ⟨h, by show x.lost ≤ _; omega⟩
  · rename_i f l he
    have h16 := h.air
    rw [he] at h16
    simp at h16
    split
    · exact ⟨h, by show x.lost ≤ _; omega⟩
    · have hm := lm_bd x.m h.m0 h.m1
      have hl0 := h.l0
      exact ⟨⟨h.nx0, h.nx1, by simp, h.wait, h.win.late, hm.1, hm.2, h.d0, h.d1, fun f hf => by simp at hf, fun f hf => by simp at hf, by show 0 ≤ x.lost + _; omega, by show x.lost + _ ≤ _; omega⟩, by show x.lost + _ ≤ _; omega⟩
end
end Go.Proofs.Ytkmjpphmciaklaa
namespace Go.Proofs.Ytkmjpphmciaklaa
open Go.RowKit
set_option linter.unusedVariables false
set_option linter.unusedSimpArgs false
attribute [local go_sem ↓] Go.wp_at_zero Go.wp_at_succ

theorem bytes_1 (w : World) (x : Int) : Bytes (w.alloc (.cells #[.int .u8 x] 5)) (.slice (some ⟨w.heap.size, 0, none⟩) 1 1) [x] :=
  ⟨_, _, rfl, fun _ => ⟨_, _, rfl, _, _, (MapKept.heap_alloc w _).1, fun j u hj => by
    cases j with
    | zero => simp at hj; subst hj; rfl
    | succ j => simp at hj⟩⟩

theorem ex30_0 : (⟨0, [], [], (cutZ 2 1 16 + 1) / 2, 0, cutZ 2 1 16, 8 * cutZ 1 1 64, 0, 0⟩ : Snd (List Int)) = ⟨0, [], [], 1, 0, 2, 8, 0, 0⟩ := by rfl
theorem ex30_1 : ((⟨0, [], [], 1, 0, 2, 8, 0, 0⟩ : Snd (List Int)).push [1]).push [2] = ⟨0, [], [[1], [2]], 1, 0, 2, 8, 0, 0⟩ := by rfl
theorem ex30_2 : (⟨0, [], [[1], [2]], 1, 0, 2, 8, 0, 0⟩ : Snd (List Int)).pump 0 = (⟨1, [(0, 0)], [[2]], 1, 0, 2, 8, 0, 0⟩, [(0, [1])]) := by rfl
theorem ex30_3 : ((⟨1, [(0, 0)], [[2]], 1, 0, 2, 8, 0, 0⟩ : Snd (List Int)).ack 1 0).2 = 1 ∧ ((⟨1, [(0, 0)], [[2]], 1, 0, 2, 8, 0, 0⟩ : Snd (List Int)).ack 1 0).1.air = [] := by constructor <;> rfl
theorem ex30_ok : (⟨0, [], [], 1, 0, 2, 8, 0, 0⟩ : Snd (List Int)).Ok := ⟨by decide, by decide, by decide, by decide, by unfold Win; decide, by decide, by decide, by decide, by decide, by simp, by simp, by decide, by decide⟩

theorem chg_at {F : List Nat} {w w' : World} {B : Nat} (h : Chg F w w') (hF : ∀ b ∈ F, B ≤ b) {a : World} (ha : Chg [] a w) (hB : a.heap.size ≤ B) : Chg [] a w' :=
  ha.trans' h (fun b hb => Or.inr (Nat.le_trans hB (hF b hb)))

set_option maxRecDepth 100000 in
set_option maxHeartbeats 2000000 in
theorem alive30_any (w : World) : Calls Try.prog 38 #[] w fun e w' => e = .returned (.bool true) ∧ Chg [] w w' := by
  go_enter Try.func38, Try.ntmps38
  go_wp2_with fail
  refine (send_new _ _ _ _).mono ?_
  rintro e w1 ⟨p, pr, g, rfl, hS, hch⟩
  have h1 : SndIs w1 w.heap.size p pr g (.slice none 0 0) 0 ⟨0, [], [], 1, 0, 2, 8, 0, 0⟩ := ⟨[], hS, trivial⟩
  have H1 := Lib.hid (h1.keep ((Chg.refl [] w1).alloc (.cells #[.int .u8 1] 5)))
  have C1 := Lib.hid (hch.alloc (.cells #[.int .u8 1] 5))
  have CT := Lib.hid (push_is _ _ _ _ _ _ _ _ _ _ H1.out (bytes_1 w1 1).wide (by simp))
  clear hS hch h1
  go_wp2_with fail
  refine CT.out.mono ?_
  rintro e w2 ⟨rfl, hS, hch⟩
  have C2 := Lib.hid (chg_at hch (fun b hb => (H1.out.kind b hb).1) C1.out (Nat.le_refl _))
  have H2 := Lib.hid (hS.keep ((Chg.refl [] w2).alloc (.cells #[.int .u8 2] 5)))
  have C2' := Lib.hid (C2.out.alloc (.cells #[.int .u8 2] 5))
  clear hS hch CT
  have CT := Lib.hid (push_is _ _ _ _ _ _ _ _ _ _ H2.out (bytes_1 w2 2).wide (by simp))
  go_wp2_with fail
  refine CT.out.mono ?_
  rintro e w3 ⟨rfl, hS, hch⟩
  have C3 := Lib.hid (chg_at hch (fun b hb => (H2.out.kind b hb).1) C2'.out (Nat.le_refl _))
  have H3 := Lib.hid hS
  clear hS hch CT
  have CT := Lib.hid (pump_is _ _ _ _ _ _ _ _ 0 H3.out C3.out.size (Snd.push_ok (Snd.push_ok ex30_ok [1]) [2]))
  rw [ex30_1] at CT
  go_wp2_with fail
  refine CT.out.mono ?_
  rintro e w4 ⟨o, va, fr, rfl, hO, hS, hch, hva⟩
  rw [ex30_2] at hO hS
  obtain ⟨oa, oc, rfl, hat⟩ := hO.at
  obtain ⟨go, d0, rfl, _, hgo, hnb, e0, e1, hb0⟩ := hat 0 (by simp)
  have e0' : w4.cell? ⟨go, 0, none⟩ = some (.int .u32 0) := e0
  have C4 := Lib.hid (chg_at hch (fun b hb => (H3.out.kind b hb).1) C3.out (Nat.le_refl _))
  have H4 := Lib.hid hS
  clear hS hch CT hO hva hat e0 e1 hb0 hnb hgo
  have OK4 : (⟨1, [(0, 0)], [[2]], 1, 0, 2, 8, 0, 0⟩ : Snd (List Int)).Ok := by
    have h := Snd.pump_ok (Snd.push_ok (Snd.push_ok ex30_ok [1]) [2]) (now := 0) (by decide) (by decide)
    rw [ex30_1, ex30_2] at h
    exact h
  have CT := Lib.hid (ack_is _ _ _ _ _ _ _ _ 1 0 H4.out C4.out.size OK4 (by decide) (by decide))
  rw [ex30_3.1] at CT
  have HOK := Lib.hid OK4
  clear OK4
  go_wp2_with fail
  refine CT.out.mono ?_
  rintro e w5 ⟨va', rfl, ⟨l, hS, hl⟩, hch, hva⟩
  have C5 := Lib.hid (chg_at hch (fun b hb => (H4.out.kind b hb).1) C4.out (Nat.le_refl _))
  have CA := Lib.hid (air_any _ _ _ _ _ _ _ _ hS)
  have e9 : (((⟨1, [(0, 0)], [[2]], 1, 0, 2, 8, 0, 0⟩ : Snd (List Int)).ack 1 0).1.at l).air.length = 0 := by
    show ((⟨1, [(0, 0)], [[2]], 1, 0, 2, 8, 0, 0⟩ : Snd (List Int)).ack 1 0).1.air.length = 0
    rw [ex30_3.2]; rfl
  rw [e9] at CA
  clear hS hl hch hva CT e9
  go_wp2_with fail
  refine CA.out.mono ?_
  rintro e w6 ⟨rfl, rfl⟩
  go_wp2_with fail
  go_ret
  exact ⟨rfl, C5.out⟩
end Go.Proofs.Ytkmjpphmciaklaa
