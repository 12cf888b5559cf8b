/- An end of a call: Take. -/
import Derived.Test.YtkmjpphmciaklaaJ22
import Derived.Deep.LoopGhost
import Derived.Deep.DeepCutAuto
import Derived.Deep.CutBlock
namespace Go.Proofs.Ytkmjpphmciaklaa
open Go.RowKit
set_option linter.unusedVariables false
set_option linter.unusedSimpArgs false
attribute [local go_sem ↓] Go.wp_at_zero Go.wp_at_succ

def End.took (E : End) (now : Int) (hs : Bool) (seq : Int) (ha : Bool) (ak : Int) (d : List Int) : End × List (Int × List Int) :=
  if hs then (⟨E.call, if ha then (E.s.ack now ak).1 else E.s, (E.r.put now seq d).1, true, if E.owes then E.since else now⟩, (E.r.put now seq d).2)
  else (⟨E.call, if ha then (E.s.ack now ak).1 else E.s, E.r, E.owes, E.since⟩, [])
/-- What is sent then. -/
def End.pumped (E : End) (now : Int) : End × List (Tun (List Int)) := ({ E with s := (E.s.pump now).1 }.paidN (E.s.pump now).2.length, (E.s.pump now).2.map E.tun)
def GivesPost (B q : Nat) (F : List Nat) (E' : End) (ds : List (List Int)) (ts : List (Tun (List Int))) (w : World) (e : Ending) (w' : World) : Prop :=
  ∃ o1 o2, e = .returned (.tuple #[o1, o2]) ∧ RowS (Bytes w') w' w.heap.size o1 ds ∧ RowT (Bytes w') w' w.heap.size o2 ts ∧ (∀ b, o1.ownBlock = some b → o2.ownBlock ≠ some b) ∧ (∀ b ∈ F, o1.ownBlock ≠ some b) ∧ Moved B q F E' w w'

section
variable {w wc w3 w4 w5 : World} {B q p pr g fr fr' rp m : Nat} {va va' o1 : Value} {E : End} {out : List (Int × List Int)}
theorem take_fin {F0 : List Nat} {now : Int} {o3 : Value} (hE : EndAt wc B q p pr g va fr rp m E) (hF : ∀ b ∈ endF q p pr g va rp m, b ∈ F0 ∨ w.heap.size ≤ b) (hc : Chg F0 w wc) (hrow : RowS (Bytes w3) w3 wc.heap.size o1 (out.map (·.2))) (hc3 : Chg [] wc w3)
    (hE4 : EndAt w4 B q p pr g va' fr' rp m { E with s := (E.s.pump now).1 }) (hc4 : Chg (sndF p pr g va) w3 w4) (hva : ∀ b, va'.ownBlock = some b → va.ownBlock = some b ∨ w3.heap.size ≤ b)
    (hT : RowT (Bytes w5) w5 w4.heap.size o3 ((E.s.pump now).2.map (End.tun { E with s := (E.s.pump now).1 }))) (hE5 : EndOf w5 B q (endF q p pr g va' rp m) ({ E with s := (E.s.pump now).1 }.paidN (E.s.pump now).2.length)) (hc5 : Chg [q] w4 w5) (hF0 : ∀ b ∈ F0, b < w.heap.size) :
    GivesPost B q F0 (E.pumped now).1 (out.map (·.2)) (E.pumped now).2 w (.returned (.tuple #[o1, o3])) w5 := by
  have s1 := hc.size
  have s3 := hc3.size
  have s4 := hc4.size
  have s5 := hc5.size
  have hE3 := hE.keep hc3
  have hlo : ∀ b ∈ endF q p pr g va rp m, b < wc.heap.size := fun b hb => (hE.is.kind b hb).2.1
  have hsub : ∀ b ∈ sndF p pr g va, b ∈ endF q p pr g va rp m := fun b hb => by simp [endF, hb]
  have hq : q ∈ endF q p pr g va rp m := by simp [endF]
  have hob : ∀ b, o1.ownBlock = some b → wc.heap.size ≤ b ∧ b < w3.heap.size := hrow.lt
  have row4 : RowS (Bytes w4) w4 wc.heap.size o1 (out.map (·.2)) := hrow.chg hc4 (fun b hb e => by
    have h1 := hlo b (hsub b hb)
    have h2 := (hob b e).1
    omega) (fun u d hb => hb.chg hc4 hE3.sndB)
  have hqn : NoB w4 q := hE4.str.noB (by decide)
  have row5 : RowS (Bytes w5) w5 wc.heap.size o1 (out.map (·.2)) := row4.chg hc5 (fun b hb e => by
    simp at hb
    subst hb
    have h1 := hlo _ hq
    have h2 := (hob _ e).1
    omega) (fun u d hb => hb.chg hc5 (by simpa using hqn))
  have lift : ∀ {F : List Nat} {a b : World}, Chg F a b → (∀ x ∈ F, x ∈ F0 ∨ w.heap.size ≤ x) → w.heap.size ≤ a.heap.size → Chg F0 w a → Chg F0 w b := fun c hx _ h => h.trans' c hx
  have c3 : Chg F0 w w3 := lift hc3 (by simp) s1 hc
  have c4 : Chg F0 w w4 := lift hc4 (fun x hx => hF x (hsub x hx)) (by omega) c3
  have c5 : Chg F0 w w5 := lift hc5 (fun x hx => by simp at hx; subst hx; exact hF _ hq) (by omega) c4
  refine ⟨o1, o3, rfl, ?_, ?_, fun b h1 h2 => ?_, fun b hb e => ?_, _, hE5, c5, fun b hb => ?_⟩
  · obtain ⟨l, r1, r2⟩ := row5
    exact ⟨l, r1.mono (by omega), r2⟩
  · obtain ⟨l, r1, r2⟩ := hT
    exact ⟨l, r1.mono (by omega), r2⟩
  · have k1 := (hob b h1).2
    have k2 := (hT.lt b h2).1
    omega
  · have k1 := (hob b e).1
    have k2 := hF0 b hb
    omega
  · rcases endF_va hva b hb with h' | h'
    · exact hF b h'
    · right; omega
end

set_option maxRecDepth 100000 in
set_option maxHeartbeats 2000000 in
theorem take_end (w : World) (B q : Nat) (F : List Nat) (E : End) (now : Int) (call : Int) (hs : Bool) (seq : Int) (ha : Bool) (ak : Int) (a : Option Addr) (c : Nat) (d : List Int) (h : EndOf w B q F E) (ok : E.Ok) (hB : B ≤ w.heap.size) (hd : BytS (· ∉ F) w (.slice a d.length c) d) (hdl : d.length ≤ 100000)
    (hn0 : 0 ≤ now) (hn1 : now ≤ 100000000) (hs0 : 0 ≤ seq) (hs1 : seq < 4294967296) :
    Calls Try.prog 79 #[.pointer (some ⟨q, 0, none⟩), .int .i64 now, .agg #[.int .u16 call, .bool hs, .int .u32 seq, .bool ha, .int .u32 ak, .slice a d.length c]] w
      (GivesPost B q F ((E.took now hs seq ha ak d).1.pumped now).1 ((E.took now hs seq ha ak d).2.map (·.2)) ((E.took now hs seq ha ak d).1.pumped now).2 w) := by
  have hFl : ∀ b ∈ F, b < w.heap.size := fun b hb => (h.kind b hb).2.1
  obtain ⟨p, pr, g, va, fr, rp, m, rfl, hE⟩ := h.at
  have OK := Lib.hid ok
  clear h ok
  go_enter Try.func79, Try.ntmps79
  go_upto_region 1 with (fail)
  obtain ⟨wx, hwx⟩ : ∃ wx, wx = w.alloc (.cells #[.int .u16 call, .bool hs, .int .u32 seq, .bool ha, .int .u32 ak, .slice a d.length c] 138) := ⟨_, rfl⟩
  have hcx : Chg [] w wx := by rw [hwx]; exact (Chg.refl _ _).alloc _
  have hX : At wx w.heap.size 138 [.int .u16 call, .bool hs, .int .u32 seq, .bool ha, .int .u32 ak, .slice a d.length c] := by rw [hwx]; exact At.new w 138 [_, _, _, _, _, _]
  obtain ⟨gb, hgb⟩ : ∃ gb, gb = w.heap.size := ⟨_, rfl⟩
  rw [← hgb] at hX
  rw [← hwx, ← hgb]
  have hEx := hE.keep hcx
  have hdx := hd.chg hcx (by simp)
  have hgF : gb ∉ endF q p pr g va rp m := fun hm => by have := hFl _ hm; omega
  have HE := Lib.hid hEx
  have HX := Lib.hid hX
  have HD := Lib.hid hdx
  have HC := Lib.hid hcx
  have HG := Lib.hid (And.intro hgb hgF)
  have HFL := Lib.hid hFl
  obtain ⟨x0, x1, x2, x3, x4, x5, _⟩ := hX.six
  clear hE hd hwx hcx hX hgb hgF hEx hdx hFl
  go_upto_if 10 with (fail)
  go_cut [] (fun wq => ∃ va' fr', EndAt wq B q p pr g va' fr' rp m { E with s := if ha then (E.s.ack now ak).1 else E.s } ∧ At wq gb 138 [.int .u16 call, .bool hs, .int .u32 seq, .bool ha, .int .u32 ak, .slice a d.length c] ∧ BytS (· ∉ endF q p pr g va rp m) wq (.slice a d.length c) d ∧ Chg (sndF p pr g va) wx wq ∧ (∀ b, va'.ownBlock = some b → va.ownBlock = some b ∨ wx.heap.size ≤ b))
  case first =>
    cases ha with
    | false =>
      go_wp2_with fail
      go_meet
      exact ⟨va, fr, HE.out, HX.out, HD.out, Chg.refl _ _, fun b hb => .inl hb⟩
    | true =>
      have CT := Lib.hid (ack_is wx.drew B p pr g va fr E.s now ak (HE.out.snd.keep (Chg.refl [] wx).drew) (Nat.le_trans hB HC.out.size) OK.out.s (by omega) (by omega))
      have hq1 : wx.drew.cell? ⟨q, 1, none⟩ = some (.pointer (some ⟨p, 0, none⟩)) := HE.out.str.five.2.1
      have hx4 : wx.drew.cell? ⟨gb, 4, none⟩ = some (.int .u32 ak) := x4
      go_wp2_with fail
      refine wp_region_phase 7 (fun w' => w'.cell? ⟨q, 1, none⟩ = some (.pointer (some ⟨p, 0, none⟩)) ∧ w'.cell? ⟨gb, 4, none⟩ = some (.int .u32 ak)) (by kernel_rfl) ?_
      refine wpAnyP_with (by exact ⟨hq1, hx4⟩) (fun hSw => ?_)
      refine wpAnyP_take 0 [3, 2, 1] (v := ?_) rfl (by kernel_rfl) (fun _ _ _ h => h) (by assumption) (Or.inl ⟨by rfl, ?_⟩) ?_
      rotate_left
      · (intro w hSw; (try dsimp only at hSw); obtain ⟨s0, s1⟩ := hSw; go_simp; try with_reducible rfl)
      simp only [List.getElem_toArray, List.getElem_cons_succ, List.getElem_cons_zero, Act.put, List.setIfInBounds_toArray, List.set_cons_zero, List.set_cons_succ]
      refine wpAnyP_take 1 [3, 2] (v := ?_) rfl (by kernel_rfl) (fun _ _ _ h => h) (by assumption) (Or.inl ⟨by rfl, ?_⟩) ?_
      rotate_left
      · (intro w hSw; (try dsimp only at hSw); obtain ⟨s0, s1⟩ := hSw; go_simp; try with_reducible rfl)
      simp only [List.getElem_toArray, List.getElem_cons_succ, List.getElem_cons_zero, Act.put, List.setIfInBounds_toArray, List.set_cons_zero, List.set_cons_succ]
      refine wpAnyP_take 2 [3] (v := ?_) rfl (by kernel_rfl) (fun _ _ _ h => h) (by assumption) (Or.inl ⟨by rfl, ?_⟩) ?_
      rotate_left
      · (intro w hSw; (try dsimp only at hSw); obtain ⟨s0, s1⟩ := hSw; go_simp; try with_reducible rfl)
      simp only [List.getElem_toArray, List.getElem_cons_succ, List.getElem_cons_zero, Act.put, List.setIfInBounds_toArray, List.set_cons_zero, List.set_cons_succ]
      refine wpAnyP_take 3 [] (v := ?_) rfl (by kernel_rfl) (fun _ _ _ h => h) (by assumption) (Or.inl ⟨by rfl, ?_⟩) ?_
      rotate_left
      · (intro w hSw; (try dsimp only at hSw); obtain ⟨s0, s1⟩ := hSw; go_simp; try with_reducible rfl)
      simp only [List.getElem_toArray, List.getElem_cons_succ, List.getElem_cons_zero, Act.put, List.setIfInBounds_toArray, List.set_cons_zero, List.set_cons_succ]
      refine wpAnyP_take 4 [] (v := ?_) rfl (by kernel_rfl) (fun _ _ _ h => h) (by assumption) (Or.inl ⟨by rfl, ?_⟩) ?_
      rotate_left
      · (intro w hSw; (try dsimp only at hSw); obtain ⟨s0, s1⟩ := hSw; go_simp; try with_reducible rfl)
      simp only [List.getElem_toArray, List.getElem_cons_succ, List.getElem_cons_zero, Act.put, List.setIfInBounds_toArray, List.set_cons_zero, List.set_cons_succ]
      refine wpAnyP_take 5 [6] (v := ?_) rfl (by kernel_rfl) (fun _ _ _ h => h) (by assumption) (Or.inl ⟨by rfl, ?_⟩) ?_
      rotate_left
      · (intro w hSw; (try dsimp only at hSw); obtain ⟨s0, s1⟩ := hSw; go_simp; try with_reducible rfl)
      simp only [List.getElem_toArray, List.getElem_cons_succ, List.getElem_cons_zero, Act.put, List.setIfInBounds_toArray, List.set_cons_zero, List.set_cons_succ]
      refine wpAnyP_take 6 [] (v := ?_) rfl (by kernel_rfl) (fun _ _ _ h => h) (by assumption) (Or.inl ⟨by rfl, ?_⟩) ?_
      rotate_left
      · (intro w hSw; (try dsimp only at hSw); obtain ⟨s0, s1⟩ := hSw; go_simp; try with_reducible rfl)
      simp only [List.getElem_toArray, List.getElem_cons_succ, List.getElem_cons_zero, Act.put, List.setIfInBounds_toArray, List.set_cons_zero, List.set_cons_succ]
      refine wpAnyP_one 7 rfl (by kernel_rfl) (fun K hK => ?_)
      rw [if_pos (by rfl)]
      go_wp2_with ((refine CT.out.mono ?_; rintro e w2 ⟨va', rfl, hS2, hc2, hva⟩; have hE2 := (HE.out.keep (Chg.refl [] wx).drew).snd_to hS2 hc2; have hd2 := HD.out.chg (Chg.refl [] wx).drew (by simp); have hX2 := HX.out.drew.chg hc2 (fun hm => HG.out.2 (by simp [endF, hm])); have hd3 := hd2.chg hc2 (fun g' _ hs hm => hs (by simp [endF, hm])); have hcc : Chg (sndF p pr g va) wx w2 := (Chg.refl _ wx).drew.trans hc2; have HE2 := Lib.hid hE2; have HD3 := Lib.hid hd3; have HX2 := Lib.hid hX2; have HCC := Lib.hid hcc; have HVA := Lib.hid hva; clear hS2 hc2 hE2 hd2 hX2 hd3 hcc hva))
      refine ⟨fun hz => (by simp at hz), ?_⟩
      refine wpAnyP_done (by kernel_rfl) ?_ _
      skip
      clear hSw hq1 hx4 CT
      go_wp2_with fail
      go_meet
      exact ⟨va', fr, HE2.out, HX2.out, HD3.out, HCC.out, HVA.out⟩
  case rest =>
    obtain ⟨va1, fr1, hE1, hX1, hd1, hc1, hva1⟩ := hcut
    obtain ⟨wd, hwd⟩ : ∃ z, z = wc := ⟨_, rfl⟩
    subst hwd
    obtain ⟨s1, hs1'⟩ : ∃ s1, s1 = (if ha then (E.s.ack now ak).1 else E.s) := ⟨_, rfl⟩
    have HSD := Lib.hid hs1'
    rw [← hs1'] at hE1
    have ok1 : s1.Ok := by
      rw [hs1']
      cases ha with
      | false => exact OK.out.s
      | true => exact Snd.ack_ok OK.out.s _ _
    have OK1 := Lib.hid ok1
    have HE1 := Lib.hid hE1
    have HX1 := Lib.hid hX1
    have HD1 := Lib.hid hd1
    have HC1 := Lib.hid hc1
    have HV1 := Lib.hid hva1
    obtain ⟨x0, x1, x2, x3, x4, x5, _⟩ := hX1.six
    clear hE1 hX1 hd1 hc1 hva1 hs1' ok1 HE HX HD
    go_upto_if 20 with (fail)
    go_cut [8] (fun s8 wq => SeqT wq s8 (E.took now hs seq ha ak d).2 ∧ EndAt wq B q p pr g va1 fr1 rp m (E.took now hs seq ha ak d).1 ∧ Chg (endF q p pr g va1 rp m) wd wq)
    case first =>
      cases hs with
      | false =>
        go_wp2_with fail
        go_meet
        refine ⟨SeqT.nil _, ?_, Chg.refl _ _⟩
        show EndAt wd B q p pr g va1 fr1 rp m ⟨E.call, if ha then (E.s.ack now ak).1 else E.s, E.r, E.owes, E.since⟩
        rw [← HSD.out]
        exact HE1.out
      | true =>
        have hEd := HE1.out.keep (Chg.refl [] wd).drew
        have hdd : BytS (fun g' => g' ∉ [rp, m]) wd.drew (.slice a d.length c) d := (HD1.out.chg (Chg.refl [] wd).drew (by simp)).mono (fun g' _ hs hm => hs (by simp at hm; simp [endF]; rcases hm with rfl | rfl <;> simp))
        have CT := Lib.hid (put_in rp m E.r now seq (.slice a d.length c) d wd.drew hEd.rcv OK.out.r (by have := OK.out.rl; omega) hdd hdl hs0 hs1 OK.out.rt0 (by have := OK.out.rt1; omega))
        have hq2 : wd.drew.cell? ⟨q, 2, none⟩ = some (.pointer (some ⟨rp, 0, none⟩)) := hEd.str.five.2.2.1
        have hx2 : wd.drew.cell? ⟨gb, 2, none⟩ = some (.int .u32 seq) := x2
        have hx5 : wd.drew.cell? ⟨gb, 5, none⟩ = some (.slice a d.length c) := x5
        have HED := Lib.hid hEd
        clear hEd hdd
        go_wp2_with fail
        refine wp_region_phase 9 (fun w' => w'.cell? ⟨q, 2, none⟩ = some (.pointer (some ⟨rp, 0, none⟩)) ∧ w'.cell? ⟨gb, 2, none⟩ = some (.int .u32 seq) ∧ w'.cell? ⟨gb, 5, none⟩ = some (.slice a d.length c)) (by kernel_rfl) ?_
        refine wpAnyP_with (by exact ⟨hq2, hx2, hx5⟩) (fun hSw => ?_)
        refine wpAnyP_take 0 [3, 2, 1] (v := ?_) rfl (by kernel_rfl) (fun _ _ _ h => h) (by assumption) (Or.inl ⟨by rfl, ?_⟩) ?_
        rotate_left
        · (intro w hSw; (try dsimp only at hSw); obtain ⟨s0, s1, s2⟩ := hSw; go_simp; try with_reducible rfl)
        simp only [List.getElem_toArray, List.getElem_cons_succ, List.getElem_cons_zero, Act.put, List.setIfInBounds_toArray, List.set_cons_zero, List.set_cons_succ]
        refine wpAnyP_take 1 [3, 2] (v := ?_) rfl (by kernel_rfl) (fun _ _ _ h => h) (by assumption) (Or.inl ⟨by rfl, ?_⟩) ?_
        rotate_left
        · (intro w hSw; (try dsimp only at hSw); obtain ⟨s0, s1, s2⟩ := hSw; go_simp; try with_reducible rfl)
        simp only [List.getElem_toArray, List.getElem_cons_succ, List.getElem_cons_zero, Act.put, List.setIfInBounds_toArray, List.set_cons_zero, List.set_cons_succ]
        refine wpAnyP_take 2 [3] (v := ?_) rfl (by kernel_rfl) (fun _ _ _ h => h) (by assumption) (Or.inl ⟨by rfl, ?_⟩) ?_
        rotate_left
        · (intro w hSw; (try dsimp only at hSw); obtain ⟨s0, s1, s2⟩ := hSw; go_simp; try with_reducible rfl)
        simp only [List.getElem_toArray, List.getElem_cons_succ, List.getElem_cons_zero, Act.put, List.setIfInBounds_toArray, List.set_cons_zero, List.set_cons_succ]
        refine wpAnyP_take 3 [] (v := ?_) rfl (by kernel_rfl) (fun _ _ _ h => h) (by assumption) (Or.inl ⟨by rfl, ?_⟩) ?_
        rotate_left
        · (intro w hSw; (try dsimp only at hSw); obtain ⟨s0, s1, s2⟩ := hSw; go_simp; try with_reducible rfl)
        simp only [List.getElem_toArray, List.getElem_cons_succ, List.getElem_cons_zero, Act.put, List.setIfInBounds_toArray, List.set_cons_zero, List.set_cons_succ]
        refine wpAnyP_take 4 [] (v := ?_) rfl (by kernel_rfl) (fun _ _ _ h => h) (by assumption) (Or.inl ⟨by rfl, ?_⟩) ?_
        rotate_left
        · (intro w hSw; (try dsimp only at hSw); obtain ⟨s0, s1, s2⟩ := hSw; go_simp; try with_reducible rfl)
        simp only [List.getElem_toArray, List.getElem_cons_succ, List.getElem_cons_zero, Act.put, List.setIfInBounds_toArray, List.set_cons_zero, List.set_cons_succ]
        refine wpAnyP_take 5 [6] (v := ?_) rfl (by kernel_rfl) (fun _ _ _ h => h) (by assumption) (Or.inl ⟨by rfl, ?_⟩) ?_
        rotate_left
        · (intro w hSw; (try dsimp only at hSw); obtain ⟨s0, s1, s2⟩ := hSw; go_simp; try with_reducible rfl)
        simp only [List.getElem_toArray, List.getElem_cons_succ, List.getElem_cons_zero, Act.put, List.setIfInBounds_toArray, List.set_cons_zero, List.set_cons_succ]
        refine wpAnyP_take 6 [] (v := ?_) rfl (by kernel_rfl) (fun _ _ _ h => h) (by assumption) (Or.inl ⟨by rfl, ?_⟩) ?_
        rotate_left
        · (intro w hSw; (try dsimp only at hSw); obtain ⟨s0, s1, s2⟩ := hSw; go_simp; try with_reducible rfl)
        simp only [List.getElem_toArray, List.getElem_cons_succ, List.getElem_cons_zero, Act.put, List.setIfInBounds_toArray, List.set_cons_zero, List.set_cons_succ]
        refine wpAnyP_take 7 [8] (v := ?_) rfl (by kernel_rfl) (fun _ _ _ h => h) (by assumption) (Or.inl ⟨by rfl, ?_⟩) ?_
        rotate_left
        · (intro w hSw; (try dsimp only at hSw); obtain ⟨s0, s1, s2⟩ := hSw; go_simp; try with_reducible rfl)
        simp only [List.getElem_toArray, List.getElem_cons_succ, List.getElem_cons_zero, Act.put, List.setIfInBounds_toArray, List.set_cons_zero, List.set_cons_succ]
        refine wpAnyP_take 8 [] (v := ?_) rfl (by kernel_rfl) (fun _ _ _ h => h) (by assumption) (Or.inl ⟨by rfl, ?_⟩) ?_
        rotate_left
        · (intro w hSw; (try dsimp only at hSw); obtain ⟨s0, s1, s2⟩ := hSw; go_simp; try with_reducible rfl)
        simp only [List.getElem_toArray, List.getElem_cons_succ, List.getElem_cons_zero, Act.put, List.setIfInBounds_toArray, List.set_cons_zero, List.set_cons_succ]
        refine wpAnyP_one 9 rfl (by kernel_rfl) (fun K hK => ?_)
        rw [if_pos (by rfl)]
        go_wp2_with ((refine CT.out.mono ?_; rintro e w2 ⟨o, rfl, hO, hR2, hc2⟩; have hE2 := HED.out.rcv_to hR2 hc2; have hcc : Chg (endF q p pr g va1 rp m) wd w2 := ((Chg.refl _ wd).drew).trans' hc2 (fun x hx => by simp at hx; simp [endF]; rcases hx with rfl | rfl <;> simp); have hQ := hO.seqT; have HE2 := Lib.hid hE2; have HCC := Lib.hid hcc; have HQ := Lib.hid hQ; clear hO hR2 hc2 hE2 hcc hQ))
        refine ⟨fun hz => (by simp at hz), ?_⟩
        refine wpAnyP_one 10 rfl (by kernel_rfl) (fun K hK => ?_)
        rw [if_pos (by rfl)]
        go_wp2_with (fail)
        refine ⟨fun hz => (by simp at hz), ?_⟩
        refine wpAnyP_done (by kernel_rfl) ?_ _
        skip
        clear hSw hq2 hx2 hx5 CT x0 x1 x2 x3 x4 x5
        obtain ⟨y0, y1, y2, y3, y4, fy⟩ := HE2.out.str.five
        simp only at y3 y4
        have f3 := fy 3
        have f4 := fy 4
        clear fy
        cases how : E.owes with
        | true =>
          rw [how] at y3
          go_wp2_with fail
          go_meet
          refine ⟨HQ.out, ?_, HCC.out⟩
          have h := HE2.out
          rw [HSD.out] at h
          simpa [End.took, how] using h
        | false =>
          rw [how] at y3
          go_wp2_with fail
          go_meet
          have hcs : Chg [q] w2 ((w2.setCell ⟨q, 3, none⟩ (.bool true)).setCell ⟨q, 4, none⟩ (.int .i64 now)) := ((Chg.refl [q] w2).set (by simp) _).set (by simp) _
          have hA2 := HE2.out.str
          have h := HE2.out.own_to (w' := (w2.setCell ⟨q, 3, none⟩ (.bool true)).setCell ⟨q, 4, none⟩ (.int .i64 now)) (ow := true) (si := now) ((hA2.set 3 _).set 4 _) hcs
          refine ⟨HQ.out.chg2 hcs (by
            intro x hx
            simp at hx
            subst hx
            exact ⟨fun hT => hA2.isT.ne hT (by decide) rfl, hA2.noB (by decide)⟩), ?_, HCC.out.trans (hcs.mono (fun x hx => by simp at hx; subst hx; left; simp [endF]))⟩
          rw [HSD.out] at h
          unfold End.took
          simp only [how]
          exact h
    case rest =>
      obtain ⟨hQ, hE2, hc2⟩ := hcut
      obtain ⟨E1, hE1⟩ : ∃ E1, E1 = (E.took now hs seq ha ak d).1 := ⟨_, rfl⟩
      obtain ⟨out, hout⟩ : ∃ out, out = (E.took now hs seq ha ak d).2 := ⟨_, rfl⟩
      rw [← hE1] at hE2
      rw [← hout] at hQ
      have hol : out.length ≤ 10000 := by
        rw [hout]
        unfold End.took
        split
        · have h1 := Rcv.put_out (r := E.r) (now := now) (seq := seq) (d := d)
          have h2 := OK.out.rl
          show (E.r.put now seq d).2.length ≤ 10000
          omega
        · simp
      have hnx : 0 ≤ E1.r.nx ∧ E1.r.nx < 4294967296 := by
        rw [hE1]
        unfold End.took
        split
        · have h := Rcv.put_ok (now := now) (seq := seq) (d := d) OK.out.r hs0 hs1
          exact ⟨h.nx0, h.nx1⟩
        · exact ⟨OK.out.r.nx0, OK.out.r.nx1⟩
      have hs1k : E1.s.Ok := by
        have e : E1.s = s1 := by
          rw [hE1, HSD.out]
          unfold End.took
          split <;> rfl
        rw [e]; exact OK1.out
      have hF : ∀ b ∈ endF q p pr g va1 rp m, b ∈ endF q p pr g va rp m ∨ w.heap.size ≤ b := fun b hb => by
        rcases endF_va HV1.out b hb with h' | h'
        · exact .inl h'
        · have := HC.out.size; right; omega
      have hcw : Chg (endF q p pr g va rp m) w wc :=
        ((HC.out.mono (by simp)).trans (HC1.out.mono (fun b hb => by left; simp [endF, hb]))).trans' hc2 hF
      have HFN : Hid (∀ e w', GivesPost B q (endF q p pr g va rp m) (E1.pumped now).1 (out.map (·.2)) (E1.pumped now).2 w e w' → GivesPost B q (endF q p pr g va rp m) ((E.took now hs seq ha ak d).1.pumped now).1 ((E.took now hs seq ha ak d).2.map (·.2)) ((E.took now hs seq ha ak d).1.pumped now).2 w e w') := Lib.hid (fun e w' h => by rw [hE1, hout] at h; exact h)
      have hBc : B ≤ wc.heap.size := Nat.le_trans hB hcw.size
      have hq1 : wc.drew.cell? ⟨q, 1, none⟩ = some (.pointer (some ⟨p, 0, none⟩)) := hE2.str.five.2.1
      have hlen := Snd.pump_len hs1k now
      obtain ⟨oa, oc, hv8⟩ := hQ.slice
      rw [hv8] at hQ ⊢
      have CD := Lib.hid (data_any wc.drew _ out (hQ.keep (Chg.refl [] wc).drew) hol)
      have HE2 := Lib.hid hE2
      have HCW := Lib.hid hcw
      have HF := Lib.hid hF
      clear hQ hE2 hc2 hE1 hout hcw hF hv8
      go_wp2_with fail
      refine wp_region_phase 9 (fun w' => w'.cell? ⟨q, 1, none⟩ = some (.pointer (some ⟨p, 0, none⟩))) (by kernel_rfl) ?_
      refine wpAnyP_with (by exact hq1) (fun hSw => ?_)
      refine wpAnyP_take 0 [8, 1] (v := ?_) rfl (by kernel_rfl) (fun _ _ _ h => h) (by assumption) (Or.inl ⟨by rfl, ?_⟩) ?_
      rotate_left
      · (intro w hSw; (try dsimp only at hSw); go_simp; try with_reducible rfl)
      simp only [List.getElem_toArray, List.getElem_cons_succ, List.getElem_cons_zero, Act.put, List.setIfInBounds_toArray, List.set_cons_zero, List.set_cons_succ]
      refine wpAnyP_take 2 [] (v := ?_) rfl (by kernel_rfl) (fun _ _ _ h => h) (by assumption) (Or.inl ⟨by rfl, ?_⟩) ?_
      rotate_left
      · (intro w hSw; (try dsimp only at hSw); go_simp; try with_reducible rfl)
      simp only [List.getElem_toArray, List.getElem_cons_succ, List.getElem_cons_zero, Act.put, List.setIfInBounds_toArray, List.set_cons_zero, List.set_cons_succ]
      refine wpAnyP_take 3 [8, 6, 5, 4] (v := ?_) rfl (by kernel_rfl) (fun _ _ _ h => h) (by assumption) (Or.inl ⟨by rfl, ?_⟩) ?_
      rotate_left
      · (intro w hSw; (try dsimp only at hSw); go_simp; try with_reducible rfl)
      simp only [List.getElem_toArray, List.getElem_cons_succ, List.getElem_cons_zero, Act.put, List.setIfInBounds_toArray, List.set_cons_zero, List.set_cons_succ]
      refine wpAnyP_take 4 [8, 6, 5] (v := ?_) rfl (by kernel_rfl) (fun _ _ _ h => h) (by assumption) (Or.inl ⟨by rfl, ?_⟩) ?_
      rotate_left
      · (intro w hSw; (try dsimp only at hSw); go_simp; try with_reducible rfl)
      simp only [List.getElem_toArray, List.getElem_cons_succ, List.getElem_cons_zero, Act.put, List.setIfInBounds_toArray, List.set_cons_zero, List.set_cons_succ]
      refine wpAnyP_take 5 [8, 6] (v := ?_) rfl (by kernel_rfl) (fun _ _ _ h => h) (by assumption) (Or.inl ⟨by rfl, ?_⟩) ?_
      rotate_left
      · (intro w hSw; (try dsimp only at hSw); go_simp; try with_reducible rfl)
      simp only [List.getElem_toArray, List.getElem_cons_succ, List.getElem_cons_zero, Act.put, List.setIfInBounds_toArray, List.set_cons_zero, List.set_cons_succ]
      refine wpAnyP_take 6 [8] (v := ?_) rfl (by kernel_rfl) (fun _ _ _ h => h) (by assumption) (Or.inl ⟨by rfl, ?_⟩) ?_
      rotate_left
      · (intro w hSw; (try dsimp only at hSw); go_simp; try with_reducible rfl)
      simp only [List.getElem_toArray, List.getElem_cons_succ, List.getElem_cons_zero, Act.put, List.setIfInBounds_toArray, List.set_cons_zero, List.set_cons_succ]
      refine wpAnyP_take 7 [8] (v := ?_) rfl (by kernel_rfl) (fun _ _ _ h => h) (by assumption) (Or.inl ⟨by rfl, ?_⟩) ?_
      rotate_left
      · (intro w hSw; (try dsimp only at hSw); go_simp; try with_reducible rfl)
      simp only [List.getElem_toArray, List.getElem_cons_succ, List.getElem_cons_zero, Act.put, List.setIfInBounds_toArray, List.set_cons_zero, List.set_cons_succ]
      refine wpAnyP_one 1 rfl (by kernel_rfl) (fun K hK => ?_)
      rw [if_pos (by rfl)]
      go_wp2_with ((refine CD.out.mono ?_; rintro e w3 ⟨o1, rfl, hrow, hc3⟩; have hc3' : Chg [] wc w3 := (Chg.refl [] wc).drew.trans hc3; have hE3 := HE2.out.keep hc3'; have z3 : w3.cell? ⟨q, 1, none⟩ = some (.pointer (some ⟨p, 0, none⟩)) := hE3.str.five.2.1; have CP := Lib.hid (pump_is w3 B p pr g va1 fr1 E1.s now hE3.snd (Nat.le_trans hBc hc3'.size) hs1k); have HROW := Lib.hid hrow; have HC3 := Lib.hid hc3'; have HE3 := Lib.hid hE3; clear hrow hc3 hc3' hE3))
      refine hold_with (by (try dsimp only at hSw); exact z3) (fun hSn => ?_)
      clear hSw; have hSw := hSn; clear hSn
      refine wpAnyP_one 8 rfl (by kernel_rfl) (fun K hK => ?_)
      rw [if_pos (by rfl)]
      go_wp2_with ((refine CP.out.mono ?_; rintro e w4 ⟨o, va2, fr2, rfl, hO, hS4, hc4, hva2⟩; have hE4 := HE3.out.snd_to hS4 hc4; have z4 : w4.cell? ⟨q, 1, none⟩ = some (.pointer (some ⟨p, 0, none⟩)) := hE4.str.five.2.1; have CK := Lib.hid (pack_any w4 B q _ _ o _ hE4.is hO.seqT (by omega) (Nat.le_trans (Nat.le_trans hBc HC3.out.size) hc4.size) hnx.1 hnx.2); obtain ⟨pa, pc, rfl, _⟩ := hO.seqT; have HE4 := Lib.hid hE4; have HC4 := Lib.hid hc4; have HV4 := Lib.hid hva2; clear hO hS4 hc4 hva2 hE4 CP))
      refine hold_with (by (try dsimp only at hSw); exact z4) (fun hSn => ?_)
      clear hSw; have hSw := hSn; clear hSn
      refine wpAnyP_one 9 rfl (by kernel_rfl) (fun K hK => ?_)
      rw [if_pos (by rfl)]
      go_wp2_with ((refine CK.out.mono ?_; rintro e w5 ⟨o3, rfl, hT, hE5, hc5⟩; have hfin := take_fin HE2.out HF.out HCW.out HROW.out HC3.out HE4.out HC4.out HV4.out hT hE5 hc5 HFL.out; have HFIN := Lib.hid (HFN.out _ _ hfin); clear hT hE5 hc5 hfin CK))
      refine ⟨fun hz => (by simp at hz), ?_⟩
      refine wpAnyP_one 10 rfl (by kernel_rfl) (fun K hK => ?_)
      rw [if_pos (by rfl)]
      go_wp2_with (fail)
      refine ⟨fun hz => (by simp at hz), ?_⟩
      refine wpAnyP_one 11 rfl (by kernel_rfl) (fun K hK => ?_)
      rw [if_pos (by rfl)]
      go_wp2_with (fail)
      refine ⟨fun hz => (by simp at hz), ?_⟩
      refine wpAnyP_done (by kernel_rfl) ?_ _
      skip
      clear hSw z3 z4 hq1
      go_wp2_with fail
      go_ret2
      exact HFIN.out
end Go.Proofs.Ytkmjpphmciaklaa
