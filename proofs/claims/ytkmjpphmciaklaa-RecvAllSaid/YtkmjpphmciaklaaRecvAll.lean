/- Proved: for every uint32, every int and every slice of ints the Go law catwalklaw31.RecvAll returns true, and its arguments read behind the call as they read before. Conditions: none.
The frame of this text was written by the kit's proof-skeleton program; the walk and its lemmas are ours. -/
import Derived.Test.YtkmjpphmciaklaaOrder2
import Derived.Test.YtkmjpphmciaklaaRecv8
import Derived.Test.YtkmjpphmciaklaaRow
import Derived.Test.YtkmjpphmciaklaaPhase
import Derived.WalkKit
import Derived.ProofKit
import Derived.OpenShut
import Derived.ShutString
import Derived.ChangeOld
import Derived.Below
namespace Go.Proofs.Ytkmjpphmciaklaa.recvAll
open Go.ChangeShapes Go.WideShapes Go.ChangeAt Go.RowKit
open Go.ChangeMaps (open_string shut_string)
set_option linter.unusedVariables false
set_option linter.unusedSimpArgs false
attribute [local go_sem ↓] Go.wp_at_zero Go.wp_at_succ

theorem own : ownKnob Try.prog.godebug = none := by kernel_rfl
theorem laidOut : laidOutB Try.prog = true := by kernel_rfl

/-- WHAT THE WALK IS TOLD OF A SLICE OF INTEGERS THAT CAME IN: it is nil; or it leads to a row of 'cap' cells, the numbers 'zs' (the first 'len' are its elements, the rest its spare room), each fitting its kind. -/
def IsRow (k : IntKind) (w : World) (a : Option Addr) (len cap : Nat) (zs : List Int) : Prop :=
  (a = none ∧ len = 0 ∧ cap = 0 ∧ zs = []) ∨
  ∃ x, a = some x ∧ len ≤ cap ∧ cap ≤ maxLen ∧ zs.length = cap ∧ (∀ i, i < zs.length → w.cell? (x.add i) = some (.int k (zs.getD i 0))) ∧ ∀ n ∈ zs, (Lit.int k n).wf = true

/-! ### STEP 1: THE WALK: the Go text returns true, AND WRITES NOTHING THAT WAS THERE: 'Below w.heap.size w w'' (Derived/Below.lean: '.refl', '.alloc', '.drew', '.setCell' at a new block, '.trans'). Open each 'IsRow' by 'rcases' AHEAD of 'go_enter'; part every test ahead of the walk. -/
/-- The data of a number. -/
def dat (j : Nat) : List Int := [(j : Int)]
theorem bytes_one (w : World) (x : Int) : Bytes (w.alloc (.cells #[.int .u8 x] 5)) (.slice (some ⟨w.heap.size, 0, none⟩) 1 1) [x] :=
  ⟨_, _, rfl, fun _ => ⟨_, _, rfl, _, _, (MapKept.heap_alloc w _).1, fun j u hj => by
    cases j with
    | zero => simp at hj; subst hj; rfl
    | succ j => simp at hj⟩⟩
theorem AllInv.ok {first : Int} {D : Nat → List Int} {many i next : Nat} {left : List Nat} {a : Rcv (List Int)} (h : AllInv first D many i left next a) (hm : many ≤ 1000) : a.Ok := by
  refine ⟨by rw [h.nx]; unfold numK; omega, by rw [h.nx]; unfold numK; omega, fun p hp => ?_⟩
  obtain ⟨j, h1, h2, h3, rfl⟩ := h.ky p hp
  rw [h.nx]
  unfold off numK
  simp only
  omega

/-- Before the i-th is put. -/
def AllSt (first : Int) (many b p m : Nat) (v8 : Value) (out : List Nat) (i next : Nat) (w wr : World) : Prop :=
  ∃ left a, Good i left (out.drop i) ∧ AllInv first dat many i left next a ∧ RcvIs wr p m a ∧ Ints wr b v8 out ∧ Chg [] w wr

theorem AllSt.head {first : Int} {many b p m : Nat} {v8 : Value} {out : List Nat} {i next : Nat} {w wr : World} (h : AllSt first many b p m v8 out i next w wr) (hi : i < out.length) :
    ∃ left a, (out[i]'hi) ∈ left ∧ (∀ j ∈ left, i ≤ j + 7) ∧ Good (i + 1) (left.erase (out[i]'hi)) (out.drop (i + 1)) ∧ AllInv first dat many i left next a ∧ RcvIs wr p m a ∧ Ints wr b v8 out ∧ Chg [] w wr := by
  obtain ⟨left, a, hg, r⟩ := h
  rw [List.drop_eq_getElem_cons hi] at hg
  cases hg with
  | cons h1 h2 h3 => exact ⟨left, a, h1, h2, h3, r⟩
theorem AllSt.last {first : Int} {many b p m : Nat} {v8 : Value} {out : List Nat} {next : Nat} {w wr : World} (h : AllSt first many b p m v8 out out.length next w wr) : next = many := by
  obtain ⟨left, a, hg, hi, _⟩ := h
  rw [List.drop_length] at hg
  cases hg
  exact hi.done

theorem equal_self (v1 v2 : Value) (d : List Int) (w : World) (h1 : Bytes w v1 d) (h2 : Bytes w v2 d) (hl : d.length ≤ 1000000) :
    Calls Try.prog 14 #[v1, v2] w fun e w' => e = .returned (.bool true) ∧ Chg [] w w' :=
  (equal_any v1 v2 d d w h1 h2 hl hl).mono (fun e w' h => ⟨h.1.trans (by rw [decide_eq_true rfl]), h.2⟩)
theorem Good.len {i : Nat} {left out : List Nat} (h : Good i left out) : out.length = left.length := by
  induction h with
  | nil => rfl
  | cons h1 h2 h3 ih =>
    have := List.length_erase_of_mem h1
    have hp := List.length_pos_of_mem h1
    simp only [List.length_cons]
    omega

set_option maxRecDepth 100000 in
set_option maxHeartbeats 4000000 in
theorem walk (a0 : Int) (a1 : Int) (a2 : Option Addr) (len2 cap2 : Nat) (z2 : List Int) (w : World) (w0 : (Lit.int .u32 a0).wf = true) (w1 : (Lit.int .i64 a1).wf = true) (w2 : IsRow .i64 w a2 len2 cap2 z2) :
    Calls Try.prog 3 #[.int .u32 a0, .int .i64 a1, .slice a2 len2 cap2] w fun e w' => e = .returned (.bool true) ∧ Below w.heap.size w w' := by
  obtain ⟨ha0, ha0'⟩ := bounds_u32 w0
  obtain ⟨hb0, hb0'⟩ := bounds_i64 w1
  by_cases hneg : a1 < 0
  · clear w2
    go_enter Try.func3, Try.ntmps3
    go_wp2
    go_ret
    exact ⟨rfl, Below.refl _ _⟩
  by_cases hbig : 200 < a1
  · clear w2
    go_enter Try.func3, Try.ntmps3
    go_wp2
    go_ret
    exact ⟨rfl, Below.refl _ _⟩
  by_cases hlong : 300 < len2
  · clear w2
    go_enter Try.func3, Try.ntmps3
    go_wp2
    go_ret
    exact ⟨rfl, Below.refl _ _⟩
  obtain ⟨many, rfl⟩ : ∃ many : Nat, a1 = (many : Int) := ⟨a1.toNat, by omega⟩
  have hmany : many ≤ 200 := by omega
  have hlen : len2 ≤ 300 := by omega
  have hturn : Turns w a2 len2 := fun i hi => by
    obtain ⟨b, off, rfl, hbl, hcell, hwf⟩ := row_at w2 i hi
    exact ⟨b, off, _, rfl, hbl, hcell⟩
  have HT := Lib.hid hturn
  clear w0 w1 w2 hturn hb0 hb0'
  have hfirst : numK a0 0 = a0 := by unfold numK; omega
  have HFI := Lib.hid hfirst
  clear hfirst
  go_enter Try.func3, Try.ntmps3
  go_wp2_with fail
  refine (recv_new _ _).mono ?_
  rintro e wa ⟨p, m, rfl, hp, hm, hrc, hch⟩
  have h1 : RcvIs wa p m ⟨numK a0 0, [], 0, 0⟩ := ⟨_, hrc, by rw [HFI.out], trivial, rfl, rfl⟩
  have hpl := hrc.1.lt
  have hml := hrc.2.lt
  have H1 := Lib.hid h1
  have C1 := Lib.hid hch
  have hs1 := hch.size
  have CO := Lib.hid (order_any many a2 len2 cap2 wa hmany (fun i hi => by
    obtain ⟨b, off, n, e, hbl, hc⟩ := HT.out i hi
    exact ⟨b, off, n, e, by omega, by rw [C1.out.cell hbl (by simp)]; exact hc⟩) hlen)
  clear hrc hch h1
  go_wp2_with fail
  refine CO.out.mono ?_
  rintro e wb ⟨v8, out, rfl, hI, hG, hch⟩
  obtain ⟨a8, c8, rfl⟩ := hI.slice
  have st : AllSt a0 many wa.heap.size p m (.slice a8 out.length c8) out 0 0 w wb :=
    ⟨_, _, by simpa using hG, AllInv.start (by omega), H1.out.chg hch (by simp) (by simp) (by simp), hI, C1.out.trans hch⟩
  have ST := Lib.hid st
  have hol : out.length ≤ 200 := by have := Good.len hG; rw [List.length_range] at this; omega
  clear st hI hG hch CO
  go_wp2_with fail
  go_loopg [9, 10, 11, 12] out.length (fun g s9 s10 s11 s12 wr => ∃ i next : Nat, i ≤ out.length ∧ next ≤ many ∧ g = out.length - i ∧ s9 = .int .i64 next ∧ s10 = .int .i64 i ∧ AllSt a0 many wa.heap.size p m (.slice a8 out.length c8) out i next w wr)
  case atStart => exact ⟨0, 0, by omega, by omega, rfl, rfl, rfl, ST.out⟩
  case round =>
    obtain ⟨w9, hw9⟩ : ∃ w9, w9 = wr := ⟨_, rfl⟩
    subst hw9
    obtain ⟨i, next, hi, hnx, rfl, rfl, rfl, hst⟩ := hrel
    by_cases hil : i < out.length
    · obtain ⟨left, a, hmem, hw, hg, hinv, hrc, hI, hC⟩ := hst.head hil
      obtain ⟨n, hn⟩ : ∃ n, n = out[i]'hil := ⟨_, rfl⟩
      obtain ⟨g8, cap8, he8, hg8, hl8, _, _, hcell⟩ := hI.form (by intro e; rw [e] at hil; simp at hil)
      simp only [Value.slice.injEq] at he8
      obtain ⟨rfl, -, rfl⟩ := he8
      have cn : w9.cell? ⟨g8, i, none⟩ = some (.int .i64 (n : Nat)) := by rw [hn]; exact hcell i hil
      have hil' : ((i : Nat) : Int) < (out.length : Nat) := by omega
      rw [← hn] at hmem hg
      have hnm := (hinv.lt n hmem).2
      obtain ⟨mm, hout, hinv'⟩ := hinv.step (by omega) hmem hw
      have OKA := Lib.hid (AllInv.ok hinv (by omega))
      have HINV := Lib.hid hinv
      have HINV' := Lib.hid hinv'
      have HOUT := Lib.hid hout
      have HGD := Lib.hid hg
      have HRC := Lib.hid hrc
      have HI := Lib.hid hI
      have HC := Lib.hid hC
      have hlen8 : a.l.length ≤ 1000 := by
        have h1 := hinv.len
        have h2 := hw n hmem
        omega
      have hnb : p ≠ w9.heap.size := by have := hC.size; obtain ⟨r, hr, _⟩ := hrc; have := hr.1.lt; omega
      clear hst hinv hinv' hout hg hrc hI hC hcell hn hmem hw ST
      have hc1 : Chg [] w9 (w9.alloc (.cells #[.int .u8 (n : Nat)] 5)).drew := ((Chg.refl [] w9).alloc _).drew
      have cal : (w9.alloc (.cells #[.int .u8 (n : Nat)] 5)).drew.cell? ⟨g8, i, none⟩ = some (.int .i64 (n : Nat)) := (hc1.cell hl8 (by simp)).trans cn
      have CT := Lib.hid (put_is p m a 0 (numK a0 n) (.slice (some ⟨w9.heap.size, 0, none⟩) 1 1) (dat n) (w9.alloc (.cells #[.int .u8 (n : Nat)] 5)).drew (HRC.out.chg hc1 (by simp) (by simp) (by simp)) OKA.out hlen8 (bytes_one w9 _) (by simp [dat]) (by unfold numK; omega) (by unfold numK; omega) (by rw [HINV.out.tw]; omega) (by rw [HINV.out.tw]; omega))
      have HC1 := Lib.hid hc1
      have hn255 : ((n : Nat) : Int) < 200 := by omega
      clear hc1
      go_upto_region 11 with (fail)
      refine wp_region_phase 15 (fun w' => w'.cell? ⟨g8, i, none⟩ = some (.int .i64 (n : Nat))) (by kernel_rfl) ?_
      refine wpAnyP_with (by exact cn) (fun hSw => ?_)
      refine wpAnyP_take 0 [] (v := ?_) rfl (by kernel_rfl) (fun _ _ _ h => h) (by assumption) (Or.inl ⟨by rfl, ?_⟩) ?_
      rotate_left
      · (intro w hSw; (try dsimp only at hSw); go_simp; try with_reducible rfl)
      simp only [Act.put, List.setIfInBounds_toArray, List.set_cons_zero, List.set_cons_succ]
      refine wpAnyP_take 1 [] (v := ?_) rfl (by kernel_rfl) (fun _ _ _ h => h) (by assumption) (Or.inl ⟨by rfl, ?_⟩) ?_
      rotate_left
      · (intro w hSw; (try dsimp only at hSw); go_simp; try with_reducible rfl)
      simp only [Act.put, List.setIfInBounds_toArray, List.set_cons_zero, List.set_cons_succ]
      refine wpAnyP_take 2 [] (v := ?_) rfl (by kernel_rfl) (fun _ _ _ h => h) (by assumption) (Or.inl ⟨by rfl, ?_⟩) ?_
      rotate_left
      · (intro w hSw; (try dsimp only at hSw); go_simp; try with_reducible rfl)
      simp only [Act.put, List.setIfInBounds_toArray, List.set_cons_zero, List.set_cons_succ]
      refine wpAnyP_take 3 [] (v := ?_) rfl (by kernel_rfl) (fun _ _ _ h => h) (by assumption) (Or.inl ⟨by rfl, ?_⟩) ?_
      rotate_left
      · (intro w hSw; (try dsimp only at hSw); go_simp; try with_reducible rfl)
      simp only [Act.put, List.setIfInBounds_toArray, List.set_cons_zero, List.set_cons_succ]
      refine wpAnyP_take 4 [] (v := ?_) rfl (by kernel_rfl) (fun _ _ _ h => h) (by assumption) (Or.inl ⟨by rfl, ?_⟩) ?_
      rotate_left
      · (intro w hSw; (try dsimp only at hSw); go_simp; try with_reducible rfl)
      simp only [Act.put, List.setIfInBounds_toArray, List.set_cons_zero, List.set_cons_succ]
      refine wpAnyP_take 5 [] (v := ?_) rfl (by kernel_rfl) (fun _ _ _ h => h) (by assumption) (Or.inl ⟨by rfl, ?_⟩) ?_
      rotate_left
      · (intro w hSw; (try dsimp only at hSw); go_simp; try with_reducible rfl)
      simp only [Act.put, List.setIfInBounds_toArray, List.set_cons_zero, List.set_cons_succ]
      refine wpAnyP_take 6 [] (v := ?_) rfl (by kernel_rfl) (fun _ _ _ h => h) (by assumption) (Or.inl ⟨by rfl, ?_⟩) ?_
      rotate_left
      · (intro w hSw; (try dsimp only at hSw); go_simp; try with_reducible rfl)
      simp only [Act.put, List.setIfInBounds_toArray, List.set_cons_zero, List.set_cons_succ]
      refine wpAnyP_take 7 [] (v := ?_) rfl (by kernel_rfl) (fun _ _ _ h => h) (by assumption) (Or.inl ⟨by rfl, ?_⟩) ?_
      rotate_left
      · (intro w hSw; (try dsimp only at hSw); go_simp; try with_reducible rfl)
      simp only [Act.put, List.setIfInBounds_toArray, List.set_cons_zero, List.set_cons_succ]
      refine wpAnyP_take 8 [] (v := ?_) rfl (by kernel_rfl) (fun _ _ _ h => h) (by assumption) (Or.inl ⟨by rfl, ?_⟩) ?_
      rotate_left
      · (intro w hSw; (try dsimp only at hSw); go_simp; try with_reducible rfl)
      simp only [Act.put, List.setIfInBounds_toArray, List.set_cons_zero, List.set_cons_succ]
      refine wpAnyP_take 9 [] (v := ?_) rfl (by kernel_rfl) (fun _ _ _ h => h) (by assumption) (Or.inl ⟨by rfl, ?_⟩) ?_
      rotate_left
      · (intro w hSw; (try dsimp only at hSw); go_simp; try with_reducible rfl)
      simp only [Act.put, List.setIfInBounds_toArray, List.set_cons_zero, List.set_cons_succ]
      refine wpAnyP_take 10 [] (v := ?_) rfl (by kernel_rfl) (fun _ _ _ h => h) (by assumption) (Or.inl ⟨by rfl, ?_⟩) ?_
      rotate_left
      · (intro w hSw; (try dsimp only at hSw); go_simp; try with_reducible rfl)
      simp only [Act.put, List.setIfInBounds_toArray, List.set_cons_zero, List.set_cons_succ]
      refine wpAnyP_take 11 [] (v := ?_) rfl (by kernel_rfl) (fun _ _ _ h => h) (by assumption) (Or.inl ⟨by rfl, ?_⟩) ?_
      rotate_left
      · (intro w hSw; (try dsimp only at hSw); go_simp; try with_reducible rfl)
      simp only [Act.put, List.setIfInBounds_toArray, List.set_cons_zero, List.set_cons_succ]
      refine wpAnyP_take 12 [] (v := ?_) rfl (by kernel_rfl) (fun _ _ _ h => h) (by assumption) (Or.inl ⟨by rfl, ?_⟩) ?_
      rotate_left
      · (intro w hSw; (try dsimp only at hSw); go_simp; try with_reducible rfl)
      simp only [Act.put, List.setIfInBounds_toArray, List.set_cons_zero, List.set_cons_succ]
      refine wpAnyP_one 13 rfl (by kernel_rfl) (fun K hK => ?_)
      rw [if_pos (by rfl)]
      go_wp2_with (fail)
      refine hold_with (by (try dsimp only at hSw); exact cal) (fun hSn => ?_)
      clear hSw; have hSw := hSn; clear hSn
      refine wpAnyP_one 14 rfl (by kernel_rfl) (fun K hK => ?_)
      rw [if_pos (by rfl)]
      go_wp2_with ((refine CT.out.mono ?_; rintro e w3 ⟨o, rfl, ho, hrc3, hch3⟩; obtain ⟨ga, gc, rfl, hat⟩ := ho.at; have c3 : w3.cell? ⟨g8, i, none⟩ = some (.int .i64 (n : Nat)) := (hch3.cell (p := ⟨g8, i, none⟩) (Nat.lt_of_lt_of_le hl8 HC1.out.size) (by simp; omega)).trans cal; have HAT := Lib.hid hat; have HR3 := Lib.hid hrc3; have HCH3 := Lib.hid hch3; clear hat ho hrc3 hch3))
      refine hold_with (by (try dsimp only at hSw); exact c3) (fun hSn => ?_)
      clear hSw; have hSw := hSn; clear hSn
      refine wpAnyP_one 15 rfl (by kernel_rfl) (fun K hK => ?_)
      rw [if_pos (by rfl)]
      go_wp2_with (fail)
      refine ⟨fun hz => (by simp at hz), ?_⟩
      refine wpAnyP_done (by kernel_rfl) ?_ _
      clear hSw cn cal c3 CT
      have hml : (a.put 0 (numK a0 n) (dat n)).2.length = mm := by rw [HOUT.out]; simp
      rw [hml]
      have HML := Lib.hid hml
      clear hml
      have hnm2 : next + mm ≤ many := HINV'.out.le
      go_wp2_with fail
      go_loopg [9, 12] mm (fun g s9 s12 wx => ∃ kk nk : Nat, kk ≤ mm ∧ nk = next + kk ∧ g = mm - kk ∧ s9 = .int .i64 nk ∧ s12 = .int .i64 kk ∧ Chg [] w3 wx)
      case atStart => exact ⟨0, next, by omega, rfl, rfl, rfl, rfl, Chg.refl _ _⟩
      case round =>
        obtain ⟨kk, nk, hkk, hnk, rfl, rfl, rfl, hcx⟩ := hrel
        by_cases hkm : kk < mm
        · obtain ⟨g, d, rfl, hg0, hg1, hnb3, e1, e2, e3⟩ := HAT.out kk (by rw [HML.out]; exact hkm)
          have hget : (a.put 0 (numK a0 n) (dat n)).2[kk]'(by rw [HML.out]; exact hkm) = (numK a0 nk, dat nk) := by
            have h : (a.put 0 (numK a0 n) (dat n)).2[kk]? = some (numK a0 nk, dat nk) := by
              rw [HOUT.out, List.getElem?_map, List.getElem?_range' hkm, hnk]; simp
            obtain ⟨_, h⟩ := List.getElem?_eq_some_iff.1 h
            exact h
          rw [hget] at e1 e3
          have e1' : wr.cell? ⟨g, kk * 2, none⟩ = some (.int .u32 ((a0 + (nk : Nat)) % 4294967296)) := (hcx.cell hg1 (by simp)).trans e1
          have e2' : wr.cell? ⟨g, kk * 2 + 1, none⟩ = some d := (hcx.cell hg1 (by simp)).trans e2
          obtain ⟨da, dn, dc, rfl⟩ := e3.slice
          have hb : Bytes (wr.alloc (.cells #[.int .u8 (nk : Nat)] 5)) (.slice da dn dc) (dat nk) := (e3.chg hcx (by simp)).chg ((Chg.refl [] wr).alloc _) (by simp)
          have CE := Lib.hid (equal_self (.slice da dn dc) (.slice (some ⟨wr.heap.size, 0, none⟩) 1 1) (dat nk) (wr.alloc (.cells #[.int .u8 (nk : Nat)] 5)) hb (bytes_one wr _) (by simp [dat]))
          have HCX := Lib.hid (hcx.alloc (.cells #[.int .u8 (nk : Nat)] 5))
          have hnk2 : ((nk : Nat) : Int) < 200 := by omega
          have hkm' : ((kk : Nat) : Int) < (mm : Nat) := by omega
          have HNK := Lib.hid hnk
          clear e1 e2 e3 hb hcx hget hnb3 hnk
          go_wp2_with fail
          refine CE.out.mono ?_
          rintro e w4 ⟨rfl, hch4⟩
          have HC4 := Lib.hid (HCX.out.trans hch4)
          clear hch4 CE
          go_wp2_with fail
          go_roundg (mm - (kk + 1))
          case measure => omega
          case rel => exact ⟨kk + 1, nk + 1, by omega, by have := HNK.out; omega, rfl, rfl, rfl, HC4.out⟩
        · obtain rfl : kk = mm := by omega
          have HCX := Lib.hid hcx
          clear hcx
          go_wp2_with fail
          go_roundg (out.length - (i + 1))
          case measure => omega
          case rel =>
            have hcw : Chg [] w wr := ((HC.out.trans HC1.out).trans' HCH3.out (by intro x hx; simp at hx; rcases hx with rfl | rfl <;> right <;> assumption)).trans HCX.out
            refine ⟨i + 1, nk, by omega, by omega, rfl, rfl, rfl, left.erase n, _, HGD.out, by rw [hnk]; exact HINV'.out, HR3.out.chg HCX.out (by simp) (by simp) (by simp), ?_, ?_⟩
            · exact ((HI.out.chg HC1.out (by simp)).chg HCH3.out (by intro x hx; simp at hx; rcases hx with rfl | rfl <;> assumption)).chg HCX.out (by simp)
            · exact hcw
    · obtain rfl : i = out.length := by omega
      have hnm := hst.last
      subst hnm
      obtain ⟨_, _, _, _, _, _, hC⟩ := hst
      have HC := Lib.hid hC
      clear hC ST
      go_wp2_with fail
      refine (alive31_any _).mono ?_
      rintro e w5 ⟨rfl, hch5⟩
      have HC5 := Lib.hid (HC.out.trans hch5)
      clear hch5
      go_wp2_with fail
      go_ret
      exact ⟨rfl, HC5.out.below (Nat.le_refl _) (by simp)⟩

/-! ### THE ROW's STEP: WRITTEN OUT: LEAVE IT -/
set_option maxRecDepth 100000 in
theorem lifted (os : Os) (started : os.Started) (H : Type) (enc : TypeId × Value → H) :
    ReturnsInHanded {} Try.checked os 3 .any (Rows.recvAllSpec.pre6 enc Try.prog Try.f3 Rows.recvAllRow.domain false) (Rows.recvAllSpec.post enc Try.prog Try.f3 false true false false) := by
  refine returnsInHanded_of_change (C := Try.checked) own started (by kernel_rfl) Try.func3
    (ChangeSpec.witness6 (enc := enc) (C := Try.checked) false ⟨#[], #[.int .u32 0, .int .i64 0, .slice none 0 0], []⟩ 8 (by kernel_rfl) (by kernel_rfl) (by kernel_rfl) (by kernel_rfl)) ?_
  intro W base args ds gs before hval0 hW hcnd _
  have hval : ∀ (j : Nat) t v, Try.f3.params[j]? = some t → args[j]? = some v → Value.okWide Try.prog W .any base t v := hval0
  have hW' := hW
  obtain ⟨p, q, hA0, hV, rfl, hfz, hnd⟩ := hW
  have hA : DataW.TrodAll enc Try.prog W 0 (fun _ => true) true Try.f3.params.toList args.toList ds p := hA0
  rw [Try.params3] at hA hval
  obtain ⟨v0, vs0, d0, ds0, p0, q0, hargs, rfl, rfl, h0, r0⟩ := trodAll_cons hA
  obtain ⟨v1, vs1, d1, ds1, p1, q1, rfl, rfl, rfl, h1, r1⟩ := trodAll_cons r0
  obtain ⟨v2, vs2, d2, ds2, p2, q2, rfl, rfl, rfl, h2, r2⟩ := trodAll_cons r1
  obtain ⟨rfl, rfl, rfl⟩ := trodAll_nil r2
  obtain rfl : args = #[v0, v1, v2] := by cases args; simp_all
  obtain ⟨rfl, rfl⟩ := trodVars_none hV
  obtain ⟨a0, rfl, rfl, rfl, w0⟩ := open_int Try.underlying22 (hval 0 22 v0 rfl rfl) h0
  obtain ⟨a1, rfl, rfl, rfl, w1⟩ := open_int Try.underlying3 (hval 1 3 v1 rfl rfl) h1
  obtain ⟨a2, len2, cap2, rfl⟩ := okWide_slice Try.underlying23 (hval 2 23 v2 rfl rfl)
  have k2 := h2
  have lt2 : ∀ x ∈ p2, x.block < W.heap.size := by obtain ⟨m, hm⟩ := k2; exact DataW.trod_lt m _ _ _ hm
  obtain ⟨z2, w2⟩ : ∃ zs, IsRow .i64 W a2 len2 cap2 zs := by
    obtain ⟨fuel, hf⟩ := h2
    rcases open_ints Try.underlying23 Try.underlying3 (by kernel_rfl) hf with ⟨hcs, _⟩ | ⟨x, l, c, zs, hcs, _, hl, hm, hz, _, hcell, hwz⟩
    · simp [Value.cells] at hcs
      obtain ⟨rfl, rfl, rfl⟩ := hcs
      exact ⟨[], .inl ⟨rfl, rfl, rfl, rfl⟩⟩
    · simp [Value.cells] at hcs
      obtain ⟨rfl, rfl, rfl⟩ := hcs
      exact ⟨zs, .inr ⟨_, rfl, hl, hm, by simpa using hz, hcell, hwz⟩⟩
  clear hA0 hval0
  refine (walk a0 a1 a2 len2 cap2 z2 W w0 w1 w2).mono fun e W' ⟨he, bel⟩ => ?_
  subst he
  exact ⟨_, rfl, _, _, _, [], _, [], hW', trodAll_mk1 (shut_bool Try.underlying4 _), (trodAll_cons_mk (shut_int Try.underlying22 w0) (trodAll_cons_mk (shut_int Try.underlying3 w1) (trodAll_cons_mk (Below.trod laidOut (by kernel_rfl) (of_decide_eq_true (by kernel_rfl)) k2 bel lt2) trodAll_mk0))), rfl, bel.frame _, fun h => by cases h⟩

theorem over : Rows.recvAllRow.holds Try.pinned (OpenSpec.ofChange Rows.recvAllSpec) :=
  OpenClaim.holds_of_wide 3 Try.f3 rfl rfl rfl rfl rfl rfl rfl ⟨rfl, rfl, rfl, rfl, rfl⟩ rfl rfl rfl rfl rfl (by kernel_rfl) Try.func3 (by kernel_rfl)
    (of_decide_eq_true (by kernel_rfl)) (by unfold Func.isWrapper; first | (rw [if_pos (by decide +kernel)]; kernel_rfl) | (rw [if_neg (by decide +kernel)]; exact ⟨rfl, rfl⟩))
    (fun os started H enc _ => lifted os started H enc)

/-- ████ THE STATEMENT ████ -/
theorem proved : Rows.RecvAllSaid := over
#print axioms proved
end Go.Proofs.Ytkmjpphmciaklaa.recvAll
