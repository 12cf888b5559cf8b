/- Two ends: any turn; two new ends. -/
import Derived.Test.YtkmjpphmciaklaaGre13
namespace Go.Proofs.Ytkmjpphmciaklaa
open Go.RowKit
set_option linter.unusedVariables false
set_option linter.unusedSimpArgs false

def PairIs (w : World) (B pp : Nat) (P : Pair) : Prop := ∃ q F wv, PairAt w B pp q F wv P
theorem PairIs.lt {w : World} {B pp : Nat} {P : Pair} (h : PairIs w B pp P) : B ≤ w.heap.size := by
  obtain ⟨q, F, wv, hP⟩ := h
  have h1 := hP.str.lt
  have h2 := hP.hp
  omega
theorem turn_any (w : World) (B pp : Nat) (kind n : Int) (fb : Bool) (P : Pair) (k : Nat) (h : PairIs w B pp P) (hi : PInv k P) (hk : k ≤ 1000) (hk0 : 0 ≤ kind) (hn : n ≤ 9223372036854775807) :
    ∃ P', PInv (k + 1) P' ∧ Calls Try.prog 40 #[.pointer (some ⟨pp, 0, none⟩), .agg #[.int .i64 kind, .int .i64 n, .bool fb]] w (PairPost B pp P' w) := by
  have hB := h.lt
  have ok := hi.ok hk
  obtain ⟨q, F, wv, hP⟩ := h
  by_cases h5 : kind % 6 = 5
  · obtain ⟨lo0, m0, lo1, m1, a1, a2, a3⟩ := hi.tick hk
    exact ⟨_, a3, turn_tick w B pp lo0 m0 lo1 m1 kind n fb q F wv P hP ok hB h5 hk0 a1 a2⟩
  by_cases h4 : kind % 6 = 4
  · cases fb with
    | false =>
      refine ⟨_, ?_, turn_drop_0 w B pp kind n q F wv P hP ok hB h4 hk0 hn⟩
      split
      · exact hi.mono
      · exact hi.drop (by decide) _
    | true =>
      refine ⟨_, ?_, turn_drop_1 w B pp kind n q F wv P hP ok hB h4 hk0 hn⟩
      split
      · exact hi.mono
      · exact hi.drop (by decide) _
  by_cases h23 : kind % 6 = 2 ∨ kind % 6 = 3
  · obtain ⟨stays, hst⟩ : ∃ stays : Bool, kind % 6 = 2 ∧ stays = false ∨ kind % 6 = 3 ∧ stays = true := by
      rcases h23 with h | h
      · exact ⟨false, .inl ⟨h, rfl⟩⟩
      · exact ⟨true, .inr ⟨h, rfl⟩⟩
    cases fb with
    | false =>
      by_cases hemp : P.way 0 = []
      · have h2 := turn_arrive_0 w B pp 0 0 kind n q F wv P stays hP ok hB hst hk0 hn (fun hne => absurd hemp hne)
        rw [if_pos hemp] at h2
        exact ⟨_, hi.mono, h2⟩
      · have hlen : 0 < (P.way 0).length := List.length_pos_iff.2 hemp
        obtain ⟨lo, m, c1, c2, c3, c4⟩ := hi.arrive hk (f := 0) (t := 1) (by decide) (by decide) (by decide) (ix := (max n 0).toNat % (P.way 0).length) (Nat.mod_lt _ hlen) stays
        have h2 := turn_arrive_0 w B pp lo m kind n q F wv P stays hP ok hB hst hk0 hn (fun _ => ⟨c1, c2, c3⟩)
        rw [if_neg hemp] at h2
        exact ⟨_, c4, h2⟩
    | true =>
      by_cases hemp : P.way 1 = []
      · have h2 := turn_arrive_1 w B pp 0 0 kind n q F wv P stays hP ok hB hst hk0 hn (fun hne => absurd hemp hne)
        rw [if_pos hemp] at h2
        exact ⟨_, hi.mono, h2⟩
      · have hlen : 0 < (P.way 1).length := List.length_pos_iff.2 hemp
        obtain ⟨lo, m, c1, c2, c3, c4⟩ := hi.arrive hk (f := 1) (t := 0) (by decide) (by decide) (by decide) (ix := (max n 0).toNat % (P.way 1).length) (Nat.mod_lt _ hlen) stays
        have h2 := turn_arrive_1 w B pp lo m kind n q F wv P stays hP ok hB hst hk0 hn (fun _ => ⟨c1, c2, c3⟩)
        rw [if_neg hemp] at h2
        exact ⟨_, c4, h2⟩
  · have h01 : kind % 6 = 0 ∨ kind % 6 = 1 := by omega
    cases fb with
    | false => exact ⟨_, hi.send hk (f := 0) (by decide), turn_send_0 w B pp kind n q F wv P hP ok hB h01 hk0 (by have := hi.sent 0 (by decide); omega)⟩
    | true => exact ⟨_, hi.send hk (f := 1) (by decide), turn_send_1 w B pp kind n q F wv P hP ok hB h01 hk0 (by have := hi.sent 1 (by decide); omega)⟩

/-- Two new ends in one block. -/
theorem newPair_at {w w1 w2 w3 : World} {q0 q1 : Nat} {F0 F1 : List Nat} {m0 m1 : Int} (h0 : EndOf w2 w1.heap.size q0 F0 (newEnd 1 m0 2)) (hc : Chg [] w2 w3) (h1 : EndOf w3 w2.heap.size q1 F1 (newEnd 2 m1 2)) (hw : w.heap.size ≤ w1.heap.size) (hw2 : w.heap.size ≤ w2.heap.size) :
    PairIs (w3.alloc (.cells #[.pointer (some ⟨q0, 0, none⟩), .pointer (some ⟨q1, 0, none⟩), .slice none 0 0, .slice none 0 0, .int .i64 0, .int .i64 0, .int .i64 0, .int .i64 0, .int .i64 0] 81)) w.heap.size w3.heap.size (newPair m0 m1) := by
  have hca : Chg [] w3 (w3.alloc (.cells #[.pointer (some ⟨q0, 0, none⟩), .pointer (some ⟨q1, 0, none⟩), .slice none 0 0, .slice none 0 0, .int .i64 0, .int .i64 0, .int .i64 0, .int .i64 0, .int .i64 0] 81)) := (Chg.refl _ _).alloc _
  have hs := hc.size
  refine ⟨fun i => if i = 0 then q0 else q1, fun i => if i = 0 then F0 else F1, fun _ => .slice none 0 0, At.new w3 81 [_, _, _, _, _, _, _, _, _], fun i hi => ?_, fun i hi => RowT.nil _ _ _, fun b hb hm => ?_, fun b hb => by simp [Value.ownBlock] at hb, by omega⟩
  · rcases two_cases hi with rfl | rfl
    · exact ((h0.keep hc).keep hca).low hw
    · exact (h1.keep hca).low hw2
  · have k0 := (h0.kind b hb).2.1
    have k1 := (h1.kind b hm).1
    omega
end Go.Proofs.Ytkmjpphmciaklaa
