/-
  No cell of these rows narrows 'for every input' (looked for: loops, veiled, ifaces, maps, wideKeys, modest, calm, conditions, laid).
  DERIVED. THE GIVEN ROWS OF THIS SEAT. 9 by the template 'for every input the law returns true; each argument reads behind the call as it read before'; 0 by the template 'total and deterministic' (their statements: YtnmjfeeogphlcaaTotals.lean).
  GIVEN WITH THE SEED: the statements are not yours to turn. If you find one false, say at which input.
  Laid BY PROGRAM, IN A SANDBOX (cutbox-rows.mjs): the forced cells as the released guide's own fill.sh prints them over the translation e8dd036145d3ced8… (all of the seat's roots in one cut). By AI agents, Wed Nov 11 2026. No macro, syntax, notation, axiom, sorry.
-/
import Derived.Test.YtnmjfeeogphlcaaChecked
import GoSem.Claim
import GoSem.ClaimJoined
import GoSem.ClaimMapViews
import Derived.JoinedTies
import Derived.KernelRfl
namespace Go.Proofs.Ytnmjfeeogphlcaa
/- THE CELL 'sum', in the pinned program and in every row, IS THE sha256 OF THE DUMP (.gsa) THAT YtnmjfeeogphlcaaProg.lean LOADS. Nothing in Lean hashes anything: it is a label: what it is worth is what the hold of that sum in a sandbox is worth. -/
noncomputable def Try.pinned : Pinned := { name := "ytnmjfeeogphlcaa", sum := "e8dd036145d3ced83e4cdee91d360e802be532f87a1f1e0a00cbd99806e875ae", checked := Try.checked }
namespace Rows
def none {H : Type} : Left H := { results := [], args := [] }

/-- 'catwalklaw02.SerialSteps': WHATEVER THE INPUT: true; the input reads as it did. -/
def serialStepsSpec : ChangeSpec := { name := "serialSteps", fn := fun _ => fun
  | [d1, d2] => { results := [.lit (.bool true)], args := [d1, d2] }
  | _ => none }
def serialStepsRow : OpenClaim := { program := "ytnmjfeeogphlcaa", sum := "e8dd036145d3ced83e4cdee91d360e802be532f87a1f1e0a00cbd99806e875ae", func := "catwalk/catwalklaw02.SerialSteps", spec := "serialSteps", apart := false }
def SerialStepsSaid : Prop := serialStepsRow.holds Try.pinned (OpenSpec.ofChange serialStepsSpec)

/-- ITS FALSE NEIGHBOUR: 'it returns false'. Refute it at one input. -/
def serialStepsWrong : ChangeSpec := { name := "serialSteps", fn := fun _ => fun
  | [d1, d2] => { results := [.lit (.bool false)], args := [d1, d2] }
  | _ => none }
def SerialStepsWrongFalsely : Prop := serialStepsRow.holds Try.pinned (OpenSpec.ofChange serialStepsWrong)

/-- 'catwalklaw02.SerialTells': WHATEVER THE INPUT: true; the input reads as it did. -/
def serialTellsSpec : ChangeSpec := { name := "serialTells", fn := fun _ => fun
  | [d1, d2, d3] => { results := [.lit (.bool true)], args := [d1, d2, d3] }
  | _ => none }
def serialTellsRow : OpenClaim := { program := "ytnmjfeeogphlcaa", sum := "e8dd036145d3ced83e4cdee91d360e802be532f87a1f1e0a00cbd99806e875ae", func := "catwalk/catwalklaw02.SerialTells", spec := "serialTells", apart := false }
def SerialTellsSaid : Prop := serialTellsRow.holds Try.pinned (OpenSpec.ofChange serialTellsSpec)

/-- ITS FALSE NEIGHBOUR: 'it returns false'. Refute it at one input. -/
def serialTellsWrong : ChangeSpec := { name := "serialTells", fn := fun _ => fun
  | [d1, d2, d3] => { results := [.lit (.bool false)], args := [d1, d2, d3] }
  | _ => none }
def SerialTellsWrongFalsely : Prop := serialTellsRow.holds Try.pinned (OpenSpec.ofChange serialTellsWrong)

/-- 'catwalklaw02.SerialWide': WHATEVER THE INPUT: true; the input reads as it did. -/
def serialWideSpec : ChangeSpec := { name := "serialWide", fn := fun _ => fun
  | [d] => { results := [.lit (.bool true)], args := [d] }
  | _ => none }
def serialWideRow : OpenClaim := { program := "ytnmjfeeogphlcaa", sum := "e8dd036145d3ced83e4cdee91d360e802be532f87a1f1e0a00cbd99806e875ae", func := "catwalk/catwalklaw02.SerialWide", spec := "serialWide", apart := false }
def SerialWideSaid : Prop := serialWideRow.holds Try.pinned (OpenSpec.ofChange serialWideSpec)

/-- ITS FALSE NEIGHBOUR: 'it returns false'. Refute it at one input. -/
def serialWideWrong : ChangeSpec := { name := "serialWide", fn := fun _ => fun
  | [d] => { results := [.lit (.bool false)], args := [d] }
  | _ => none }
def SerialWideWrongFalsely : Prop := serialWideRow.holds Try.pinned (OpenSpec.ofChange serialWideWrong)

/-- 'catwalklaw02.SerialTrue': WHATEVER THE INPUT: true; the input reads as it did. -/
def serialTrueSpec : ChangeSpec := { name := "serialTrue", fn := fun _ => fun
  | [d1, d2] => { results := [.lit (.bool true)], args := [d1, d2] }
  | _ => none }
def serialTrueRow : OpenClaim := { program := "ytnmjfeeogphlcaa", sum := "e8dd036145d3ced83e4cdee91d360e802be532f87a1f1e0a00cbd99806e875ae", func := "catwalk/catwalklaw02.SerialTrue", spec := "serialTrue", apart := false }
def SerialTrueSaid : Prop := serialTrueRow.holds Try.pinned (OpenSpec.ofChange serialTrueSpec)

/-- ITS FALSE NEIGHBOUR: 'it returns false'. Refute it at one input. -/
def serialTrueWrong : ChangeSpec := { name := "serialTrue", fn := fun _ => fun
  | [d1, d2] => { results := [.lit (.bool false)], args := [d1, d2] }
  | _ => none }
def SerialTrueWrongFalsely : Prop := serialTrueRow.holds Try.pinned (OpenSpec.ofChange serialTrueWrong)

/-- 'catwalklaw19.RttPlays': WHATEVER THE INPUT: true; the input reads as it did. -/
def rttPlaysSpec : ChangeSpec := { name := "rttPlays", fn := fun _ => fun
  | [d1, d2] => { results := [.lit (.bool true)], args := [d1, d2] }
  | _ => none }
def rttPlaysRow : OpenClaim := { program := "ytnmjfeeogphlcaa", sum := "e8dd036145d3ced83e4cdee91d360e802be532f87a1f1e0a00cbd99806e875ae", func := "catwalk/catwalklaw19.RttPlays", spec := "rttPlays", apart := false }
def RttPlaysSaid : Prop := rttPlaysRow.holds Try.pinned (OpenSpec.ofChange rttPlaysSpec)

/-- ITS FALSE NEIGHBOUR: 'it returns false'. Refute it at one input. -/
def rttPlaysWrong : ChangeSpec := { name := "rttPlays", fn := fun _ => fun
  | [d1, d2] => { results := [.lit (.bool false)], args := [d1, d2] }
  | _ => none }
def RttPlaysWrongFalsely : Prop := rttPlaysRow.holds Try.pinned (OpenSpec.ofChange rttPlaysWrong)

/-- 'catwalklaw19.RttSettles': WHATEVER THE INPUT: true; the input reads as it did. -/
def rttSettlesSpec : ChangeSpec := { name := "rttSettles", fn := fun _ => fun
  | [d1, d2, d3] => { results := [.lit (.bool true)], args := [d1, d2, d3] }
  | _ => none }
def rttSettlesRow : OpenClaim := { program := "ytnmjfeeogphlcaa", sum := "e8dd036145d3ced83e4cdee91d360e802be532f87a1f1e0a00cbd99806e875ae", func := "catwalk/catwalklaw19.RttSettles", spec := "rttSettles", apart := false }
def RttSettlesSaid : Prop := rttSettlesRow.holds Try.pinned (OpenSpec.ofChange rttSettlesSpec)

/-- ITS FALSE NEIGHBOUR: 'it returns false'. Refute it at one input. -/
def rttSettlesWrong : ChangeSpec := { name := "rttSettles", fn := fun _ => fun
  | [d1, d2, d3] => { results := [.lit (.bool false)], args := [d1, d2, d3] }
  | _ => none }
def RttSettlesWrongFalsely : Prop := rttSettlesRow.holds Try.pinned (OpenSpec.ofChange rttSettlesWrong)

/-- 'catwalklaw20.WinPlays': WHATEVER THE INPUT: true; the input reads as it did. -/
def winPlaysSpec : ChangeSpec := { name := "winPlays", fn := fun _ => fun
  | [d1, d2] => { results := [.lit (.bool true)], args := [d1, d2] }
  | _ => none }
def winPlaysRow : OpenClaim := { program := "ytnmjfeeogphlcaa", sum := "e8dd036145d3ced83e4cdee91d360e802be532f87a1f1e0a00cbd99806e875ae", func := "catwalk/catwalklaw20.WinPlays", spec := "winPlays", apart := false }
def WinPlaysSaid : Prop := winPlaysRow.holds Try.pinned (OpenSpec.ofChange winPlaysSpec)

/-- ITS FALSE NEIGHBOUR: 'it returns false'. Refute it at one input. -/
def winPlaysWrong : ChangeSpec := { name := "winPlays", fn := fun _ => fun
  | [d1, d2] => { results := [.lit (.bool false)], args := [d1, d2] }
  | _ => none }
def WinPlaysWrongFalsely : Prop := winPlaysRow.holds Try.pinned (OpenSpec.ofChange winPlaysWrong)

/-- 'catwalklaw20.WinOpens': WHATEVER THE INPUT: true; the input reads as it did. -/
def winOpensSpec : ChangeSpec := { name := "winOpens", fn := fun _ => fun
  | [d1, d2] => { results := [.lit (.bool true)], args := [d1, d2] }
  | _ => none }
def winOpensRow : OpenClaim := { program := "ytnmjfeeogphlcaa", sum := "e8dd036145d3ced83e4cdee91d360e802be532f87a1f1e0a00cbd99806e875ae", func := "catwalk/catwalklaw20.WinOpens", spec := "winOpens", apart := false }
def WinOpensSaid : Prop := winOpensRow.holds Try.pinned (OpenSpec.ofChange winOpensSpec)

/-- ITS FALSE NEIGHBOUR: 'it returns false'. Refute it at one input. -/
def winOpensWrong : ChangeSpec := { name := "winOpens", fn := fun _ => fun
  | [d1, d2] => { results := [.lit (.bool false)], args := [d1, d2] }
  | _ => none }
def WinOpensWrongFalsely : Prop := winOpensRow.holds Try.pinned (OpenSpec.ofChange winOpensWrong)

/-- 'catwalklaw24.LimitBounds': WHATEVER THE INPUT: true; the input reads as it did. -/
def limitBoundsSpec : ChangeSpec := { name := "limitBounds", fn := fun _ => fun
  | [d1, d2, d3] => { results := [.lit (.bool true)], args := [d1, d2, d3] }
  | _ => none }
def limitBoundsRow : OpenClaim := { program := "ytnmjfeeogphlcaa", sum := "e8dd036145d3ced83e4cdee91d360e802be532f87a1f1e0a00cbd99806e875ae", func := "catwalk/catwalklaw24.LimitBounds", spec := "limitBounds", apart := false }
def LimitBoundsSaid : Prop := limitBoundsRow.holds Try.pinned (OpenSpec.ofChange limitBoundsSpec)

/-- ITS FALSE NEIGHBOUR: 'it returns false'. Refute it at one input. -/
def limitBoundsWrong : ChangeSpec := { name := "limitBounds", fn := fun _ => fun
  | [d1, d2, d3] => { results := [.lit (.bool false)], args := [d1, d2, d3] }
  | _ => none }
def LimitBoundsWrongFalsely : Prop := limitBoundsRow.holds Try.pinned (OpenSpec.ofChange limitBoundsWrong)

/- THE SECOND FORM. 'bulk': how many values and letters a reading holds, each counted each time it is reached (what is shared counts as often as it is met; a slice's spare places count too). A statement '..UptoSaid' is the law's where the arguments, and the package variables that the reading takes, are together of bulk at most 1048576: NARROWER than '..Said'. Prove '..Said' where nothing that the law and all that it calls make is longer than what came in: it says more and counts as full. Else prove '..UptoSaid'. A law counts once. -/
mutual
def uptoBulk {H : Type} : DataW H → Nat
  | .lit (.string bytes) => bytes.length + 1
  | .lit _ => 1
  | .nil => 1
  | .ptr d => uptoBulk d + 1
  | .slice elems spare => uptoBulkAll elems + uptoBulkAll spare + 1
  | .agg parts => uptoBulkAll parts + 1
  | .iface _ d => uptoBulk d + 1
  | .map entries => uptoBulkEntries entries + 1
  | .held _ => 1
def uptoBulkAll {H : Type} : List (DataW H) → Nat
  | [] => 0
  | d :: r => uptoBulk d + uptoBulkAll r
def uptoBulkEntries {H : Type} : List (Lit × DataW H) → Nat
  | [] => 0
  | x :: r => uptoBulkEntry x + uptoBulkEntries r
def uptoBulkEntry {H : Type} : Lit × DataW H → Nat
  | (.string bytes, d) => bytes.length + uptoBulk d + 1
  | (_, d) => uptoBulk d + 1
 end
def uptoSmall : (H : Type) → List (DataW H) → Bool := fun _ ds => decide (uptoBulkAll ds ≤ 1048576)
def OpenSpec.upto (s : _root_.Go.ChangeSpec) : _root_.Go.OpenSpec := { _root_.Go.OpenSpec.ofChange s with cond := some uptoSmall }

/-- 'catwalklaw02.SerialSteps', WHERE WHAT IT READS IS OF BULK AT MOST 1048576: true; the input reads as it did. -/
def serialStepsUptoRow : OpenClaim := { program := "ytnmjfeeogphlcaa", sum := "e8dd036145d3ced83e4cdee91d360e802be532f87a1f1e0a00cbd99806e875ae", func := "catwalk/catwalklaw02.SerialSteps", spec := "serialSteps", apart := false, narrowed := true }
def SerialStepsUptoSaid : Prop := serialStepsUptoRow.holds Try.pinned (OpenSpec.upto serialStepsSpec)

/-- 'catwalklaw02.SerialTells', WHERE WHAT IT READS IS OF BULK AT MOST 1048576: true; the input reads as it did. -/
def serialTellsUptoRow : OpenClaim := { program := "ytnmjfeeogphlcaa", sum := "e8dd036145d3ced83e4cdee91d360e802be532f87a1f1e0a00cbd99806e875ae", func := "catwalk/catwalklaw02.SerialTells", spec := "serialTells", apart := false, narrowed := true }
def SerialTellsUptoSaid : Prop := serialTellsUptoRow.holds Try.pinned (OpenSpec.upto serialTellsSpec)

/-- 'catwalklaw02.SerialWide', WHERE WHAT IT READS IS OF BULK AT MOST 1048576: true; the input reads as it did. -/
def serialWideUptoRow : OpenClaim := { program := "ytnmjfeeogphlcaa", sum := "e8dd036145d3ced83e4cdee91d360e802be532f87a1f1e0a00cbd99806e875ae", func := "catwalk/catwalklaw02.SerialWide", spec := "serialWide", apart := false, narrowed := true }
def SerialWideUptoSaid : Prop := serialWideUptoRow.holds Try.pinned (OpenSpec.upto serialWideSpec)

/-- 'catwalklaw02.SerialTrue', WHERE WHAT IT READS IS OF BULK AT MOST 1048576: true; the input reads as it did. -/
def serialTrueUptoRow : OpenClaim := { program := "ytnmjfeeogphlcaa", sum := "e8dd036145d3ced83e4cdee91d360e802be532f87a1f1e0a00cbd99806e875ae", func := "catwalk/catwalklaw02.SerialTrue", spec := "serialTrue", apart := false, narrowed := true }
def SerialTrueUptoSaid : Prop := serialTrueUptoRow.holds Try.pinned (OpenSpec.upto serialTrueSpec)

/-- 'catwalklaw19.RttPlays', WHERE WHAT IT READS IS OF BULK AT MOST 1048576: true; the input reads as it did. -/
def rttPlaysUptoRow : OpenClaim := { program := "ytnmjfeeogphlcaa", sum := "e8dd036145d3ced83e4cdee91d360e802be532f87a1f1e0a00cbd99806e875ae", func := "catwalk/catwalklaw19.RttPlays", spec := "rttPlays", apart := false, narrowed := true }
def RttPlaysUptoSaid : Prop := rttPlaysUptoRow.holds Try.pinned (OpenSpec.upto rttPlaysSpec)

/-- 'catwalklaw19.RttSettles', WHERE WHAT IT READS IS OF BULK AT MOST 1048576: true; the input reads as it did. -/
def rttSettlesUptoRow : OpenClaim := { program := "ytnmjfeeogphlcaa", sum := "e8dd036145d3ced83e4cdee91d360e802be532f87a1f1e0a00cbd99806e875ae", func := "catwalk/catwalklaw19.RttSettles", spec := "rttSettles", apart := false, narrowed := true }
def RttSettlesUptoSaid : Prop := rttSettlesUptoRow.holds Try.pinned (OpenSpec.upto rttSettlesSpec)

/-- 'catwalklaw20.WinPlays', WHERE WHAT IT READS IS OF BULK AT MOST 1048576: true; the input reads as it did. -/
def winPlaysUptoRow : OpenClaim := { program := "ytnmjfeeogphlcaa", sum := "e8dd036145d3ced83e4cdee91d360e802be532f87a1f1e0a00cbd99806e875ae", func := "catwalk/catwalklaw20.WinPlays", spec := "winPlays", apart := false, narrowed := true }
def WinPlaysUptoSaid : Prop := winPlaysUptoRow.holds Try.pinned (OpenSpec.upto winPlaysSpec)

/-- 'catwalklaw20.WinOpens', WHERE WHAT IT READS IS OF BULK AT MOST 1048576: true; the input reads as it did. -/
def winOpensUptoRow : OpenClaim := { program := "ytnmjfeeogphlcaa", sum := "e8dd036145d3ced83e4cdee91d360e802be532f87a1f1e0a00cbd99806e875ae", func := "catwalk/catwalklaw20.WinOpens", spec := "winOpens", apart := false, narrowed := true }
def WinOpensUptoSaid : Prop := winOpensUptoRow.holds Try.pinned (OpenSpec.upto winOpensSpec)

/-- 'catwalklaw24.LimitBounds', WHERE WHAT IT READS IS OF BULK AT MOST 1048576: true; the input reads as it did. -/
def limitBoundsUptoRow : OpenClaim := { program := "ytnmjfeeogphlcaa", sum := "e8dd036145d3ced83e4cdee91d360e802be532f87a1f1e0a00cbd99806e875ae", func := "catwalk/catwalklaw24.LimitBounds", spec := "limitBounds", apart := false, narrowed := true }
def LimitBoundsUptoSaid : Prop := limitBoundsUptoRow.holds Try.pinned (OpenSpec.upto limitBoundsSpec)

end Rows
end Go.Proofs.Ytnmjfeeogphlcaa
