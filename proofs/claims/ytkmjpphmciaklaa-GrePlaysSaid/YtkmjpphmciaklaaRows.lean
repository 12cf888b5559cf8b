/-
  No cell of these rows narrows 'for every input' (looked for: loops, veiled, ifaces, maps, wideKeys, modest, calm, conditions, laid).
  DERIVED. THE GIVEN ROWS OF THIS SEAT. 8 by the template 'for every input the law returns true; each argument reads behind the call as it read before'; 0 by the template 'total and deterministic' (their statements: YtkmjpphmciaklaaTotals.lean).
  GIVEN WITH THE SEED: the statements are not yours to turn. If you find one false, say at which input.
  Laid BY PROGRAM, IN A SANDBOX (cutbox-rows.mjs): the forced cells as the released guide's own fill.sh prints them over the translation 0ea488d49ab821a9… (all of the seat's roots in one cut). By AI agents, Wed Nov 11 2026. No macro, syntax, notation, axiom, sorry.
-/
import Derived.Test.YtkmjpphmciaklaaChecked
import GoSem.Claim
import GoSem.ClaimJoined
import GoSem.ClaimMapViews
import Derived.JoinedTies
import Derived.KernelRfl
namespace Go.Proofs.Ytkmjpphmciaklaa
/- THE CELL 'sum', in the pinned program and in every row, IS THE sha256 OF THE DUMP (.gsa) THAT YtkmjpphmciaklaaProg.lean LOADS. Nothing in Lean hashes anything: it is a label: what it is worth is what the hold of that sum in a sandbox is worth. -/
noncomputable def Try.pinned : Pinned := { name := "ytkmjpphmciaklaa", sum := "0ea488d49ab821a93f198bcbf63ae28213a9cecc010591376a05fdb1a06ac979", checked := Try.checked }
namespace Rows
def none {H : Type} : Left H := { results := [], args := [] }

/-- 'catwalklaw31.RecvAll': WHATEVER THE INPUT: true; the input reads as it did. -/
def recvAllSpec : ChangeSpec := { name := "recvAll", fn := fun _ => fun
  | [d1, d2, d3] => { results := [.lit (.bool true)], args := [d1, d2, d3] }
  | _ => none }
def recvAllRow : OpenClaim := { program := "ytkmjpphmciaklaa", sum := "0ea488d49ab821a93f198bcbf63ae28213a9cecc010591376a05fdb1a06ac979", func := "catwalk/catwalklaw31.RecvAll", spec := "recvAll", apart := false }
def RecvAllSaid : Prop := recvAllRow.holds Try.pinned (OpenSpec.ofChange recvAllSpec)

/-- ITS FALSE NEIGHBOUR: 'it returns false'. Refute it at one input. -/
def recvAllWrong : ChangeSpec := { name := "recvAll", fn := fun _ => fun
  | [d1, d2, d3] => { results := [.lit (.bool false)], args := [d1, d2, d3] }
  | _ => none }
def RecvAllWrongFalsely : Prop := recvAllRow.holds Try.pinned (OpenSpec.ofChange recvAllWrong)

/-- 'catwalklaw07.RingPlays': WHATEVER THE INPUT: true; the input reads as it did. -/
def ringPlaysSpec : ChangeSpec := { name := "ringPlays", fn := fun _ => fun
  | [d1, d2] => { results := [.lit (.bool true)], args := [d1, d2] }
  | _ => none }
def ringPlaysRow : OpenClaim := { program := "ytkmjpphmciaklaa", sum := "0ea488d49ab821a93f198bcbf63ae28213a9cecc010591376a05fdb1a06ac979", func := "catwalk/catwalklaw07.RingPlays", spec := "ringPlays", unfollowed := true, recurses := true, apart := false }
def RingPlaysSaid : Prop := ringPlaysRow.holds Try.pinned (OpenSpec.ofChange ringPlaysSpec)

/-- ITS FALSE NEIGHBOUR: 'it returns false'. Refute it at one input. -/
def ringPlaysWrong : ChangeSpec := { name := "ringPlays", fn := fun _ => fun
  | [d1, d2] => { results := [.lit (.bool false)], args := [d1, d2] }
  | _ => none }
def RingPlaysWrongFalsely : Prop := ringPlaysRow.holds Try.pinned (OpenSpec.ofChange ringPlaysWrong)

/-- 'catwalklaw31.RecvRises': WHATEVER THE INPUT: true; the input reads as it did. -/
def recvRisesSpec : ChangeSpec := { name := "recvRises", fn := fun _ => fun
  | [d1, d2] => { results := [.lit (.bool true)], args := [d1, d2] }
  | _ => none }
def recvRisesRow : OpenClaim := { program := "ytkmjpphmciaklaa", sum := "0ea488d49ab821a93f198bcbf63ae28213a9cecc010591376a05fdb1a06ac979", func := "catwalk/catwalklaw31.RecvRises", spec := "recvRises", apart := false }
def RecvRisesSaid : Prop := recvRisesRow.holds Try.pinned (OpenSpec.ofChange recvRisesSpec)

/-- ITS FALSE NEIGHBOUR: 'it returns false'. Refute it at one input. -/
def recvRisesWrong : ChangeSpec := { name := "recvRises", fn := fun _ => fun
  | [d1, d2] => { results := [.lit (.bool false)], args := [d1, d2] }
  | _ => none }
def RecvRisesWrongFalsely : Prop := recvRisesRow.holds Try.pinned (OpenSpec.ofChange recvRisesWrong)

/-- 'catwalklaw31.RecvPlays': WHATEVER THE INPUT: true; the input reads as it did. -/
def recvPlaysSpec : ChangeSpec := { name := "recvPlays", fn := fun _ => fun
  | [d1, d2] => { results := [.lit (.bool true)], args := [d1, d2] }
  | _ => none }
def recvPlaysRow : OpenClaim := { program := "ytkmjpphmciaklaa", sum := "0ea488d49ab821a93f198bcbf63ae28213a9cecc010591376a05fdb1a06ac979", func := "catwalk/catwalklaw31.RecvPlays", spec := "recvPlays", apart := false }
def RecvPlaysSaid : Prop := recvPlaysRow.holds Try.pinned (OpenSpec.ofChange recvPlaysSpec)

/-- ITS FALSE NEIGHBOUR: 'it returns false'. Refute it at one input. -/
def recvPlaysWrong : ChangeSpec := { name := "recvPlays", fn := fun _ => fun
  | [d1, d2] => { results := [.lit (.bool false)], args := [d1, d2] }
  | _ => none }
def RecvPlaysWrongFalsely : Prop := recvPlaysRow.holds Try.pinned (OpenSpec.ofChange recvPlaysWrong)

/-- 'catwalklaw30.SendOnce': WHATEVER THE INPUT: true; the input reads as it did. -/
def sendOnceSpec : ChangeSpec := { name := "sendOnce", fn := fun _ => fun
  | [d1, d2] => { results := [.lit (.bool true)], args := [d1, d2] }
  | _ => none }
def sendOnceRow : OpenClaim := { program := "ytkmjpphmciaklaa", sum := "0ea488d49ab821a93f198bcbf63ae28213a9cecc010591376a05fdb1a06ac979", func := "catwalk/catwalklaw30.SendOnce", spec := "sendOnce", apart := false }
def SendOnceSaid : Prop := sendOnceRow.holds Try.pinned (OpenSpec.ofChange sendOnceSpec)

/-- ITS FALSE NEIGHBOUR: 'it returns false'. Refute it at one input. -/
def sendOnceWrong : ChangeSpec := { name := "sendOnce", fn := fun _ => fun
  | [d1, d2] => { results := [.lit (.bool false)], args := [d1, d2] }
  | _ => none }
def SendOnceWrongFalsely : Prop := sendOnceRow.holds Try.pinned (OpenSpec.ofChange sendOnceWrong)

/-- 'catwalklaw32.GreCarries': WHATEVER THE INPUT: true; the input reads as it did. -/
def greCarriesSpec : ChangeSpec := { name := "greCarries", fn := fun _ => fun
  | [d1, d2] => { results := [.lit (.bool true)], args := [d1, d2] }
  | _ => none }
def greCarriesRow : OpenClaim := { program := "ytkmjpphmciaklaa", sum := "0ea488d49ab821a93f198bcbf63ae28213a9cecc010591376a05fdb1a06ac979", func := "catwalk/catwalklaw32.GreCarries", spec := "greCarries", apart := false }
def GreCarriesSaid : Prop := greCarriesRow.holds Try.pinned (OpenSpec.ofChange greCarriesSpec)

/-- ITS FALSE NEIGHBOUR: 'it returns false'. Refute it at one input. -/
def greCarriesWrong : ChangeSpec := { name := "greCarries", fn := fun _ => fun
  | [d1, d2] => { results := [.lit (.bool false)], args := [d1, d2] }
  | _ => none }
def GreCarriesWrongFalsely : Prop := greCarriesRow.holds Try.pinned (OpenSpec.ofChange greCarriesWrong)

/-- 'catwalklaw32.GreAll': WHATEVER THE INPUT: true; the input reads as it did. -/
def greAllSpec : ChangeSpec := { name := "greAll", fn := fun _ => fun
  | [d1, d2] => { results := [.lit (.bool true)], args := [d1, d2] }
  | _ => none }
def greAllRow : OpenClaim := { program := "ytkmjpphmciaklaa", sum := "0ea488d49ab821a93f198bcbf63ae28213a9cecc010591376a05fdb1a06ac979", func := "catwalk/catwalklaw32.GreAll", spec := "greAll", apart := false }
def GreAllSaid : Prop := greAllRow.holds Try.pinned (OpenSpec.ofChange greAllSpec)

/-- ITS FALSE NEIGHBOUR: 'it returns false'. Refute it at one input. -/
def greAllWrong : ChangeSpec := { name := "greAll", fn := fun _ => fun
  | [d1, d2] => { results := [.lit (.bool false)], args := [d1, d2] }
  | _ => none }
def GreAllWrongFalsely : Prop := greAllRow.holds Try.pinned (OpenSpec.ofChange greAllWrong)

/-- 'catwalklaw32.GrePlays': WHATEVER THE INPUT: true; the input reads as it did. -/
def grePlaysSpec : ChangeSpec := { name := "grePlays", fn := fun _ => fun
  | [d1, d2] => { results := [.lit (.bool true)], args := [d1, d2] }
  | _ => none }
def grePlaysRow : OpenClaim := { program := "ytkmjpphmciaklaa", sum := "0ea488d49ab821a93f198bcbf63ae28213a9cecc010591376a05fdb1a06ac979", func := "catwalk/catwalklaw32.GrePlays", spec := "grePlays", apart := false }
def GrePlaysSaid : Prop := grePlaysRow.holds Try.pinned (OpenSpec.ofChange grePlaysSpec)

/-- ITS FALSE NEIGHBOUR: 'it returns false'. Refute it at one input. -/
def grePlaysWrong : ChangeSpec := { name := "grePlays", fn := fun _ => fun
  | [d1, d2] => { results := [.lit (.bool false)], args := [d1, d2] }
  | _ => none }
def GrePlaysWrongFalsely : Prop := grePlaysRow.holds Try.pinned (OpenSpec.ofChange grePlaysWrong)

/- THE SECOND FORM. 'bulk': how many values and letters a reading holds, each counted each time it is reached (what is shared counts as often as it is met; a slice's spare places count too). A statement '..UptoSaid' is the law's where the arguments, and the package variables that the reading takes, are together of bulk at most 1048576: NARROWER than '..Said'. Prove '..Said' where nothing that the law and all that it calls make is longer than what came in: it says more and counts as full. Else prove '..UptoSaid'. A law counts once. -/
mutual
def uptoBulk {H : Type} : DataW H → Nat
  | .lit (.string bytes) => bytes.length + 1
  | .lit _ => 1
  | .nil => 1
  | .ptr d => uptoBulk d + 1
  | .slice elems spare => uptoBulkAll elems + uptoBulkAll spare + 1
  | .agg parts => uptoBulkAll parts + 1
  | .iface _ d => uptoBulk d + 1
  | .map entries => uptoBulkEntries entries + 1
  | .held _ => 1
def uptoBulkAll {H : Type} : List (DataW H) → Nat
  | [] => 0
  | d :: r => uptoBulk d + uptoBulkAll r
def uptoBulkEntries {H : Type} : List (Lit × DataW H) → Nat
  | [] => 0
  | x :: r => uptoBulkEntry x + uptoBulkEntries r
def uptoBulkEntry {H : Type} : Lit × DataW H → Nat
  | (.string bytes, d) => bytes.length + uptoBulk d + 1
  | (_, d) => uptoBulk d + 1
 end
def uptoSmall : (H : Type) → List (DataW H) → Bool := fun _ ds => decide (uptoBulkAll ds ≤ 1048576)
def OpenSpec.upto (s : _root_.Go.ChangeSpec) : _root_.Go.OpenSpec := { _root_.Go.OpenSpec.ofChange s with cond := some uptoSmall }

/-- 'catwalklaw31.RecvAll', WHERE WHAT IT READS IS OF BULK AT MOST 1048576: true; the input reads as it did. -/
def recvAllUptoRow : OpenClaim := { program := "ytkmjpphmciaklaa", sum := "0ea488d49ab821a93f198bcbf63ae28213a9cecc010591376a05fdb1a06ac979", func := "catwalk/catwalklaw31.RecvAll", spec := "recvAll", apart := false, narrowed := true }
def RecvAllUptoSaid : Prop := recvAllUptoRow.holds Try.pinned (OpenSpec.upto recvAllSpec)

/-- 'catwalklaw07.RingPlays', WHERE WHAT IT READS IS OF BULK AT MOST 1048576: true; the input reads as it did. -/
def ringPlaysUptoRow : OpenClaim := { program := "ytkmjpphmciaklaa", sum := "0ea488d49ab821a93f198bcbf63ae28213a9cecc010591376a05fdb1a06ac979", func := "catwalk/catwalklaw07.RingPlays", spec := "ringPlays", unfollowed := true, recurses := true, apart := false, narrowed := true }
def RingPlaysUptoSaid : Prop := ringPlaysUptoRow.holds Try.pinned (OpenSpec.upto ringPlaysSpec)

/-- 'catwalklaw31.RecvRises', WHERE WHAT IT READS IS OF BULK AT MOST 1048576: true; the input reads as it did. -/
def recvRisesUptoRow : OpenClaim := { program := "ytkmjpphmciaklaa", sum := "0ea488d49ab821a93f198bcbf63ae28213a9cecc010591376a05fdb1a06ac979", func := "catwalk/catwalklaw31.RecvRises", spec := "recvRises", apart := false, narrowed := true }
def RecvRisesUptoSaid : Prop := recvRisesUptoRow.holds Try.pinned (OpenSpec.upto recvRisesSpec)

/-- 'catwalklaw31.RecvPlays', WHERE WHAT IT READS IS OF BULK AT MOST 1048576: true; the input reads as it did. -/
def recvPlaysUptoRow : OpenClaim := { program := "ytkmjpphmciaklaa", sum := "0ea488d49ab821a93f198bcbf63ae28213a9cecc010591376a05fdb1a06ac979", func := "catwalk/catwalklaw31.RecvPlays", spec := "recvPlays", apart := false, narrowed := true }
def RecvPlaysUptoSaid : Prop := recvPlaysUptoRow.holds Try.pinned (OpenSpec.upto recvPlaysSpec)

/-- 'catwalklaw30.SendOnce', WHERE WHAT IT READS IS OF BULK AT MOST 1048576: true; the input reads as it did. -/
def sendOnceUptoRow : OpenClaim := { program := "ytkmjpphmciaklaa", sum := "0ea488d49ab821a93f198bcbf63ae28213a9cecc010591376a05fdb1a06ac979", func := "catwalk/catwalklaw30.SendOnce", spec := "sendOnce", apart := false, narrowed := true }
def SendOnceUptoSaid : Prop := sendOnceUptoRow.holds Try.pinned (OpenSpec.upto sendOnceSpec)

/-- 'catwalklaw32.GreCarries', WHERE WHAT IT READS IS OF BULK AT MOST 1048576: true; the input reads as it did. -/
def greCarriesUptoRow : OpenClaim := { program := "ytkmjpphmciaklaa", sum := "0ea488d49ab821a93f198bcbf63ae28213a9cecc010591376a05fdb1a06ac979", func := "catwalk/catwalklaw32.GreCarries", spec := "greCarries", apart := false, narrowed := true }
def GreCarriesUptoSaid : Prop := greCarriesUptoRow.holds Try.pinned (OpenSpec.upto greCarriesSpec)

/-- 'catwalklaw32.GreAll', WHERE WHAT IT READS IS OF BULK AT MOST 1048576: true; the input reads as it did. -/
def greAllUptoRow : OpenClaim := { program := "ytkmjpphmciaklaa", sum := "0ea488d49ab821a93f198bcbf63ae28213a9cecc010591376a05fdb1a06ac979", func := "catwalk/catwalklaw32.GreAll", spec := "greAll", apart := false, narrowed := true }
def GreAllUptoSaid : Prop := greAllUptoRow.holds Try.pinned (OpenSpec.upto greAllSpec)

/-- 'catwalklaw32.GrePlays', WHERE WHAT IT READS IS OF BULK AT MOST 1048576: true; the input reads as it did. -/
def grePlaysUptoRow : OpenClaim := { program := "ytkmjpphmciaklaa", sum := "0ea488d49ab821a93f198bcbf63ae28213a9cecc010591376a05fdb1a06ac979", func := "catwalk/catwalklaw32.GrePlays", spec := "grePlays", apart := false, narrowed := true }
def GrePlaysUptoSaid : Prop := grePlaysUptoRow.holds Try.pinned (OpenSpec.upto grePlaysSpec)

end Rows
end Go.Proofs.Ytkmjpphmciaklaa
