/-
  No cell of these rows narrows 'for every input' (looked for: loops, veiled, ifaces, maps, wideKeys, modest, calm, conditions, laid).
  DERIVED. THE GIVEN ROWS OF THIS SEAT. 5 by the template 'for every input the law returns true; each argument reads behind the call as it read before'; 0 by the template 'total and deterministic' (their statements: YtkpopjpmjcgbfaaTotals.lean).
  GIVEN WITH THE SEED: the statements are not yours to turn. If you find one false, say at which input.
  Laid BY PROGRAM, IN A SANDBOX (cutbox-rows.mjs): the forced cells as the released guide's own fill.sh prints them over the translation 6d47e1363009a02c… (all of the seat's roots in one cut). By AI agents, Wed Nov 11 2026. No macro, syntax, notation, axiom, sorry.
-/
import Derived.Test.YtkpopjpmjcgbfaaChecked
import GoSem.Claim
import GoSem.ClaimJoined
import GoSem.ClaimMapViews
import Derived.JoinedTies
import Derived.KernelRfl
namespace Go.Proofs.Ytkpopjpmjcgbfaa
/- THE CELL 'sum', in the pinned program and in every row, IS THE sha256 OF THE DUMP (.gsa) THAT YtkpopjpmjcgbfaaProg.lean LOADS. Nothing in Lean hashes anything: it is a label: what it is worth is what the hold of that sum in a sandbox is worth. -/
noncomputable def Try.pinned : Pinned := { name := "ytkpopjpmjcgbfaa", sum := "6d47e1363009a02c1d8cde7ccbc0fd0f2ff5ae8d7759256d97d6b4d7b5a4cd49", checked := Try.checked }
namespace Rows
def none {H : Type} : Left H := { results := [], args := [] }

/-- 'palimpsestlaw3.RecChain': WHATEVER THE INPUT: true; the input reads as it did. -/
def recChainSpec : ChangeSpec := { name := "recChain", fn := fun _ => fun
  | [d1, d2] => { results := [.lit (.bool true)], args := [d1, d2] }
  | _ => none }
def recChainRow : OpenClaim := { program := "ytkpopjpmjcgbfaa", sum := "6d47e1363009a02c1d8cde7ccbc0fd0f2ff5ae8d7759256d97d6b4d7b5a4cd49", func := "palimpsest/palimpsestlaw3.RecChain", spec := "recChain", apart := false }
def RecChainSaid : Prop := recChainRow.holds Try.pinned (OpenSpec.ofChange recChainSpec)

/-- ITS FALSE NEIGHBOUR: 'it returns false'. Refute it at one input. -/
def recChainWrong : ChangeSpec := { name := "recChain", fn := fun _ => fun
  | [d1, d2] => { results := [.lit (.bool false)], args := [d1, d2] }
  | _ => none }
def RecChainWrongFalsely : Prop := recChainRow.holds Try.pinned (OpenSpec.ofChange recChainWrong)

/-- 'palimpsestlaw3.RecCodes': WHATEVER THE INPUT: true; the input reads as it did. -/
def recCodesSpec : ChangeSpec := { name := "recCodes", fn := fun _ => fun
  | [d1, d2] => { results := [.lit (.bool true)], args := [d1, d2] }
  | _ => none }
def recCodesRow : OpenClaim := { program := "ytkpopjpmjcgbfaa", sum := "6d47e1363009a02c1d8cde7ccbc0fd0f2ff5ae8d7759256d97d6b4d7b5a4cd49", func := "palimpsest/palimpsestlaw3.RecCodes", spec := "recCodes", apart := false }
def RecCodesSaid : Prop := recCodesRow.holds Try.pinned (OpenSpec.ofChange recCodesSpec)

/-- ITS FALSE NEIGHBOUR: 'it returns false'. Refute it at one input. -/
def recCodesWrong : ChangeSpec := { name := "recCodes", fn := fun _ => fun
  | [d1, d2] => { results := [.lit (.bool false)], args := [d1, d2] }
  | _ => none }
def RecCodesWrongFalsely : Prop := recCodesRow.holds Try.pinned (OpenSpec.ofChange recCodesWrong)

/-- 'palimpsestlaw3.RecKinds': WHATEVER THE INPUT: true; the input reads as it did. -/
def recKindsSpec : ChangeSpec := { name := "recKinds", fn := fun _ => fun
  | [d] => { results := [.lit (.bool true)], args := [d] }
  | _ => none }
def recKindsRow : OpenClaim := { program := "ytkpopjpmjcgbfaa", sum := "6d47e1363009a02c1d8cde7ccbc0fd0f2ff5ae8d7759256d97d6b4d7b5a4cd49", func := "palimpsest/palimpsestlaw3.RecKinds", spec := "recKinds", apart := false }
def RecKindsSaid : Prop := recKindsRow.holds Try.pinned (OpenSpec.ofChange recKindsSpec)

/-- ITS FALSE NEIGHBOUR: 'it returns false'. Refute it at one input. -/
def recKindsWrong : ChangeSpec := { name := "recKinds", fn := fun _ => fun
  | [d] => { results := [.lit (.bool false)], args := [d] }
  | _ => none }
def RecKindsWrongFalsely : Prop := recKindsRow.holds Try.pinned (OpenSpec.ofChange recKindsWrong)

/-- 'palimpsestlaw3.RecBack': WHATEVER THE INPUT: true; the input reads as it did. -/
def recBackSpec : ChangeSpec := { name := "recBack", fn := fun _ => fun
  | [d1, d2] => { results := [.lit (.bool true)], args := [d1, d2] }
  | _ => none }
def recBackRow : OpenClaim := { program := "ytkpopjpmjcgbfaa", sum := "6d47e1363009a02c1d8cde7ccbc0fd0f2ff5ae8d7759256d97d6b4d7b5a4cd49", func := "palimpsest/palimpsestlaw3.RecBack", spec := "recBack", apart := false }
def RecBackSaid : Prop := recBackRow.holds Try.pinned (OpenSpec.ofChange recBackSpec)

/-- ITS FALSE NEIGHBOUR: 'it returns false'. Refute it at one input. -/
def recBackWrong : ChangeSpec := { name := "recBack", fn := fun _ => fun
  | [d1, d2] => { results := [.lit (.bool false)], args := [d1, d2] }
  | _ => none }
def RecBackWrongFalsely : Prop := recBackRow.holds Try.pinned (OpenSpec.ofChange recBackWrong)

/-- 'palimpsestlaw3.RecLent': WHATEVER THE INPUT: true; the input reads as it did. -/
def recLentSpec : ChangeSpec := { name := "recLent", fn := fun _ => fun
  | [d] => { results := [.lit (.bool true)], args := [d] }
  | _ => none }
def recLentRow : OpenClaim := { program := "ytkpopjpmjcgbfaa", sum := "6d47e1363009a02c1d8cde7ccbc0fd0f2ff5ae8d7759256d97d6b4d7b5a4cd49", func := "palimpsest/palimpsestlaw3.RecLent", spec := "recLent", apart := false }
def RecLentSaid : Prop := recLentRow.holds Try.pinned (OpenSpec.ofChange recLentSpec)

/-- ITS FALSE NEIGHBOUR: 'it returns false'. Refute it at one input. -/
def recLentWrong : ChangeSpec := { name := "recLent", fn := fun _ => fun
  | [d] => { results := [.lit (.bool false)], args := [d] }
  | _ => none }
def RecLentWrongFalsely : Prop := recLentRow.holds Try.pinned (OpenSpec.ofChange recLentWrong)

/- THE SECOND FORM. 'bulk': how many values and letters a reading holds, each counted each time it is reached (what is shared counts as often as it is met; a slice's spare places count too). A statement '..UptoSaid' is the law's where the arguments, and the package variables that the reading takes, are together of bulk at most 1048576: NARROWER than '..Said'. Prove '..Said' where nothing that the law and all that it calls make is longer than what came in: it says more and counts as full. Else prove '..UptoSaid'. A law counts once. -/
mutual
def uptoBulk {H : Type} : DataW H → Nat
  | .lit (.string bytes) => bytes.length + 1
  | .lit _ => 1
  | .nil => 1
  | .ptr d => uptoBulk d + 1
  | .slice elems spare => uptoBulkAll elems + uptoBulkAll spare + 1
  | .agg parts => uptoBulkAll parts + 1
  | .iface _ d => uptoBulk d + 1
  | .map entries => uptoBulkEntries entries + 1
  | .held _ => 1
def uptoBulkAll {H : Type} : List (DataW H) → Nat
  | [] => 0
  | d :: r => uptoBulk d + uptoBulkAll r
def uptoBulkEntries {H : Type} : List (Lit × DataW H) → Nat
  | [] => 0
  | x :: r => uptoBulkEntry x + uptoBulkEntries r
def uptoBulkEntry {H : Type} : Lit × DataW H → Nat
  | (.string bytes, d) => bytes.length + uptoBulk d + 1
  | (_, d) => uptoBulk d + 1
 end
def uptoSmall : (H : Type) → List (DataW H) → Bool := fun _ ds => decide (uptoBulkAll ds ≤ 1048576)
def OpenSpec.upto (s : _root_.Go.ChangeSpec) : _root_.Go.OpenSpec := { _root_.Go.OpenSpec.ofChange s with cond := some uptoSmall }

/-- 'palimpsestlaw3.RecChain', WHERE WHAT IT READS IS OF BULK AT MOST 1048576: true; the input reads as it did. -/
def recChainUptoRow : OpenClaim := { program := "ytkpopjpmjcgbfaa", sum := "6d47e1363009a02c1d8cde7ccbc0fd0f2ff5ae8d7759256d97d6b4d7b5a4cd49", func := "palimpsest/palimpsestlaw3.RecChain", spec := "recChain", apart := false, narrowed := true }
def RecChainUptoSaid : Prop := recChainUptoRow.holds Try.pinned (OpenSpec.upto recChainSpec)

/-- 'palimpsestlaw3.RecCodes', WHERE WHAT IT READS IS OF BULK AT MOST 1048576: true; the input reads as it did. -/
def recCodesUptoRow : OpenClaim := { program := "ytkpopjpmjcgbfaa", sum := "6d47e1363009a02c1d8cde7ccbc0fd0f2ff5ae8d7759256d97d6b4d7b5a4cd49", func := "palimpsest/palimpsestlaw3.RecCodes", spec := "recCodes", apart := false, narrowed := true }
def RecCodesUptoSaid : Prop := recCodesUptoRow.holds Try.pinned (OpenSpec.upto recCodesSpec)

/-- 'palimpsestlaw3.RecKinds', WHERE WHAT IT READS IS OF BULK AT MOST 1048576: true; the input reads as it did. -/
def recKindsUptoRow : OpenClaim := { program := "ytkpopjpmjcgbfaa", sum := "6d47e1363009a02c1d8cde7ccbc0fd0f2ff5ae8d7759256d97d6b4d7b5a4cd49", func := "palimpsest/palimpsestlaw3.RecKinds", spec := "recKinds", apart := false, narrowed := true }
def RecKindsUptoSaid : Prop := recKindsUptoRow.holds Try.pinned (OpenSpec.upto recKindsSpec)

/-- 'palimpsestlaw3.RecBack', WHERE WHAT IT READS IS OF BULK AT MOST 1048576: true; the input reads as it did. -/
def recBackUptoRow : OpenClaim := { program := "ytkpopjpmjcgbfaa", sum := "6d47e1363009a02c1d8cde7ccbc0fd0f2ff5ae8d7759256d97d6b4d7b5a4cd49", func := "palimpsest/palimpsestlaw3.RecBack", spec := "recBack", apart := false, narrowed := true }
def RecBackUptoSaid : Prop := recBackUptoRow.holds Try.pinned (OpenSpec.upto recBackSpec)

/-- 'palimpsestlaw3.RecLent', WHERE WHAT IT READS IS OF BULK AT MOST 1048576: true; the input reads as it did. -/
def recLentUptoRow : OpenClaim := { program := "ytkpopjpmjcgbfaa", sum := "6d47e1363009a02c1d8cde7ccbc0fd0f2ff5ae8d7759256d97d6b4d7b5a4cd49", func := "palimpsest/palimpsestlaw3.RecLent", spec := "recLent", apart := false, narrowed := true }
def RecLentUptoSaid : Prop := recLentUptoRow.holds Try.pinned (OpenSpec.upto recLentSpec)

end Rows
end Go.Proofs.Ytkpopjpmjcgbfaa
