/-
  No cell of these rows narrows 'for every input' (looked for: loops, veiled, ifaces, maps, wideKeys, modest, calm, conditions, laid).
  DERIVED. THE GIVEN ROWS OF THIS SEAT. 5 by the template 'for every input the law returns true; each argument reads behind the call as it read before'; 0 by the template 'total and deterministic' (their statements: YtpdikmkhkiplbaaTotals.lean).
  GIVEN WITH THE SEED: the statements are not yours to turn. If you find one false, say at which input.
  Laid BY PROGRAM, IN A SANDBOX (cutbox-rows.mjs): the forced cells as the released guide's own fill.sh prints them over the translation 4faee3954b9c3e65… (all of the seat's roots in one cut). By AI agents, Wed Nov 11 2026. No macro, syntax, notation, axiom, sorry.
-/
import Derived.Test.YtpdikmkhkiplbaaChecked
import GoSem.Claim
import GoSem.ClaimJoined
import GoSem.ClaimMapViews
import Derived.JoinedTies
import Derived.KernelRfl
namespace Go.Proofs.Ytpdikmkhkiplbaa
/- THE CELL 'sum', in the pinned program and in every row, IS THE sha256 OF THE DUMP (.gsa) THAT YtpdikmkhkiplbaaProg.lean LOADS. Nothing in Lean hashes anything: it is a label: what it is worth is what the hold of that sum in a sandbox is worth. -/
noncomputable def Try.pinned : Pinned := { name := "ytpdikmkhkiplbaa", sum := "4faee3954b9c3e65bfc38713aebe9a4c2fcbab1957f1fcc27ea394312c6448f6", checked := Try.checked }
namespace Rows
def none {H : Type} : Left H := { results := [], args := [] }

/-- 'palimpsestlaw9.SlotNext': WHATEVER THE INPUT: true; the input reads as it did. -/
def slotNextSpec : ChangeSpec := { name := "slotNext", fn := fun _ => fun
  | [d1, d2, d3] => { results := [.lit (.bool true)], args := [d1, d2, d3] }
  | _ => none }
def slotNextRow : OpenClaim := { program := "ytpdikmkhkiplbaa", sum := "4faee3954b9c3e65bfc38713aebe9a4c2fcbab1957f1fcc27ea394312c6448f6", func := "palimpsest/palimpsestlaw9.SlotNext", spec := "slotNext", unfollowed := true, recurses := true, apart := false }
def SlotNextSaid : Prop := slotNextRow.holds Try.pinned (OpenSpec.ofChange slotNextSpec)

/-- ITS FALSE NEIGHBOUR: 'it returns false'. Refute it at one input. -/
def slotNextWrong : ChangeSpec := { name := "slotNext", fn := fun _ => fun
  | [d1, d2, d3] => { results := [.lit (.bool false)], args := [d1, d2, d3] }
  | _ => none }
def SlotNextWrongFalsely : Prop := slotNextRow.holds Try.pinned (OpenSpec.ofChange slotNextWrong)

/-- 'palimpsestlaw9.SlotAlike': WHATEVER THE INPUT: true; the input reads as it did. -/
def slotAlikeSpec : ChangeSpec := { name := "slotAlike", fn := fun _ => fun
  | [d1, d2] => { results := [.lit (.bool true)], args := [d1, d2] }
  | _ => none }
def slotAlikeRow : OpenClaim := { program := "ytpdikmkhkiplbaa", sum := "4faee3954b9c3e65bfc38713aebe9a4c2fcbab1957f1fcc27ea394312c6448f6", func := "palimpsest/palimpsestlaw9.SlotAlike", spec := "slotAlike", unfollowed := true, recurses := true, apart := false }
def SlotAlikeSaid : Prop := slotAlikeRow.holds Try.pinned (OpenSpec.ofChange slotAlikeSpec)

/-- ITS FALSE NEIGHBOUR: 'it returns false'. Refute it at one input. -/
def slotAlikeWrong : ChangeSpec := { name := "slotAlike", fn := fun _ => fun
  | [d1, d2] => { results := [.lit (.bool false)], args := [d1, d2] }
  | _ => none }
def SlotAlikeWrongFalsely : Prop := slotAlikeRow.holds Try.pinned (OpenSpec.ofChange slotAlikeWrong)

/-- 'palimpsestlaw9.SlotRoom': WHATEVER THE INPUT: true; the input reads as it did. -/
def slotRoomSpec : ChangeSpec := { name := "slotRoom", fn := fun _ => fun
  | [d1, d2] => { results := [.lit (.bool true)], args := [d1, d2] }
  | _ => none }
def slotRoomRow : OpenClaim := { program := "ytpdikmkhkiplbaa", sum := "4faee3954b9c3e65bfc38713aebe9a4c2fcbab1957f1fcc27ea394312c6448f6", func := "palimpsest/palimpsestlaw9.SlotRoom", spec := "slotRoom", unfollowed := true, recurses := true, apart := false }
def SlotRoomSaid : Prop := slotRoomRow.holds Try.pinned (OpenSpec.ofChange slotRoomSpec)

/-- ITS FALSE NEIGHBOUR: 'it returns false'. Refute it at one input. -/
def slotRoomWrong : ChangeSpec := { name := "slotRoom", fn := fun _ => fun
  | [d1, d2] => { results := [.lit (.bool false)], args := [d1, d2] }
  | _ => none }
def SlotRoomWrongFalsely : Prop := slotRoomRow.holds Try.pinned (OpenSpec.ofChange slotRoomWrong)

/-- 'palimpsestlaw9.SlotPlays': WHATEVER THE INPUT: true; the input reads as it did. -/
def slotPlaysSpec : ChangeSpec := { name := "slotPlays", fn := fun _ => fun
  | [d] => { results := [.lit (.bool true)], args := [d] }
  | _ => none }
def slotPlaysRow : OpenClaim := { program := "ytpdikmkhkiplbaa", sum := "4faee3954b9c3e65bfc38713aebe9a4c2fcbab1957f1fcc27ea394312c6448f6", func := "palimpsest/palimpsestlaw9.SlotPlays", spec := "slotPlays", unfollowed := true, recurses := true, apart := false }
def SlotPlaysSaid : Prop := slotPlaysRow.holds Try.pinned (OpenSpec.ofChange slotPlaysSpec)

/-- ITS FALSE NEIGHBOUR: 'it returns false'. Refute it at one input. -/
def slotPlaysWrong : ChangeSpec := { name := "slotPlays", fn := fun _ => fun
  | [d] => { results := [.lit (.bool false)], args := [d] }
  | _ => none }
def SlotPlaysWrongFalsely : Prop := slotPlaysRow.holds Try.pinned (OpenSpec.ofChange slotPlaysWrong)

/-- 'palimpsestlaw9.SlotReads': WHATEVER THE INPUT: true; the input reads as it did. -/
def slotReadsSpec : ChangeSpec := { name := "slotReads", fn := fun _ => fun
  | [d1, d2, d3] => { results := [.lit (.bool true)], args := [d1, d2, d3] }
  | _ => none }
def slotReadsRow : OpenClaim := { program := "ytpdikmkhkiplbaa", sum := "4faee3954b9c3e65bfc38713aebe9a4c2fcbab1957f1fcc27ea394312c6448f6", func := "palimpsest/palimpsestlaw9.SlotReads", spec := "slotReads", unfollowed := true, recurses := true, apart := false }
def SlotReadsSaid : Prop := slotReadsRow.holds Try.pinned (OpenSpec.ofChange slotReadsSpec)

/-- ITS FALSE NEIGHBOUR: 'it returns false'. Refute it at one input. -/
def slotReadsWrong : ChangeSpec := { name := "slotReads", fn := fun _ => fun
  | [d1, d2, d3] => { results := [.lit (.bool false)], args := [d1, d2, d3] }
  | _ => none }
def SlotReadsWrongFalsely : Prop := slotReadsRow.holds Try.pinned (OpenSpec.ofChange slotReadsWrong)

/- THE SECOND FORM. 'bulk': how many values and letters a reading holds, each counted each time it is reached (what is shared counts as often as it is met; a slice's spare places count too). A statement '..UptoSaid' is the law's where the arguments, and the package variables that the reading takes, are together of bulk at most 1048576: NARROWER than '..Said'. Prove '..Said' where nothing that the law and all that it calls make is longer than what came in: it says more and counts as full. Else prove '..UptoSaid'. A law counts once. -/
mutual
def uptoBulk {H : Type} : DataW H → Nat
  | .lit (.string bytes) => bytes.length + 1
  | .lit _ => 1
  | .nil => 1
  | .ptr d => uptoBulk d + 1
  | .slice elems spare => uptoBulkAll elems + uptoBulkAll spare + 1
  | .agg parts => uptoBulkAll parts + 1
  | .iface _ d => uptoBulk d + 1
  | .map entries => uptoBulkEntries entries + 1
  | .held _ => 1
def uptoBulkAll {H : Type} : List (DataW H) → Nat
  | [] => 0
  | d :: r => uptoBulk d + uptoBulkAll r
def uptoBulkEntries {H : Type} : List (Lit × DataW H) → Nat
  | [] => 0
  | x :: r => uptoBulkEntry x + uptoBulkEntries r
def uptoBulkEntry {H : Type} : Lit × DataW H → Nat
  | (.string bytes, d) => bytes.length + uptoBulk d + 1
  | (_, d) => uptoBulk d + 1
 end
def uptoSmall : (H : Type) → List (DataW H) → Bool := fun _ ds => decide (uptoBulkAll ds ≤ 1048576)
def OpenSpec.upto (s : _root_.Go.ChangeSpec) : _root_.Go.OpenSpec := { _root_.Go.OpenSpec.ofChange s with cond := some uptoSmall }

/-- 'palimpsestlaw9.SlotNext', WHERE WHAT IT READS IS OF BULK AT MOST 1048576: true; the input reads as it did. -/
def slotNextUptoRow : OpenClaim := { program := "ytpdikmkhkiplbaa", sum := "4faee3954b9c3e65bfc38713aebe9a4c2fcbab1957f1fcc27ea394312c6448f6", func := "palimpsest/palimpsestlaw9.SlotNext", spec := "slotNext", unfollowed := true, recurses := true, apart := false, narrowed := true }
def SlotNextUptoSaid : Prop := slotNextUptoRow.holds Try.pinned (OpenSpec.upto slotNextSpec)

/-- 'palimpsestlaw9.SlotAlike', WHERE WHAT IT READS IS OF BULK AT MOST 1048576: true; the input reads as it did. -/
def slotAlikeUptoRow : OpenClaim := { program := "ytpdikmkhkiplbaa", sum := "4faee3954b9c3e65bfc38713aebe9a4c2fcbab1957f1fcc27ea394312c6448f6", func := "palimpsest/palimpsestlaw9.SlotAlike", spec := "slotAlike", unfollowed := true, recurses := true, apart := false, narrowed := true }
def SlotAlikeUptoSaid : Prop := slotAlikeUptoRow.holds Try.pinned (OpenSpec.upto slotAlikeSpec)

/-- 'palimpsestlaw9.SlotRoom', WHERE WHAT IT READS IS OF BULK AT MOST 1048576: true; the input reads as it did. -/
def slotRoomUptoRow : OpenClaim := { program := "ytpdikmkhkiplbaa", sum := "4faee3954b9c3e65bfc38713aebe9a4c2fcbab1957f1fcc27ea394312c6448f6", func := "palimpsest/palimpsestlaw9.SlotRoom", spec := "slotRoom", unfollowed := true, recurses := true, apart := false, narrowed := true }
def SlotRoomUptoSaid : Prop := slotRoomUptoRow.holds Try.pinned (OpenSpec.upto slotRoomSpec)

/-- 'palimpsestlaw9.SlotPlays', WHERE WHAT IT READS IS OF BULK AT MOST 1048576: true; the input reads as it did. -/
def slotPlaysUptoRow : OpenClaim := { program := "ytpdikmkhkiplbaa", sum := "4faee3954b9c3e65bfc38713aebe9a4c2fcbab1957f1fcc27ea394312c6448f6", func := "palimpsest/palimpsestlaw9.SlotPlays", spec := "slotPlays", unfollowed := true, recurses := true, apart := false, narrowed := true }
def SlotPlaysUptoSaid : Prop := slotPlaysUptoRow.holds Try.pinned (OpenSpec.upto slotPlaysSpec)

/-- 'palimpsestlaw9.SlotReads', WHERE WHAT IT READS IS OF BULK AT MOST 1048576: true; the input reads as it did. -/
def slotReadsUptoRow : OpenClaim := { program := "ytpdikmkhkiplbaa", sum := "4faee3954b9c3e65bfc38713aebe9a4c2fcbab1957f1fcc27ea394312c6448f6", func := "palimpsest/palimpsestlaw9.SlotReads", spec := "slotReads", unfollowed := true, recurses := true, apart := false, narrowed := true }
def SlotReadsUptoSaid : Prop := slotReadsUptoRow.holds Try.pinned (OpenSpec.upto slotReadsSpec)

end Rows
end Go.Proofs.Ytpdikmkhkiplbaa
