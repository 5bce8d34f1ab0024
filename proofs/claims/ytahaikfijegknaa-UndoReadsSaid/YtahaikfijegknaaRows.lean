/-
  No cell of these rows narrows 'for every input' (looked for: loops, veiled, ifaces, maps, wideKeys, modest, calm, conditions, laid).
  DERIVED. THE GIVEN ROWS OF THIS SEAT. 10 by the template 'for every input the law returns true; each argument reads behind the call as it read before'; 0 by the template 'total and deterministic' (their statements: YtahaikfijegknaaTotals.lean).
  GIVEN WITH THE SEED: the statements are not yours to turn. If you find one false, say at which input.
  Laid BY PROGRAM, IN A SANDBOX (cutbox-rows.mjs): the forced cells as the released guide's own fill.sh prints them over the translation 3d9d99e3039af2eb… (all of the seat's roots in one cut). By AI agents, Wed Nov 11 2026. No macro, syntax, notation, axiom, sorry.
-/
import Derived.Test.YtahaikfijegknaaChecked
import GoSem.Claim
import GoSem.ClaimJoined
import GoSem.ClaimMapViews
import Derived.JoinedTies
import Derived.KernelRfl
namespace Go.Proofs.Ytahaikfijegknaa
/- THE CELL 'sum', in the pinned program and in every row, IS THE sha256 OF THE DUMP (.gsa) THAT YtahaikfijegknaaProg.lean LOADS. Nothing in Lean hashes anything: it is a label: what it is worth is what the hold of that sum in a sandbox is worth. -/
noncomputable def Try.pinned : Pinned := { name := "ytahaikfijegknaa", sum := "3d9d99e3039af2ebfad1264eeee30847ee1166d289b19318a0d3922fd86207bf", checked := Try.checked }
namespace Rows
def none {H : Type} : Left H := { results := [], args := [] }

/-- 'pentimentolaw03.KeyTells': WHATEVER THE INPUT: true; the input reads as it did. -/
def keyTellsSpec : ChangeSpec := { name := "keyTells", fn := fun _ => fun
  | [d1, d2, d3] => { results := [.lit (.bool true)], args := [d1, d2, d3] }
  | _ => none }
def keyTellsRow : OpenClaim := { program := "ytahaikfijegknaa", sum := "3d9d99e3039af2ebfad1264eeee30847ee1166d289b19318a0d3922fd86207bf", func := "pentimento/pentimentolaw03.KeyTells", spec := "keyTells", inPlace := ["internal/bytealg.abigen_runtime_cmpstring"], apart := false }
def KeyTellsSaid : Prop := keyTellsRow.holds Try.pinned (OpenSpec.ofChange keyTellsSpec)

/-- ITS FALSE NEIGHBOUR: 'it returns false'. Refute it at one input. -/
def keyTellsWrong : ChangeSpec := { name := "keyTells", fn := fun _ => fun
  | [d1, d2, d3] => { results := [.lit (.bool false)], args := [d1, d2, d3] }
  | _ => none }
def KeyTellsWrongFalsely : Prop := keyTellsRow.holds Try.pinned (OpenSpec.ofChange keyTellsWrong)

/-- 'pentimentolaw03.KeyOrder': WHATEVER THE INPUT: true; the input reads as it did. -/
def keyOrderSpec : ChangeSpec := { name := "keyOrder", fn := fun _ => fun
  | [d1, d2, d3, d4] => { results := [.lit (.bool true)], args := [d1, d2, d3, d4] }
  | _ => none }
def keyOrderRow : OpenClaim := { program := "ytahaikfijegknaa", sum := "3d9d99e3039af2ebfad1264eeee30847ee1166d289b19318a0d3922fd86207bf", func := "pentimento/pentimentolaw03.KeyOrder", spec := "keyOrder", inPlace := ["internal/bytealg.abigen_runtime_cmpstring"], apart := false }
def KeyOrderSaid : Prop := keyOrderRow.holds Try.pinned (OpenSpec.ofChange keyOrderSpec)

/-- ITS FALSE NEIGHBOUR: 'it returns false'. Refute it at one input. -/
def keyOrderWrong : ChangeSpec := { name := "keyOrder", fn := fun _ => fun
  | [d1, d2, d3, d4] => { results := [.lit (.bool false)], args := [d1, d2, d3, d4] }
  | _ => none }
def KeyOrderWrongFalsely : Prop := keyOrderRow.holds Try.pinned (OpenSpec.ofChange keyOrderWrong)

/-- 'pentimentolaw07.RowTells': WHATEVER THE INPUT: true; the input reads as it did. -/
def rowTellsSpec : ChangeSpec := { name := "rowTells", fn := fun _ => fun
  | [d] => { results := [.lit (.bool true)], args := [d] }
  | _ => none }
def rowTellsRow : OpenClaim := { program := "ytahaikfijegknaa", sum := "3d9d99e3039af2ebfad1264eeee30847ee1166d289b19318a0d3922fd86207bf", func := "pentimento/pentimentolaw07.RowTells", spec := "rowTells", inPlace := ["internal/abi.NoEscape", "internal/bytealg.MakeNoZero"], unfollowed := true, recurses := true, apart := false }
def RowTellsSaid : Prop := rowTellsRow.holds Try.pinned (OpenSpec.ofChange rowTellsSpec)

/-- ITS FALSE NEIGHBOUR: 'it returns false'. Refute it at one input. -/
def rowTellsWrong : ChangeSpec := { name := "rowTells", fn := fun _ => fun
  | [d] => { results := [.lit (.bool false)], args := [d] }
  | _ => none }
def RowTellsWrongFalsely : Prop := rowTellsRow.holds Try.pinned (OpenSpec.ofChange rowTellsWrong)

/-- 'pentimentolaw07.RowReads': WHATEVER THE INPUT: true; the input reads as it did. -/
def rowReadsSpec : ChangeSpec := { name := "rowReads", fn := fun _ => fun
  | [d] => { results := [.lit (.bool true)], args := [d] }
  | _ => none }
def rowReadsRow : OpenClaim := { program := "ytahaikfijegknaa", sum := "3d9d99e3039af2ebfad1264eeee30847ee1166d289b19318a0d3922fd86207bf", func := "pentimento/pentimentolaw07.RowReads", spec := "rowReads", inPlace := ["internal/abi.NoEscape", "internal/bytealg.MakeNoZero"], unfollowed := true, recurses := true, apart := false }
def RowReadsSaid : Prop := rowReadsRow.holds Try.pinned (OpenSpec.ofChange rowReadsSpec)

/-- ITS FALSE NEIGHBOUR: 'it returns false'. Refute it at one input. -/
def rowReadsWrong : ChangeSpec := { name := "rowReads", fn := fun _ => fun
  | [d] => { results := [.lit (.bool false)], args := [d] }
  | _ => none }
def RowReadsWrongFalsely : Prop := rowReadsRow.holds Try.pinned (OpenSpec.ofChange rowReadsWrong)

/-- 'pentimentolaw07.RowBack': WHATEVER THE INPUT: true; the input reads as it did. -/
def rowBackSpec : ChangeSpec := { name := "rowBack", fn := fun _ => fun
  | [d1, d2, d3] => { results := [.lit (.bool true)], args := [d1, d2, d3] }
  | _ => none }
def rowBackRow : OpenClaim := { program := "ytahaikfijegknaa", sum := "3d9d99e3039af2ebfad1264eeee30847ee1166d289b19318a0d3922fd86207bf", func := "pentimento/pentimentolaw07.RowBack", spec := "rowBack", inPlace := ["internal/abi.NoEscape", "internal/bytealg.MakeNoZero"], unfollowed := true, recurses := true, apart := false }
def RowBackSaid : Prop := rowBackRow.holds Try.pinned (OpenSpec.ofChange rowBackSpec)

/-- ITS FALSE NEIGHBOUR: 'it returns false'. Refute it at one input. -/
def rowBackWrong : ChangeSpec := { name := "rowBack", fn := fun _ => fun
  | [d1, d2, d3] => { results := [.lit (.bool false)], args := [d1, d2, d3] }
  | _ => none }
def RowBackWrongFalsely : Prop := rowBackRow.holds Try.pinned (OpenSpec.ofChange rowBackWrong)

/-- 'pentimentolaw07.RowPads': WHATEVER THE INPUT: true; the input reads as it did. -/
def rowPadsSpec : ChangeSpec := { name := "rowPads", fn := fun _ => fun
  | [d1, d2] => { results := [.lit (.bool true)], args := [d1, d2] }
  | _ => none }
def rowPadsRow : OpenClaim := { program := "ytahaikfijegknaa", sum := "3d9d99e3039af2ebfad1264eeee30847ee1166d289b19318a0d3922fd86207bf", func := "pentimento/pentimentolaw07.RowPads", spec := "rowPads", inPlace := ["internal/abi.NoEscape", "internal/bytealg.MakeNoZero"], unfollowed := true, recurses := true, apart := false }
def RowPadsSaid : Prop := rowPadsRow.holds Try.pinned (OpenSpec.ofChange rowPadsSpec)

/-- ITS FALSE NEIGHBOUR: 'it returns false'. Refute it at one input. -/
def rowPadsWrong : ChangeSpec := { name := "rowPads", fn := fun _ => fun
  | [d1, d2] => { results := [.lit (.bool false)], args := [d1, d2] }
  | _ => none }
def RowPadsWrongFalsely : Prop := rowPadsRow.holds Try.pinned (OpenSpec.ofChange rowPadsWrong)

/-- 'pentimentolaw07.RowEntries': WHATEVER THE INPUT: true; the input reads as it did. -/
def rowEntriesSpec : ChangeSpec := { name := "rowEntries", fn := fun _ => fun
  | [d1, d2] => { results := [.lit (.bool true)], args := [d1, d2] }
  | _ => none }
def rowEntriesRow : OpenClaim := { program := "ytahaikfijegknaa", sum := "3d9d99e3039af2ebfad1264eeee30847ee1166d289b19318a0d3922fd86207bf", func := "pentimento/pentimentolaw07.RowEntries", spec := "rowEntries", inPlace := ["internal/abi.NoEscape", "internal/bytealg.MakeNoZero"], unfollowed := true, recurses := true, apart := false }
def RowEntriesSaid : Prop := rowEntriesRow.holds Try.pinned (OpenSpec.ofChange rowEntriesSpec)

/-- ITS FALSE NEIGHBOUR: 'it returns false'. Refute it at one input. -/
def rowEntriesWrong : ChangeSpec := { name := "rowEntries", fn := fun _ => fun
  | [d1, d2] => { results := [.lit (.bool false)], args := [d1, d2] }
  | _ => none }
def RowEntriesWrongFalsely : Prop := rowEntriesRow.holds Try.pinned (OpenSpec.ofChange rowEntriesWrong)

/-- 'pentimentolaw21.UndoTells': WHATEVER THE INPUT: true; the input reads as it did. -/
def undoTellsSpec : ChangeSpec := { name := "undoTells", fn := fun _ => fun
  | [d] => { results := [.lit (.bool true)], args := [d] }
  | _ => none }
def undoTellsRow : OpenClaim := { program := "ytahaikfijegknaa", sum := "3d9d99e3039af2ebfad1264eeee30847ee1166d289b19318a0d3922fd86207bf", func := "pentimento/pentimentolaw21.UndoTells", spec := "undoTells", inPlace := ["internal/abi.NoEscape", "internal/bytealg.MakeNoZero"], unfollowed := true, recurses := true, apart := false }
def UndoTellsSaid : Prop := undoTellsRow.holds Try.pinned (OpenSpec.ofChange undoTellsSpec)

/-- ITS FALSE NEIGHBOUR: 'it returns false'. Refute it at one input. -/
def undoTellsWrong : ChangeSpec := { name := "undoTells", fn := fun _ => fun
  | [d] => { results := [.lit (.bool false)], args := [d] }
  | _ => none }
def UndoTellsWrongFalsely : Prop := undoTellsRow.holds Try.pinned (OpenSpec.ofChange undoTellsWrong)

/-- 'pentimentolaw21.UndoReads': WHATEVER THE INPUT: true; the input reads as it did. -/
def undoReadsSpec : ChangeSpec := { name := "undoReads", fn := fun _ => fun
  | [d1, d2, d3, d4, d5] => { results := [.lit (.bool true)], args := [d1, d2, d3, d4, d5] }
  | _ => none }
def undoReadsRow : OpenClaim := { program := "ytahaikfijegknaa", sum := "3d9d99e3039af2ebfad1264eeee30847ee1166d289b19318a0d3922fd86207bf", func := "pentimento/pentimentolaw21.UndoReads", spec := "undoReads", inPlace := ["internal/abi.NoEscape", "internal/bytealg.MakeNoZero"], unfollowed := true, recurses := true, apart := false }
def UndoReadsSaid : Prop := undoReadsRow.holds Try.pinned (OpenSpec.ofChange undoReadsSpec)

/-- ITS FALSE NEIGHBOUR: 'it returns false'. Refute it at one input. -/
def undoReadsWrong : ChangeSpec := { name := "undoReads", fn := fun _ => fun
  | [d1, d2, d3, d4, d5] => { results := [.lit (.bool false)], args := [d1, d2, d3, d4, d5] }
  | _ => none }
def UndoReadsWrongFalsely : Prop := undoReadsRow.holds Try.pinned (OpenSpec.ofChange undoReadsWrong)

/-- 'pentimentolaw21.UndoBack': WHATEVER THE INPUT: true; the input reads as it did. -/
def undoBackSpec : ChangeSpec := { name := "undoBack", fn := fun _ => fun
  | [d1, d2, d3] => { results := [.lit (.bool true)], args := [d1, d2, d3] }
  | _ => none }
def undoBackRow : OpenClaim := { program := "ytahaikfijegknaa", sum := "3d9d99e3039af2ebfad1264eeee30847ee1166d289b19318a0d3922fd86207bf", func := "pentimento/pentimentolaw21.UndoBack", spec := "undoBack", inPlace := ["internal/abi.NoEscape", "internal/bytealg.MakeNoZero"], unfollowed := true, recurses := true, apart := false }
def UndoBackSaid : Prop := undoBackRow.holds Try.pinned (OpenSpec.ofChange undoBackSpec)

/-- ITS FALSE NEIGHBOUR: 'it returns false'. Refute it at one input. -/
def undoBackWrong : ChangeSpec := { name := "undoBack", fn := fun _ => fun
  | [d1, d2, d3] => { results := [.lit (.bool false)], args := [d1, d2, d3] }
  | _ => none }
def UndoBackWrongFalsely : Prop := undoBackRow.holds Try.pinned (OpenSpec.ofChange undoBackWrong)

/- THE SECOND FORM. 'bulk': how many values and letters a reading holds, each counted each time it is reached (what is shared counts as often as it is met; a slice's spare places count too). A statement '..UptoSaid' is the law's where the arguments, and the package variables that the reading takes, are together of bulk at most 1048576: NARROWER than '..Said'. Prove '..Said' where nothing that the law and all that it calls make is longer than what came in: it says more and counts as full. Else prove '..UptoSaid'. A law counts once. -/
mutual
def uptoBulk {H : Type} : DataW H → Nat
  | .lit (.string bytes) => bytes.length + 1
  | .lit _ => 1
  | .nil => 1
  | .ptr d => uptoBulk d + 1
  | .slice elems spare => uptoBulkAll elems + uptoBulkAll spare + 1
  | .agg parts => uptoBulkAll parts + 1
  | .iface _ d => uptoBulk d + 1
  | .map entries => uptoBulkEntries entries + 1
  | .held _ => 1
def uptoBulkAll {H : Type} : List (DataW H) → Nat
  | [] => 0
  | d :: r => uptoBulk d + uptoBulkAll r
def uptoBulkEntries {H : Type} : List (Lit × DataW H) → Nat
  | [] => 0
  | x :: r => uptoBulkEntry x + uptoBulkEntries r
def uptoBulkEntry {H : Type} : Lit × DataW H → Nat
  | (.string bytes, d) => bytes.length + uptoBulk d + 1
  | (_, d) => uptoBulk d + 1
 end
def uptoSmall : (H : Type) → List (DataW H) → Bool := fun _ ds => decide (uptoBulkAll ds ≤ 1048576)
def OpenSpec.upto (s : _root_.Go.ChangeSpec) : _root_.Go.OpenSpec := { _root_.Go.OpenSpec.ofChange s with cond := some uptoSmall }

/-- 'pentimentolaw03.KeyTells', WHERE WHAT IT READS IS OF BULK AT MOST 1048576: true; the input reads as it did. -/
def keyTellsUptoRow : OpenClaim := { program := "ytahaikfijegknaa", sum := "3d9d99e3039af2ebfad1264eeee30847ee1166d289b19318a0d3922fd86207bf", func := "pentimento/pentimentolaw03.KeyTells", spec := "keyTells", inPlace := ["internal/bytealg.abigen_runtime_cmpstring"], apart := false, narrowed := true }
def KeyTellsUptoSaid : Prop := keyTellsUptoRow.holds Try.pinned (OpenSpec.upto keyTellsSpec)

/-- 'pentimentolaw03.KeyOrder', WHERE WHAT IT READS IS OF BULK AT MOST 1048576: true; the input reads as it did. -/
def keyOrderUptoRow : OpenClaim := { program := "ytahaikfijegknaa", sum := "3d9d99e3039af2ebfad1264eeee30847ee1166d289b19318a0d3922fd86207bf", func := "pentimento/pentimentolaw03.KeyOrder", spec := "keyOrder", inPlace := ["internal/bytealg.abigen_runtime_cmpstring"], apart := false, narrowed := true }
def KeyOrderUptoSaid : Prop := keyOrderUptoRow.holds Try.pinned (OpenSpec.upto keyOrderSpec)

/-- 'pentimentolaw07.RowTells', WHERE WHAT IT READS IS OF BULK AT MOST 1048576: true; the input reads as it did. -/
def rowTellsUptoRow : OpenClaim := { program := "ytahaikfijegknaa", sum := "3d9d99e3039af2ebfad1264eeee30847ee1166d289b19318a0d3922fd86207bf", func := "pentimento/pentimentolaw07.RowTells", spec := "rowTells", inPlace := ["internal/abi.NoEscape", "internal/bytealg.MakeNoZero"], unfollowed := true, recurses := true, apart := false, narrowed := true }
def RowTellsUptoSaid : Prop := rowTellsUptoRow.holds Try.pinned (OpenSpec.upto rowTellsSpec)

/-- 'pentimentolaw07.RowReads', WHERE WHAT IT READS IS OF BULK AT MOST 1048576: true; the input reads as it did. -/
def rowReadsUptoRow : OpenClaim := { program := "ytahaikfijegknaa", sum := "3d9d99e3039af2ebfad1264eeee30847ee1166d289b19318a0d3922fd86207bf", func := "pentimento/pentimentolaw07.RowReads", spec := "rowReads", inPlace := ["internal/abi.NoEscape", "internal/bytealg.MakeNoZero"], unfollowed := true, recurses := true, apart := false, narrowed := true }
def RowReadsUptoSaid : Prop := rowReadsUptoRow.holds Try.pinned (OpenSpec.upto rowReadsSpec)

/-- 'pentimentolaw07.RowBack', WHERE WHAT IT READS IS OF BULK AT MOST 1048576: true; the input reads as it did. -/
def rowBackUptoRow : OpenClaim := { program := "ytahaikfijegknaa", sum := "3d9d99e3039af2ebfad1264eeee30847ee1166d289b19318a0d3922fd86207bf", func := "pentimento/pentimentolaw07.RowBack", spec := "rowBack", inPlace := ["internal/abi.NoEscape", "internal/bytealg.MakeNoZero"], unfollowed := true, recurses := true, apart := false, narrowed := true }
def RowBackUptoSaid : Prop := rowBackUptoRow.holds Try.pinned (OpenSpec.upto rowBackSpec)

/-- 'pentimentolaw07.RowPads', WHERE WHAT IT READS IS OF BULK AT MOST 1048576: true; the input reads as it did. -/
def rowPadsUptoRow : OpenClaim := { program := "ytahaikfijegknaa", sum := "3d9d99e3039af2ebfad1264eeee30847ee1166d289b19318a0d3922fd86207bf", func := "pentimento/pentimentolaw07.RowPads", spec := "rowPads", inPlace := ["internal/abi.NoEscape", "internal/bytealg.MakeNoZero"], unfollowed := true, recurses := true, apart := false, narrowed := true }
def RowPadsUptoSaid : Prop := rowPadsUptoRow.holds Try.pinned (OpenSpec.upto rowPadsSpec)

/-- 'pentimentolaw07.RowEntries', WHERE WHAT IT READS IS OF BULK AT MOST 1048576: true; the input reads as it did. -/
def rowEntriesUptoRow : OpenClaim := { program := "ytahaikfijegknaa", sum := "3d9d99e3039af2ebfad1264eeee30847ee1166d289b19318a0d3922fd86207bf", func := "pentimento/pentimentolaw07.RowEntries", spec := "rowEntries", inPlace := ["internal/abi.NoEscape", "internal/bytealg.MakeNoZero"], unfollowed := true, recurses := true, apart := false, narrowed := true }
def RowEntriesUptoSaid : Prop := rowEntriesUptoRow.holds Try.pinned (OpenSpec.upto rowEntriesSpec)

/-- 'pentimentolaw21.UndoTells', WHERE WHAT IT READS IS OF BULK AT MOST 1048576: true; the input reads as it did. -/
def undoTellsUptoRow : OpenClaim := { program := "ytahaikfijegknaa", sum := "3d9d99e3039af2ebfad1264eeee30847ee1166d289b19318a0d3922fd86207bf", func := "pentimento/pentimentolaw21.UndoTells", spec := "undoTells", inPlace := ["internal/abi.NoEscape", "internal/bytealg.MakeNoZero"], unfollowed := true, recurses := true, apart := false, narrowed := true }
def UndoTellsUptoSaid : Prop := undoTellsUptoRow.holds Try.pinned (OpenSpec.upto undoTellsSpec)

/-- 'pentimentolaw21.UndoReads', WHERE WHAT IT READS IS OF BULK AT MOST 1048576: true; the input reads as it did. -/
def undoReadsUptoRow : OpenClaim := { program := "ytahaikfijegknaa", sum := "3d9d99e3039af2ebfad1264eeee30847ee1166d289b19318a0d3922fd86207bf", func := "pentimento/pentimentolaw21.UndoReads", spec := "undoReads", inPlace := ["internal/abi.NoEscape", "internal/bytealg.MakeNoZero"], unfollowed := true, recurses := true, apart := false, narrowed := true }
def UndoReadsUptoSaid : Prop := undoReadsUptoRow.holds Try.pinned (OpenSpec.upto undoReadsSpec)

/-- 'pentimentolaw21.UndoBack', WHERE WHAT IT READS IS OF BULK AT MOST 1048576: true; the input reads as it did. -/
def undoBackUptoRow : OpenClaim := { program := "ytahaikfijegknaa", sum := "3d9d99e3039af2ebfad1264eeee30847ee1166d289b19318a0d3922fd86207bf", func := "pentimento/pentimentolaw21.UndoBack", spec := "undoBack", inPlace := ["internal/abi.NoEscape", "internal/bytealg.MakeNoZero"], unfollowed := true, recurses := true, apart := false, narrowed := true }
def UndoBackUptoSaid : Prop := undoBackUptoRow.holds Try.pinned (OpenSpec.upto undoBackSpec)

end Rows
end Go.Proofs.Ytahaikfijegknaa
