/-
  No cell of these rows narrows 'for every input' (looked for: loops, veiled, ifaces, maps, wideKeys, modest, calm, conditions, laid).
  DERIVED. THE GIVEN ROWS OF THIS SEAT. 12 by the template 'for every input the law returns true; each argument reads behind the call as it read before'; 0 by the template 'total and deterministic' (their statements: YtienlhnbmobinaaTotals.lean).
  GIVEN WITH THE SEED: the statements are not yours to turn. If you find one false, say at which input.
  Laid BY PROGRAM, IN A SANDBOX (cutbox-rows.mjs): the forced cells as the released guide's own fill.sh prints them over the translation 890e1420ac03132f… (all of the seat's roots in one cut). By AI agents, Wed Nov 11 2026. No macro, syntax, notation, axiom, sorry.
-/
import Derived.Test.YtienlhnbmobinaaChecked
import GoSem.Claim
import GoSem.ClaimJoined
import GoSem.ClaimMapViews
import Derived.JoinedTies
import Derived.KernelRfl
namespace Go.Proofs.Ytienlhnbmobinaa
/- THE CELL 'sum', in the pinned program and in every row, IS THE sha256 OF THE DUMP (.gsa) THAT YtienlhnbmobinaaProg.lean LOADS. Nothing in Lean hashes anything: it is a label: what it is worth is what the hold of that sum in a sandbox is worth. -/
noncomputable def Try.pinned : Pinned := { name := "ytienlhnbmobinaa", sum := "890e1420ac03132f8e40c46834bd65d084b28174599115e229b9e755e18f2329", checked := Try.checked }
namespace Rows
def none {H : Type} : Left H := { results := [], args := [] }

/-- 'pentimentolaw11.OpApplies': WHATEVER THE INPUT: true; the input reads as it did. -/
def opAppliesSpec : ChangeSpec := { name := "opApplies", fn := fun _ => fun
  | [d1, d2, d3, d4] => { results := [.lit (.bool true)], args := [d1, d2, d3, d4] }
  | _ => none }
def opAppliesRow : OpenClaim := { program := "ytienlhnbmobinaa", sum := "890e1420ac03132f8e40c46834bd65d084b28174599115e229b9e755e18f2329", func := "pentimento/pentimentolaw11.OpApplies", spec := "opApplies", inPlace := ["slices.overlaps[string]"], unfollowed := true, recurses := true, apart := false }
def OpAppliesSaid : Prop := opAppliesRow.holds Try.pinned (OpenSpec.ofChange opAppliesSpec)

/-- ITS FALSE NEIGHBOUR: 'it returns false'. Refute it at one input. -/
def opAppliesWrong : ChangeSpec := { name := "opApplies", fn := fun _ => fun
  | [d1, d2, d3, d4] => { results := [.lit (.bool false)], args := [d1, d2, d3, d4] }
  | _ => none }
def OpAppliesWrongFalsely : Prop := opAppliesRow.holds Try.pinned (OpenSpec.ofChange opAppliesWrong)

/-- 'pentimentolaw16.SpaceGives': WHATEVER THE INPUT: true; the input reads as it did. -/
def spaceGivesSpec : ChangeSpec := { name := "spaceGives", fn := fun _ => fun
  | [d1, d2, d3] => { results := [.lit (.bool true)], args := [d1, d2, d3] }
  | _ => none }
def spaceGivesRow : OpenClaim := { program := "ytienlhnbmobinaa", sum := "890e1420ac03132f8e40c46834bd65d084b28174599115e229b9e755e18f2329", func := "pentimento/pentimentolaw16.SpaceGives", spec := "spaceGives", inPlace := ["slices.overlaps[string]"], unfollowed := true, recurses := true, apart := false }
def SpaceGivesSaid : Prop := spaceGivesRow.holds Try.pinned (OpenSpec.ofChange spaceGivesSpec)

/-- ITS FALSE NEIGHBOUR: 'it returns false'. Refute it at one input. -/
def spaceGivesWrong : ChangeSpec := { name := "spaceGives", fn := fun _ => fun
  | [d1, d2, d3] => { results := [.lit (.bool false)], args := [d1, d2, d3] }
  | _ => none }
def SpaceGivesWrongFalsely : Prop := spaceGivesRow.holds Try.pinned (OpenSpec.ofChange spaceGivesWrong)

/-- 'pentimentolaw16.SpaceTells': WHATEVER THE INPUT: true; the input reads as it did. -/
def spaceTellsSpec : ChangeSpec := { name := "spaceTells", fn := fun _ => fun
  | [d1, d2, d3, d4, d5, d6] => { results := [.lit (.bool true)], args := [d1, d2, d3, d4, d5, d6] }
  | _ => none }
def spaceTellsRow : OpenClaim := { program := "ytienlhnbmobinaa", sum := "890e1420ac03132f8e40c46834bd65d084b28174599115e229b9e755e18f2329", func := "pentimento/pentimentolaw16.SpaceTells", spec := "spaceTells", inPlace := ["slices.overlaps[string]"], unfollowed := true, recurses := true, apart := false }
def SpaceTellsSaid : Prop := spaceTellsRow.holds Try.pinned (OpenSpec.ofChange spaceTellsSpec)

/-- ITS FALSE NEIGHBOUR: 'it returns false'. Refute it at one input. -/
def spaceTellsWrong : ChangeSpec := { name := "spaceTells", fn := fun _ => fun
  | [d1, d2, d3, d4, d5, d6] => { results := [.lit (.bool false)], args := [d1, d2, d3, d4, d5, d6] }
  | _ => none }
def SpaceTellsWrongFalsely : Prop := spaceTellsRow.holds Try.pinned (OpenSpec.ofChange spaceTellsWrong)

/-- 'pentimentolaw16.SpaceCounts': WHATEVER THE INPUT: true; the input reads as it did. -/
def spaceCountsSpec : ChangeSpec := { name := "spaceCounts", fn := fun _ => fun
  | [d1, d2, d3] => { results := [.lit (.bool true)], args := [d1, d2, d3] }
  | _ => none }
def spaceCountsRow : OpenClaim := { program := "ytienlhnbmobinaa", sum := "890e1420ac03132f8e40c46834bd65d084b28174599115e229b9e755e18f2329", func := "pentimento/pentimentolaw16.SpaceCounts", spec := "spaceCounts", inPlace := ["slices.overlaps[string]"], unfollowed := true, recurses := true, apart := false }
def SpaceCountsSaid : Prop := spaceCountsRow.holds Try.pinned (OpenSpec.ofChange spaceCountsSpec)

/-- ITS FALSE NEIGHBOUR: 'it returns false'. Refute it at one input. -/
def spaceCountsWrong : ChangeSpec := { name := "spaceCounts", fn := fun _ => fun
  | [d1, d2, d3] => { results := [.lit (.bool false)], args := [d1, d2, d3] }
  | _ => none }
def SpaceCountsWrongFalsely : Prop := spaceCountsRow.holds Try.pinned (OpenSpec.ofChange spaceCountsWrong)

/-- 'pentimentolaw06.PageTells': WHATEVER THE INPUT: true; the input reads as it did. -/
def pageTellsSpec : ChangeSpec := { name := "pageTells", fn := fun _ => fun
  | [d1, d2] => { results := [.lit (.bool true)], args := [d1, d2] }
  | _ => none }
def pageTellsRow : OpenClaim := { program := "ytienlhnbmobinaa", sum := "890e1420ac03132f8e40c46834bd65d084b28174599115e229b9e755e18f2329", func := "pentimento/pentimentolaw06.PageTells", spec := "pageTells", inPlace := ["internal/abi.NoEscape", "internal/bytealg.MakeNoZero"], unfollowed := true, recurses := true, apart := false }
def PageTellsSaid : Prop := pageTellsRow.holds Try.pinned (OpenSpec.ofChange pageTellsSpec)

/-- ITS FALSE NEIGHBOUR: 'it returns false'. Refute it at one input. -/
def pageTellsWrong : ChangeSpec := { name := "pageTells", fn := fun _ => fun
  | [d1, d2] => { results := [.lit (.bool false)], args := [d1, d2] }
  | _ => none }
def PageTellsWrongFalsely : Prop := pageTellsRow.holds Try.pinned (OpenSpec.ofChange pageTellsWrong)

/-- 'pentimentolaw06.PageBack': WHATEVER THE INPUT: true; the input reads as it did. -/
def pageBackSpec : ChangeSpec := { name := "pageBack", fn := fun _ => fun
  | [d1, d2, d3, d4] => { results := [.lit (.bool true)], args := [d1, d2, d3, d4] }
  | _ => none }
def pageBackRow : OpenClaim := { program := "ytienlhnbmobinaa", sum := "890e1420ac03132f8e40c46834bd65d084b28174599115e229b9e755e18f2329", func := "pentimento/pentimentolaw06.PageBack", spec := "pageBack", inPlace := ["internal/abi.NoEscape", "internal/bytealg.MakeNoZero"], unfollowed := true, recurses := true, apart := false }
def PageBackSaid : Prop := pageBackRow.holds Try.pinned (OpenSpec.ofChange pageBackSpec)

/-- ITS FALSE NEIGHBOUR: 'it returns false'. Refute it at one input. -/
def pageBackWrong : ChangeSpec := { name := "pageBack", fn := fun _ => fun
  | [d1, d2, d3, d4] => { results := [.lit (.bool false)], args := [d1, d2, d3, d4] }
  | _ => none }
def PageBackWrongFalsely : Prop := pageBackRow.holds Try.pinned (OpenSpec.ofChange pageBackWrong)

/-- 'pentimentolaw06.PageRoom': WHATEVER THE INPUT: true; the input reads as it did. -/
def pageRoomSpec : ChangeSpec := { name := "pageRoom", fn := fun _ => fun
  | [d1, d2] => { results := [.lit (.bool true)], args := [d1, d2] }
  | _ => none }
def pageRoomRow : OpenClaim := { program := "ytienlhnbmobinaa", sum := "890e1420ac03132f8e40c46834bd65d084b28174599115e229b9e755e18f2329", func := "pentimento/pentimentolaw06.PageRoom", spec := "pageRoom", inPlace := ["internal/abi.NoEscape", "internal/bytealg.MakeNoZero"], unfollowed := true, recurses := true, apart := false }
def PageRoomSaid : Prop := pageRoomRow.holds Try.pinned (OpenSpec.ofChange pageRoomSpec)

/-- ITS FALSE NEIGHBOUR: 'it returns false'. Refute it at one input. -/
def pageRoomWrong : ChangeSpec := { name := "pageRoom", fn := fun _ => fun
  | [d1, d2] => { results := [.lit (.bool false)], args := [d1, d2] }
  | _ => none }
def PageRoomWrongFalsely : Prop := pageRoomRow.holds Try.pinned (OpenSpec.ofChange pageRoomWrong)

/-- 'pentimentolaw06.PageReads': WHATEVER THE INPUT: true; the input reads as it did. -/
def pageReadsSpec : ChangeSpec := { name := "pageReads", fn := fun _ => fun
  | [d1, d2, d3, d4] => { results := [.lit (.bool true)], args := [d1, d2, d3, d4] }
  | _ => none }
def pageReadsRow : OpenClaim := { program := "ytienlhnbmobinaa", sum := "890e1420ac03132f8e40c46834bd65d084b28174599115e229b9e755e18f2329", func := "pentimento/pentimentolaw06.PageReads", spec := "pageReads", inPlace := ["internal/abi.NoEscape", "internal/bytealg.MakeNoZero"], unfollowed := true, recurses := true, apart := false }
def PageReadsSaid : Prop := pageReadsRow.holds Try.pinned (OpenSpec.ofChange pageReadsSpec)

/-- ITS FALSE NEIGHBOUR: 'it returns false'. Refute it at one input. -/
def pageReadsWrong : ChangeSpec := { name := "pageReads", fn := fun _ => fun
  | [d1, d2, d3, d4] => { results := [.lit (.bool false)], args := [d1, d2, d3, d4] }
  | _ => none }
def PageReadsWrongFalsely : Prop := pageReadsRow.holds Try.pinned (OpenSpec.ofChange pageReadsWrong)

/-- 'pentimentolaw06.PageTorn': WHATEVER THE INPUT: true; the input reads as it did. -/
def pageTornSpec : ChangeSpec := { name := "pageTorn", fn := fun _ => fun
  | [d1, d2, d3] => { results := [.lit (.bool true)], args := [d1, d2, d3] }
  | _ => none }
def pageTornRow : OpenClaim := { program := "ytienlhnbmobinaa", sum := "890e1420ac03132f8e40c46834bd65d084b28174599115e229b9e755e18f2329", func := "pentimento/pentimentolaw06.PageTorn", spec := "pageTorn", inPlace := ["internal/abi.NoEscape", "internal/bytealg.MakeNoZero"], unfollowed := true, recurses := true, apart := false }
def PageTornSaid : Prop := pageTornRow.holds Try.pinned (OpenSpec.ofChange pageTornSpec)

/-- ITS FALSE NEIGHBOUR: 'it returns false'. Refute it at one input. -/
def pageTornWrong : ChangeSpec := { name := "pageTorn", fn := fun _ => fun
  | [d1, d2, d3] => { results := [.lit (.bool false)], args := [d1, d2, d3] }
  | _ => none }
def PageTornWrongFalsely : Prop := pageTornRow.holds Try.pinned (OpenSpec.ofChange pageTornWrong)

/-- 'pentimentolaw22.SegTells': WHATEVER THE INPUT: true; the input reads as it did. -/
def segTellsSpec : ChangeSpec := { name := "segTells", fn := fun _ => fun
  | [d1, d2, d3, d4, d5, d6, d7] => { results := [.lit (.bool true)], args := [d1, d2, d3, d4, d5, d6, d7] }
  | _ => none }
def segTellsRow : OpenClaim := { program := "ytienlhnbmobinaa", sum := "890e1420ac03132f8e40c46834bd65d084b28174599115e229b9e755e18f2329", func := "pentimento/pentimentolaw22.SegTells", spec := "segTells", inPlace := ["slices.overlaps[string]"], unfollowed := true, recurses := true, apart := false }
def SegTellsSaid : Prop := segTellsRow.holds Try.pinned (OpenSpec.ofChange segTellsSpec)

/-- ITS FALSE NEIGHBOUR: 'it returns false'. Refute it at one input. -/
def segTellsWrong : ChangeSpec := { name := "segTells", fn := fun _ => fun
  | [d1, d2, d3, d4, d5, d6, d7] => { results := [.lit (.bool false)], args := [d1, d2, d3, d4, d5, d6, d7] }
  | _ => none }
def SegTellsWrongFalsely : Prop := segTellsRow.holds Try.pinned (OpenSpec.ofChange segTellsWrong)

/-- 'pentimentolaw22.SegStays': WHATEVER THE INPUT: true; the input reads as it did. -/
def segStaysSpec : ChangeSpec := { name := "segStays", fn := fun _ => fun
  | [d] => { results := [.lit (.bool true)], args := [d] }
  | _ => none }
def segStaysRow : OpenClaim := { program := "ytienlhnbmobinaa", sum := "890e1420ac03132f8e40c46834bd65d084b28174599115e229b9e755e18f2329", func := "pentimento/pentimentolaw22.SegStays", spec := "segStays", inPlace := ["slices.overlaps[string]"], unfollowed := true, recurses := true, apart := false }
def SegStaysSaid : Prop := segStaysRow.holds Try.pinned (OpenSpec.ofChange segStaysSpec)

/-- ITS FALSE NEIGHBOUR: 'it returns false'. Refute it at one input. -/
def segStaysWrong : ChangeSpec := { name := "segStays", fn := fun _ => fun
  | [d] => { results := [.lit (.bool false)], args := [d] }
  | _ => none }
def SegStaysWrongFalsely : Prop := segStaysRow.holds Try.pinned (OpenSpec.ofChange segStaysWrong)

/-- 'pentimentolaw22.SegRoom': WHATEVER THE INPUT: true; the input reads as it did. -/
def segRoomSpec : ChangeSpec := { name := "segRoom", fn := fun _ => fun
  | [d1, d2] => { results := [.lit (.bool true)], args := [d1, d2] }
  | _ => none }
def segRoomRow : OpenClaim := { program := "ytienlhnbmobinaa", sum := "890e1420ac03132f8e40c46834bd65d084b28174599115e229b9e755e18f2329", func := "pentimento/pentimentolaw22.SegRoom", spec := "segRoom", inPlace := ["slices.overlaps[string]"], unfollowed := true, recurses := true, apart := false }
def SegRoomSaid : Prop := segRoomRow.holds Try.pinned (OpenSpec.ofChange segRoomSpec)

/-- ITS FALSE NEIGHBOUR: 'it returns false'. Refute it at one input. -/
def segRoomWrong : ChangeSpec := { name := "segRoom", fn := fun _ => fun
  | [d1, d2] => { results := [.lit (.bool false)], args := [d1, d2] }
  | _ => none }
def SegRoomWrongFalsely : Prop := segRoomRow.holds Try.pinned (OpenSpec.ofChange segRoomWrong)

/- THE SECOND FORM. 'bulk': how many values and letters a reading holds, each counted each time it is reached (what is shared counts as often as it is met; a slice's spare places count too). A statement '..UptoSaid' is the law's where the arguments, and the package variables that the reading takes, are together of bulk at most 1048576: NARROWER than '..Said'. Prove '..Said' where nothing that the law and all that it calls make is longer than what came in: it says more and counts as full. Else prove '..UptoSaid'. A law counts once. -/
mutual
def uptoBulk {H : Type} : DataW H → Nat
  | .lit (.string bytes) => bytes.length + 1
  | .lit _ => 1
  | .nil => 1
  | .ptr d => uptoBulk d + 1
  | .slice elems spare => uptoBulkAll elems + uptoBulkAll spare + 1
  | .agg parts => uptoBulkAll parts + 1
  | .iface _ d => uptoBulk d + 1
  | .map entries => uptoBulkEntries entries + 1
  | .held _ => 1
def uptoBulkAll {H : Type} : List (DataW H) → Nat
  | [] => 0
  | d :: r => uptoBulk d + uptoBulkAll r
def uptoBulkEntries {H : Type} : List (Lit × DataW H) → Nat
  | [] => 0
  | x :: r => uptoBulkEntry x + uptoBulkEntries r
def uptoBulkEntry {H : Type} : Lit × DataW H → Nat
  | (.string bytes, d) => bytes.length + uptoBulk d + 1
  | (_, d) => uptoBulk d + 1
 end
def uptoSmall : (H : Type) → List (DataW H) → Bool := fun _ ds => decide (uptoBulkAll ds ≤ 1048576)
def OpenSpec.upto (s : _root_.Go.ChangeSpec) : _root_.Go.OpenSpec := { _root_.Go.OpenSpec.ofChange s with cond := some uptoSmall }

/-- 'pentimentolaw11.OpApplies', WHERE WHAT IT READS IS OF BULK AT MOST 1048576: true; the input reads as it did. -/
def opAppliesUptoRow : OpenClaim := { program := "ytienlhnbmobinaa", sum := "890e1420ac03132f8e40c46834bd65d084b28174599115e229b9e755e18f2329", func := "pentimento/pentimentolaw11.OpApplies", spec := "opApplies", inPlace := ["slices.overlaps[string]"], unfollowed := true, recurses := true, apart := false, narrowed := true }
def OpAppliesUptoSaid : Prop := opAppliesUptoRow.holds Try.pinned (OpenSpec.upto opAppliesSpec)

/-- 'pentimentolaw16.SpaceGives', WHERE WHAT IT READS IS OF BULK AT MOST 1048576: true; the input reads as it did. -/
def spaceGivesUptoRow : OpenClaim := { program := "ytienlhnbmobinaa", sum := "890e1420ac03132f8e40c46834bd65d084b28174599115e229b9e755e18f2329", func := "pentimento/pentimentolaw16.SpaceGives", spec := "spaceGives", inPlace := ["slices.overlaps[string]"], unfollowed := true, recurses := true, apart := false, narrowed := true }
def SpaceGivesUptoSaid : Prop := spaceGivesUptoRow.holds Try.pinned (OpenSpec.upto spaceGivesSpec)

/-- 'pentimentolaw16.SpaceTells', WHERE WHAT IT READS IS OF BULK AT MOST 1048576: true; the input reads as it did. -/
def spaceTellsUptoRow : OpenClaim := { program := "ytienlhnbmobinaa", sum := "890e1420ac03132f8e40c46834bd65d084b28174599115e229b9e755e18f2329", func := "pentimento/pentimentolaw16.SpaceTells", spec := "spaceTells", inPlace := ["slices.overlaps[string]"], unfollowed := true, recurses := true, apart := false, narrowed := true }
def SpaceTellsUptoSaid : Prop := spaceTellsUptoRow.holds Try.pinned (OpenSpec.upto spaceTellsSpec)

/-- 'pentimentolaw16.SpaceCounts', WHERE WHAT IT READS IS OF BULK AT MOST 1048576: true; the input reads as it did. -/
def spaceCountsUptoRow : OpenClaim := { program := "ytienlhnbmobinaa", sum := "890e1420ac03132f8e40c46834bd65d084b28174599115e229b9e755e18f2329", func := "pentimento/pentimentolaw16.SpaceCounts", spec := "spaceCounts", inPlace := ["slices.overlaps[string]"], unfollowed := true, recurses := true, apart := false, narrowed := true }
def SpaceCountsUptoSaid : Prop := spaceCountsUptoRow.holds Try.pinned (OpenSpec.upto spaceCountsSpec)

/-- 'pentimentolaw06.PageTells', WHERE WHAT IT READS IS OF BULK AT MOST 1048576: true; the input reads as it did. -/
def pageTellsUptoRow : OpenClaim := { program := "ytienlhnbmobinaa", sum := "890e1420ac03132f8e40c46834bd65d084b28174599115e229b9e755e18f2329", func := "pentimento/pentimentolaw06.PageTells", spec := "pageTells", inPlace := ["internal/abi.NoEscape", "internal/bytealg.MakeNoZero"], unfollowed := true, recurses := true, apart := false, narrowed := true }
def PageTellsUptoSaid : Prop := pageTellsUptoRow.holds Try.pinned (OpenSpec.upto pageTellsSpec)

/-- 'pentimentolaw06.PageBack', WHERE WHAT IT READS IS OF BULK AT MOST 1048576: true; the input reads as it did. -/
def pageBackUptoRow : OpenClaim := { program := "ytienlhnbmobinaa", sum := "890e1420ac03132f8e40c46834bd65d084b28174599115e229b9e755e18f2329", func := "pentimento/pentimentolaw06.PageBack", spec := "pageBack", inPlace := ["internal/abi.NoEscape", "internal/bytealg.MakeNoZero"], unfollowed := true, recurses := true, apart := false, narrowed := true }
def PageBackUptoSaid : Prop := pageBackUptoRow.holds Try.pinned (OpenSpec.upto pageBackSpec)

/-- 'pentimentolaw06.PageRoom', WHERE WHAT IT READS IS OF BULK AT MOST 1048576: true; the input reads as it did. -/
def pageRoomUptoRow : OpenClaim := { program := "ytienlhnbmobinaa", sum := "890e1420ac03132f8e40c46834bd65d084b28174599115e229b9e755e18f2329", func := "pentimento/pentimentolaw06.PageRoom", spec := "pageRoom", inPlace := ["internal/abi.NoEscape", "internal/bytealg.MakeNoZero"], unfollowed := true, recurses := true, apart := false, narrowed := true }
def PageRoomUptoSaid : Prop := pageRoomUptoRow.holds Try.pinned (OpenSpec.upto pageRoomSpec)

/-- 'pentimentolaw06.PageReads', WHERE WHAT IT READS IS OF BULK AT MOST 1048576: true; the input reads as it did. -/
def pageReadsUptoRow : OpenClaim := { program := "ytienlhnbmobinaa", sum := "890e1420ac03132f8e40c46834bd65d084b28174599115e229b9e755e18f2329", func := "pentimento/pentimentolaw06.PageReads", spec := "pageReads", inPlace := ["internal/abi.NoEscape", "internal/bytealg.MakeNoZero"], unfollowed := true, recurses := true, apart := false, narrowed := true }
def PageReadsUptoSaid : Prop := pageReadsUptoRow.holds Try.pinned (OpenSpec.upto pageReadsSpec)

/-- 'pentimentolaw06.PageTorn', WHERE WHAT IT READS IS OF BULK AT MOST 1048576: true; the input reads as it did. -/
def pageTornUptoRow : OpenClaim := { program := "ytienlhnbmobinaa", sum := "890e1420ac03132f8e40c46834bd65d084b28174599115e229b9e755e18f2329", func := "pentimento/pentimentolaw06.PageTorn", spec := "pageTorn", inPlace := ["internal/abi.NoEscape", "internal/bytealg.MakeNoZero"], unfollowed := true, recurses := true, apart := false, narrowed := true }
def PageTornUptoSaid : Prop := pageTornUptoRow.holds Try.pinned (OpenSpec.upto pageTornSpec)

/-- 'pentimentolaw22.SegTells', WHERE WHAT IT READS IS OF BULK AT MOST 1048576: true; the input reads as it did. -/
def segTellsUptoRow : OpenClaim := { program := "ytienlhnbmobinaa", sum := "890e1420ac03132f8e40c46834bd65d084b28174599115e229b9e755e18f2329", func := "pentimento/pentimentolaw22.SegTells", spec := "segTells", inPlace := ["slices.overlaps[string]"], unfollowed := true, recurses := true, apart := false, narrowed := true }
def SegTellsUptoSaid : Prop := segTellsUptoRow.holds Try.pinned (OpenSpec.upto segTellsSpec)

/-- 'pentimentolaw22.SegStays', WHERE WHAT IT READS IS OF BULK AT MOST 1048576: true; the input reads as it did. -/
def segStaysUptoRow : OpenClaim := { program := "ytienlhnbmobinaa", sum := "890e1420ac03132f8e40c46834bd65d084b28174599115e229b9e755e18f2329", func := "pentimento/pentimentolaw22.SegStays", spec := "segStays", inPlace := ["slices.overlaps[string]"], unfollowed := true, recurses := true, apart := false, narrowed := true }
def SegStaysUptoSaid : Prop := segStaysUptoRow.holds Try.pinned (OpenSpec.upto segStaysSpec)

/-- 'pentimentolaw22.SegRoom', WHERE WHAT IT READS IS OF BULK AT MOST 1048576: true; the input reads as it did. -/
def segRoomUptoRow : OpenClaim := { program := "ytienlhnbmobinaa", sum := "890e1420ac03132f8e40c46834bd65d084b28174599115e229b9e755e18f2329", func := "pentimento/pentimentolaw22.SegRoom", spec := "segRoom", inPlace := ["slices.overlaps[string]"], unfollowed := true, recurses := true, apart := false, narrowed := true }
def SegRoomUptoSaid : Prop := segRoomUptoRow.holds Try.pinned (OpenSpec.upto segRoomSpec)

end Rows
end Go.Proofs.Ytienlhnbmobinaa
