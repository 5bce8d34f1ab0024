/-
  No cell of these rows narrows 'for every input' (looked for: loops, veiled, ifaces, maps, wideKeys, modest, calm, conditions, laid).
  DERIVED. THE GIVEN ROWS OF THIS SEAT. 10 by the template 'for every input the law returns true; each argument reads behind the call as it read before'; 0 by the template 'total and deterministic' (their statements: YtjcfnfpilladfaaTotals.lean).
  GIVEN WITH THE SEED: the statements are not yours to turn. If you find one false, say at which input.
  Laid BY PROGRAM, IN A SANDBOX (cutbox-rows.mjs): the forced cells as the released guide's own fill.sh prints them over the translation 4ad02ffbbb7cb141… (all of the seat's roots in one cut). By AI agents, Wed Nov 11 2026. No macro, syntax, notation, axiom, sorry.
-/
import Derived.Test.YtjcfnfpilladfaaChecked
import GoSem.Claim
import GoSem.ClaimJoined
import GoSem.ClaimMapViews
import Derived.JoinedTies
import Derived.KernelRfl
namespace Go.Proofs.Ytjcfnfpilladfaa
/- THE CELL 'sum', in the pinned program and in every row, IS THE sha256 OF THE DUMP (.gsa) THAT YtjcfnfpilladfaaProg.lean LOADS. Nothing in Lean hashes anything: it is a label: what it is worth is what the hold of that sum in a sandbox is worth. -/
noncomputable def Try.pinned : Pinned := { name := "ytjcfnfpilladfaa", sum := "4ad02ffbbb7cb14107433c31eee5f0600f9c63b5e286974ba77b9c8da708be9c", checked := Try.checked }
namespace Rows
def none {H : Type} : Left H := { results := [], args := [] }

/-- 'pentimentolaw11.OpTells': WHATEVER THE INPUT: true; the input reads as it did. -/
def opTellsSpec : ChangeSpec := { name := "opTells", fn := fun _ => fun
  | [d1, d2, d3, d4] => { results := [.lit (.bool true)], args := [d1, d2, d3, d4] }
  | _ => none }
def opTellsRow : OpenClaim := { program := "ytjcfnfpilladfaa", sum := "4ad02ffbbb7cb14107433c31eee5f0600f9c63b5e286974ba77b9c8da708be9c", func := "pentimento/pentimentolaw11.OpTells", spec := "opTells", inPlace := ["slices.overlaps[string]"], unfollowed := true, recurses := true, apart := false }
def OpTellsSaid : Prop := opTellsRow.holds Try.pinned (OpenSpec.ofChange opTellsSpec)

/-- ITS FALSE NEIGHBOUR: 'it returns false'. Refute it at one input. -/
def opTellsWrong : ChangeSpec := { name := "opTells", fn := fun _ => fun
  | [d1, d2, d3, d4] => { results := [.lit (.bool false)], args := [d1, d2, d3, d4] }
  | _ => none }
def OpTellsWrongFalsely : Prop := opTellsRow.holds Try.pinned (OpenSpec.ofChange opTellsWrong)

/-- 'pentimentolaw11.OpApplies': WHATEVER THE INPUT: true; the input reads as it did. -/
def opAppliesSpec : ChangeSpec := { name := "opApplies", fn := fun _ => fun
  | [d1, d2, d3, d4] => { results := [.lit (.bool true)], args := [d1, d2, d3, d4] }
  | _ => none }
def opAppliesRow : OpenClaim := { program := "ytjcfnfpilladfaa", sum := "4ad02ffbbb7cb14107433c31eee5f0600f9c63b5e286974ba77b9c8da708be9c", func := "pentimento/pentimentolaw11.OpApplies", spec := "opApplies", inPlace := ["slices.overlaps[string]"], unfollowed := true, recurses := true, apart := false }
def OpAppliesSaid : Prop := opAppliesRow.holds Try.pinned (OpenSpec.ofChange opAppliesSpec)

/-- ITS FALSE NEIGHBOUR: 'it returns false'. Refute it at one input. -/
def opAppliesWrong : ChangeSpec := { name := "opApplies", fn := fun _ => fun
  | [d1, d2, d3, d4] => { results := [.lit (.bool false)], args := [d1, d2, d3, d4] }
  | _ => none }
def OpAppliesWrongFalsely : Prop := opAppliesRow.holds Try.pinned (OpenSpec.ofChange opAppliesWrong)

/-- 'pentimentolaw11.OpRedo': WHATEVER THE INPUT: true; the input reads as it did. -/
def opRedoSpec : ChangeSpec := { name := "opRedo", fn := fun _ => fun
  | [d1, d2, d3] => { results := [.lit (.bool true)], args := [d1, d2, d3] }
  | _ => none }
def opRedoRow : OpenClaim := { program := "ytjcfnfpilladfaa", sum := "4ad02ffbbb7cb14107433c31eee5f0600f9c63b5e286974ba77b9c8da708be9c", func := "pentimento/pentimentolaw11.OpRedo", spec := "opRedo", inPlace := ["slices.overlaps[string]"], unfollowed := true, recurses := true, apart := false }
def OpRedoSaid : Prop := opRedoRow.holds Try.pinned (OpenSpec.ofChange opRedoSpec)

/-- ITS FALSE NEIGHBOUR: 'it returns false'. Refute it at one input. -/
def opRedoWrong : ChangeSpec := { name := "opRedo", fn := fun _ => fun
  | [d1, d2, d3] => { results := [.lit (.bool false)], args := [d1, d2, d3] }
  | _ => none }
def OpRedoWrongFalsely : Prop := opRedoRow.holds Try.pinned (OpenSpec.ofChange opRedoWrong)

/-- 'pentimentolaw11.OpMoves': WHATEVER THE INPUT: true; the input reads as it did. -/
def opMovesSpec : ChangeSpec := { name := "opMoves", fn := fun _ => fun
  | [d1, d2, d3] => { results := [.lit (.bool true)], args := [d1, d2, d3] }
  | _ => none }
def opMovesRow : OpenClaim := { program := "ytjcfnfpilladfaa", sum := "4ad02ffbbb7cb14107433c31eee5f0600f9c63b5e286974ba77b9c8da708be9c", func := "pentimento/pentimentolaw11.OpMoves", spec := "opMoves", inPlace := ["slices.overlaps[string]"], unfollowed := true, recurses := true, apart := false }
def OpMovesSaid : Prop := opMovesRow.holds Try.pinned (OpenSpec.ofChange opMovesSpec)

/-- ITS FALSE NEIGHBOUR: 'it returns false'. Refute it at one input. -/
def opMovesWrong : ChangeSpec := { name := "opMoves", fn := fun _ => fun
  | [d1, d2, d3] => { results := [.lit (.bool false)], args := [d1, d2, d3] }
  | _ => none }
def OpMovesWrongFalsely : Prop := opMovesRow.holds Try.pinned (OpenSpec.ofChange opMovesWrong)

/-- 'pentimentolaw08.NodeSplits': WHATEVER THE INPUT: true; the input reads as it did. -/
def nodeSplitsSpec : ChangeSpec := { name := "nodeSplits", fn := fun _ => fun
  | [d1, d2, d3, d4, d5] => { results := [.lit (.bool true)], args := [d1, d2, d3, d4, d5] }
  | _ => none }
def nodeSplitsRow : OpenClaim := { program := "ytjcfnfpilladfaa", sum := "4ad02ffbbb7cb14107433c31eee5f0600f9c63b5e286974ba77b9c8da708be9c", func := "pentimento/pentimentolaw08.NodeSplits", spec := "nodeSplits", inPlace := ["internal/abi.NoEscape", "internal/bytealg.MakeNoZero", "internal/bytealg.abigen_runtime_cmpstring", "slices.overlaps[string]"], unfollowed := true, recurses := true, apart := false }
def NodeSplitsSaid : Prop := nodeSplitsRow.holds Try.pinned (OpenSpec.ofChange nodeSplitsSpec)

/-- ITS FALSE NEIGHBOUR: 'it returns false'. Refute it at one input. -/
def nodeSplitsWrong : ChangeSpec := { name := "nodeSplits", fn := fun _ => fun
  | [d1, d2, d3, d4, d5] => { results := [.lit (.bool false)], args := [d1, d2, d3, d4, d5] }
  | _ => none }
def NodeSplitsWrongFalsely : Prop := nodeSplitsRow.holds Try.pinned (OpenSpec.ofChange nodeSplitsWrong)

/-- 'pentimentolaw08.NodeTells': WHATEVER THE INPUT: true; the input reads as it did. -/
def nodeTellsSpec : ChangeSpec := { name := "nodeTells", fn := fun _ => fun
  | [d1, d2, d3] => { results := [.lit (.bool true)], args := [d1, d2, d3] }
  | _ => none }
def nodeTellsRow : OpenClaim := { program := "ytjcfnfpilladfaa", sum := "4ad02ffbbb7cb14107433c31eee5f0600f9c63b5e286974ba77b9c8da708be9c", func := "pentimento/pentimentolaw08.NodeTells", spec := "nodeTells", inPlace := ["internal/abi.NoEscape", "internal/bytealg.MakeNoZero", "internal/bytealg.abigen_runtime_cmpstring", "slices.overlaps[string]"], unfollowed := true, recurses := true, apart := false }
def NodeTellsSaid : Prop := nodeTellsRow.holds Try.pinned (OpenSpec.ofChange nodeTellsSpec)

/-- ITS FALSE NEIGHBOUR: 'it returns false'. Refute it at one input. -/
def nodeTellsWrong : ChangeSpec := { name := "nodeTells", fn := fun _ => fun
  | [d1, d2, d3] => { results := [.lit (.bool false)], args := [d1, d2, d3] }
  | _ => none }
def NodeTellsWrongFalsely : Prop := nodeTellsRow.holds Try.pinned (OpenSpec.ofChange nodeTellsWrong)

/-- 'pentimentolaw08.NodeParts': WHATEVER THE INPUT: true; the input reads as it did. -/
def nodePartsSpec : ChangeSpec := { name := "nodeParts", fn := fun _ => fun
  | [d1, d2, d3] => { results := [.lit (.bool true)], args := [d1, d2, d3] }
  | _ => none }
def nodePartsRow : OpenClaim := { program := "ytjcfnfpilladfaa", sum := "4ad02ffbbb7cb14107433c31eee5f0600f9c63b5e286974ba77b9c8da708be9c", func := "pentimento/pentimentolaw08.NodeParts", spec := "nodeParts", inPlace := ["internal/abi.NoEscape", "internal/bytealg.MakeNoZero", "internal/bytealg.abigen_runtime_cmpstring", "slices.overlaps[string]"], unfollowed := true, recurses := true, apart := false }
def NodePartsSaid : Prop := nodePartsRow.holds Try.pinned (OpenSpec.ofChange nodePartsSpec)

/-- ITS FALSE NEIGHBOUR: 'it returns false'. Refute it at one input. -/
def nodePartsWrong : ChangeSpec := { name := "nodeParts", fn := fun _ => fun
  | [d1, d2, d3] => { results := [.lit (.bool false)], args := [d1, d2, d3] }
  | _ => none }
def NodePartsWrongFalsely : Prop := nodePartsRow.holds Try.pinned (OpenSpec.ofChange nodePartsWrong)

/-- 'pentimentolaw08.NodeFinds': WHATEVER THE INPUT: true; the input reads as it did. -/
def nodeFindsSpec : ChangeSpec := { name := "nodeFinds", fn := fun _ => fun
  | [d1, d2] => { results := [.lit (.bool true)], args := [d1, d2] }
  | _ => none }
def nodeFindsRow : OpenClaim := { program := "ytjcfnfpilladfaa", sum := "4ad02ffbbb7cb14107433c31eee5f0600f9c63b5e286974ba77b9c8da708be9c", func := "pentimento/pentimentolaw08.NodeFinds", spec := "nodeFinds", inPlace := ["internal/abi.NoEscape", "internal/bytealg.MakeNoZero", "internal/bytealg.abigen_runtime_cmpstring", "slices.overlaps[string]"], unfollowed := true, recurses := true, apart := false }
def NodeFindsSaid : Prop := nodeFindsRow.holds Try.pinned (OpenSpec.ofChange nodeFindsSpec)

/-- ITS FALSE NEIGHBOUR: 'it returns false'. Refute it at one input. -/
def nodeFindsWrong : ChangeSpec := { name := "nodeFinds", fn := fun _ => fun
  | [d1, d2] => { results := [.lit (.bool false)], args := [d1, d2] }
  | _ => none }
def NodeFindsWrongFalsely : Prop := nodeFindsRow.holds Try.pinned (OpenSpec.ofChange nodeFindsWrong)

/-- 'pentimentolaw08.NodeWith': WHATEVER THE INPUT: true; the input reads as it did. -/
def nodeWithSpec : ChangeSpec := { name := "nodeWith", fn := fun _ => fun
  | [d1, d2, d3, d4] => { results := [.lit (.bool true)], args := [d1, d2, d3, d4] }
  | _ => none }
def nodeWithRow : OpenClaim := { program := "ytjcfnfpilladfaa", sum := "4ad02ffbbb7cb14107433c31eee5f0600f9c63b5e286974ba77b9c8da708be9c", func := "pentimento/pentimentolaw08.NodeWith", spec := "nodeWith", inPlace := ["internal/abi.NoEscape", "internal/bytealg.MakeNoZero", "internal/bytealg.abigen_runtime_cmpstring", "slices.overlaps[string]"], unfollowed := true, recurses := true, apart := false }
def NodeWithSaid : Prop := nodeWithRow.holds Try.pinned (OpenSpec.ofChange nodeWithSpec)

/-- ITS FALSE NEIGHBOUR: 'it returns false'. Refute it at one input. -/
def nodeWithWrong : ChangeSpec := { name := "nodeWith", fn := fun _ => fun
  | [d1, d2, d3, d4] => { results := [.lit (.bool false)], args := [d1, d2, d3, d4] }
  | _ => none }
def NodeWithWrongFalsely : Prop := nodeWithRow.holds Try.pinned (OpenSpec.ofChange nodeWithWrong)

/-- 'pentimentolaw11.OpBack': WHATEVER THE INPUT: true; the input reads as it did. -/
def opBackSpec : ChangeSpec := { name := "opBack", fn := fun _ => fun
  | [d1, d2] => { results := [.lit (.bool true)], args := [d1, d2] }
  | _ => none }
def opBackRow : OpenClaim := { program := "ytjcfnfpilladfaa", sum := "4ad02ffbbb7cb14107433c31eee5f0600f9c63b5e286974ba77b9c8da708be9c", func := "pentimento/pentimentolaw11.OpBack", spec := "opBack", inPlace := ["slices.overlaps[string]"], unfollowed := true, recurses := true, apart := false }
def OpBackSaid : Prop := opBackRow.holds Try.pinned (OpenSpec.ofChange opBackSpec)

/-- ITS FALSE NEIGHBOUR: 'it returns false'. Refute it at one input. -/
def opBackWrong : ChangeSpec := { name := "opBack", fn := fun _ => fun
  | [d1, d2] => { results := [.lit (.bool false)], args := [d1, d2] }
  | _ => none }
def OpBackWrongFalsely : Prop := opBackRow.holds Try.pinned (OpenSpec.ofChange opBackWrong)

/- THE SECOND FORM. 'bulk': how many values and letters a reading holds, each counted each time it is reached (what is shared counts as often as it is met; a slice's spare places count too). A statement '..UptoSaid' is the law's where the arguments, and the package variables that the reading takes, are together of bulk at most 1048576: NARROWER than '..Said'. Prove '..Said' where nothing that the law and all that it calls make is longer than what came in: it says more and counts as full. Else prove '..UptoSaid'. A law counts once. -/
mutual
def uptoBulk {H : Type} : DataW H → Nat
  | .lit (.string bytes) => bytes.length + 1
  | .lit _ => 1
  | .nil => 1
  | .ptr d => uptoBulk d + 1
  | .slice elems spare => uptoBulkAll elems + uptoBulkAll spare + 1
  | .agg parts => uptoBulkAll parts + 1
  | .iface _ d => uptoBulk d + 1
  | .map entries => uptoBulkEntries entries + 1
  | .held _ => 1
def uptoBulkAll {H : Type} : List (DataW H) → Nat
  | [] => 0
  | d :: r => uptoBulk d + uptoBulkAll r
def uptoBulkEntries {H : Type} : List (Lit × DataW H) → Nat
  | [] => 0
  | x :: r => uptoBulkEntry x + uptoBulkEntries r
def uptoBulkEntry {H : Type} : Lit × DataW H → Nat
  | (.string bytes, d) => bytes.length + uptoBulk d + 1
  | (_, d) => uptoBulk d + 1
 end
def uptoSmall : (H : Type) → List (DataW H) → Bool := fun _ ds => decide (uptoBulkAll ds ≤ 1048576)
def OpenSpec.upto (s : _root_.Go.ChangeSpec) : _root_.Go.OpenSpec := { _root_.Go.OpenSpec.ofChange s with cond := some uptoSmall }

/-- 'pentimentolaw11.OpTells', WHERE WHAT IT READS IS OF BULK AT MOST 1048576: true; the input reads as it did. -/
def opTellsUptoRow : OpenClaim := { program := "ytjcfnfpilladfaa", sum := "4ad02ffbbb7cb14107433c31eee5f0600f9c63b5e286974ba77b9c8da708be9c", func := "pentimento/pentimentolaw11.OpTells", spec := "opTells", inPlace := ["slices.overlaps[string]"], unfollowed := true, recurses := true, apart := false, narrowed := true }
def OpTellsUptoSaid : Prop := opTellsUptoRow.holds Try.pinned (OpenSpec.upto opTellsSpec)

/-- 'pentimentolaw11.OpApplies', WHERE WHAT IT READS IS OF BULK AT MOST 1048576: true; the input reads as it did. -/
def opAppliesUptoRow : OpenClaim := { program := "ytjcfnfpilladfaa", sum := "4ad02ffbbb7cb14107433c31eee5f0600f9c63b5e286974ba77b9c8da708be9c", func := "pentimento/pentimentolaw11.OpApplies", spec := "opApplies", inPlace := ["slices.overlaps[string]"], unfollowed := true, recurses := true, apart := false, narrowed := true }
def OpAppliesUptoSaid : Prop := opAppliesUptoRow.holds Try.pinned (OpenSpec.upto opAppliesSpec)

/-- 'pentimentolaw11.OpRedo', WHERE WHAT IT READS IS OF BULK AT MOST 1048576: true; the input reads as it did. -/
def opRedoUptoRow : OpenClaim := { program := "ytjcfnfpilladfaa", sum := "4ad02ffbbb7cb14107433c31eee5f0600f9c63b5e286974ba77b9c8da708be9c", func := "pentimento/pentimentolaw11.OpRedo", spec := "opRedo", inPlace := ["slices.overlaps[string]"], unfollowed := true, recurses := true, apart := false, narrowed := true }
def OpRedoUptoSaid : Prop := opRedoUptoRow.holds Try.pinned (OpenSpec.upto opRedoSpec)

/-- 'pentimentolaw11.OpMoves', WHERE WHAT IT READS IS OF BULK AT MOST 1048576: true; the input reads as it did. -/
def opMovesUptoRow : OpenClaim := { program := "ytjcfnfpilladfaa", sum := "4ad02ffbbb7cb14107433c31eee5f0600f9c63b5e286974ba77b9c8da708be9c", func := "pentimento/pentimentolaw11.OpMoves", spec := "opMoves", inPlace := ["slices.overlaps[string]"], unfollowed := true, recurses := true, apart := false, narrowed := true }
def OpMovesUptoSaid : Prop := opMovesUptoRow.holds Try.pinned (OpenSpec.upto opMovesSpec)

/-- 'pentimentolaw08.NodeSplits', WHERE WHAT IT READS IS OF BULK AT MOST 1048576: true; the input reads as it did. -/
def nodeSplitsUptoRow : OpenClaim := { program := "ytjcfnfpilladfaa", sum := "4ad02ffbbb7cb14107433c31eee5f0600f9c63b5e286974ba77b9c8da708be9c", func := "pentimento/pentimentolaw08.NodeSplits", spec := "nodeSplits", inPlace := ["internal/abi.NoEscape", "internal/bytealg.MakeNoZero", "internal/bytealg.abigen_runtime_cmpstring", "slices.overlaps[string]"], unfollowed := true, recurses := true, apart := false, narrowed := true }
def NodeSplitsUptoSaid : Prop := nodeSplitsUptoRow.holds Try.pinned (OpenSpec.upto nodeSplitsSpec)

/-- 'pentimentolaw08.NodeTells', WHERE WHAT IT READS IS OF BULK AT MOST 1048576: true; the input reads as it did. -/
def nodeTellsUptoRow : OpenClaim := { program := "ytjcfnfpilladfaa", sum := "4ad02ffbbb7cb14107433c31eee5f0600f9c63b5e286974ba77b9c8da708be9c", func := "pentimento/pentimentolaw08.NodeTells", spec := "nodeTells", inPlace := ["internal/abi.NoEscape", "internal/bytealg.MakeNoZero", "internal/bytealg.abigen_runtime_cmpstring", "slices.overlaps[string]"], unfollowed := true, recurses := true, apart := false, narrowed := true }
def NodeTellsUptoSaid : Prop := nodeTellsUptoRow.holds Try.pinned (OpenSpec.upto nodeTellsSpec)

/-- 'pentimentolaw08.NodeParts', WHERE WHAT IT READS IS OF BULK AT MOST 1048576: true; the input reads as it did. -/
def nodePartsUptoRow : OpenClaim := { program := "ytjcfnfpilladfaa", sum := "4ad02ffbbb7cb14107433c31eee5f0600f9c63b5e286974ba77b9c8da708be9c", func := "pentimento/pentimentolaw08.NodeParts", spec := "nodeParts", inPlace := ["internal/abi.NoEscape", "internal/bytealg.MakeNoZero", "internal/bytealg.abigen_runtime_cmpstring", "slices.overlaps[string]"], unfollowed := true, recurses := true, apart := false, narrowed := true }
def NodePartsUptoSaid : Prop := nodePartsUptoRow.holds Try.pinned (OpenSpec.upto nodePartsSpec)

/-- 'pentimentolaw08.NodeFinds', WHERE WHAT IT READS IS OF BULK AT MOST 1048576: true; the input reads as it did. -/
def nodeFindsUptoRow : OpenClaim := { program := "ytjcfnfpilladfaa", sum := "4ad02ffbbb7cb14107433c31eee5f0600f9c63b5e286974ba77b9c8da708be9c", func := "pentimento/pentimentolaw08.NodeFinds", spec := "nodeFinds", inPlace := ["internal/abi.NoEscape", "internal/bytealg.MakeNoZero", "internal/bytealg.abigen_runtime_cmpstring", "slices.overlaps[string]"], unfollowed := true, recurses := true, apart := false, narrowed := true }
def NodeFindsUptoSaid : Prop := nodeFindsUptoRow.holds Try.pinned (OpenSpec.upto nodeFindsSpec)

/-- 'pentimentolaw08.NodeWith', WHERE WHAT IT READS IS OF BULK AT MOST 1048576: true; the input reads as it did. -/
def nodeWithUptoRow : OpenClaim := { program := "ytjcfnfpilladfaa", sum := "4ad02ffbbb7cb14107433c31eee5f0600f9c63b5e286974ba77b9c8da708be9c", func := "pentimento/pentimentolaw08.NodeWith", spec := "nodeWith", inPlace := ["internal/abi.NoEscape", "internal/bytealg.MakeNoZero", "internal/bytealg.abigen_runtime_cmpstring", "slices.overlaps[string]"], unfollowed := true, recurses := true, apart := false, narrowed := true }
def NodeWithUptoSaid : Prop := nodeWithUptoRow.holds Try.pinned (OpenSpec.upto nodeWithSpec)

/-- 'pentimentolaw11.OpBack', WHERE WHAT IT READS IS OF BULK AT MOST 1048576: true; the input reads as it did. -/
def opBackUptoRow : OpenClaim := { program := "ytjcfnfpilladfaa", sum := "4ad02ffbbb7cb14107433c31eee5f0600f9c63b5e286974ba77b9c8da708be9c", func := "pentimento/pentimentolaw11.OpBack", spec := "opBack", inPlace := ["slices.overlaps[string]"], unfollowed := true, recurses := true, apart := false, narrowed := true }
def OpBackUptoSaid : Prop := opBackUptoRow.holds Try.pinned (OpenSpec.upto opBackSpec)

end Rows
end Go.Proofs.Ytjcfnfpilladfaa
