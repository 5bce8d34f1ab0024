/-
  No cell of these rows narrows 'for every input' (looked for: loops, veiled, ifaces, maps, wideKeys, modest, calm, conditions, laid).
  DERIVED. THE GIVEN ROWS OF THIS SEAT. 11 by the template 'for every input the law returns true; each argument reads behind the call as it read before'; 0 by the template 'total and deterministic' (their statements: YtoeaakadpillnaaTotals.lean).
  GIVEN WITH THE SEED: the statements are not yours to turn. If you find one false, say at which input.
  Laid BY PROGRAM, IN A SANDBOX (cutbox-rows.mjs): the forced cells as the released guide's own fill.sh prints them over the translation 782f55130055cc46… (all of the seat's roots in one cut). By AI agents, Wed Nov 11 2026. No macro, syntax, notation, axiom, sorry.
-/
import Derived.Test.YtoeaakadpillnaaChecked
import GoSem.Claim
import GoSem.ClaimJoined
import GoSem.ClaimMapViews
import Derived.JoinedTies
import Derived.KernelRfl
namespace Go.Proofs.Ytoeaakadpillnaa
/- THE CELL 'sum', in the pinned program and in every row, IS THE sha256 OF THE DUMP (.gsa) THAT YtoeaakadpillnaaProg.lean LOADS. Nothing in Lean hashes anything: it is a label: what it is worth is what the hold of that sum in a sandbox is worth. -/
noncomputable def Try.pinned : Pinned := { name := "ytoeaakadpillnaa", sum := "782f55130055cc46abff4af81149661228130471fba954a245d29cdd77624548", checked := Try.checked }
namespace Rows
def none {H : Type} : Left H := { results := [], args := [] }

/-- 'pentimentolaw25.LockOne': WHATEVER THE INPUT: true; the input reads as it did. -/
def lockOneSpec : ChangeSpec := { name := "lockOne", fn := fun _ => fun
  | [d] => { results := [.lit (.bool true)], args := [d] }
  | _ => none }
def lockOneRow : OpenClaim := { program := "ytoeaakadpillnaa", sum := "782f55130055cc46abff4af81149661228130471fba954a245d29cdd77624548", func := "pentimento/pentimentolaw25.LockOne", spec := "lockOne", recurses := true, apart := false }
def LockOneSaid : Prop := lockOneRow.holds Try.pinned (OpenSpec.ofChange lockOneSpec)

/-- ITS FALSE NEIGHBOUR: 'it returns false'. Refute it at one input. -/
def lockOneWrong : ChangeSpec := { name := "lockOne", fn := fun _ => fun
  | [d] => { results := [.lit (.bool false)], args := [d] }
  | _ => none }
def LockOneWrongFalsely : Prop := lockOneRow.holds Try.pinned (OpenSpec.ofChange lockOneWrong)

/-- 'pentimentolaw25.LockPlays': WHATEVER THE INPUT: true; the input reads as it did. -/
def lockPlaysSpec : ChangeSpec := { name := "lockPlays", fn := fun _ => fun
  | [d1, d2, d3] => { results := [.lit (.bool true)], args := [d1, d2, d3] }
  | _ => none }
def lockPlaysRow : OpenClaim := { program := "ytoeaakadpillnaa", sum := "782f55130055cc46abff4af81149661228130471fba954a245d29cdd77624548", func := "pentimento/pentimentolaw25.LockPlays", spec := "lockPlays", recurses := true, apart := false }
def LockPlaysSaid : Prop := lockPlaysRow.holds Try.pinned (OpenSpec.ofChange lockPlaysSpec)

/-- ITS FALSE NEIGHBOUR: 'it returns false'. Refute it at one input. -/
def lockPlaysWrong : ChangeSpec := { name := "lockPlays", fn := fun _ => fun
  | [d1, d2, d3] => { results := [.lit (.bool false)], args := [d1, d2, d3] }
  | _ => none }
def LockPlaysWrongFalsely : Prop := lockPlaysRow.holds Try.pinned (OpenSpec.ofChange lockPlaysWrong)

/-- 'pentimentolaw25.LockFull': WHATEVER THE INPUT: true; the input reads as it did. -/
def lockFullSpec : ChangeSpec := { name := "lockFull", fn := fun _ => fun
  | [d] => { results := [.lit (.bool true)], args := [d] }
  | _ => none }
def lockFullRow : OpenClaim := { program := "ytoeaakadpillnaa", sum := "782f55130055cc46abff4af81149661228130471fba954a245d29cdd77624548", func := "pentimento/pentimentolaw25.LockFull", spec := "lockFull", recurses := true, apart := false }
def LockFullSaid : Prop := lockFullRow.holds Try.pinned (OpenSpec.ofChange lockFullSpec)

/-- ITS FALSE NEIGHBOUR: 'it returns false'. Refute it at one input. -/
def lockFullWrong : ChangeSpec := { name := "lockFull", fn := fun _ => fun
  | [d] => { results := [.lit (.bool false)], args := [d] }
  | _ => none }
def LockFullWrongFalsely : Prop := lockFullRow.holds Try.pinned (OpenSpec.ofChange lockFullWrong)

/-- 'pentimentolaw24.ViewTells': WHATEVER THE INPUT: true; the input reads as it did. -/
def viewTellsSpec : ChangeSpec := { name := "viewTells", fn := fun _ => fun
  | [d1, d2, d3, d4, d5] => { results := [.lit (.bool true)], args := [d1, d2, d3, d4, d5] }
  | _ => none }
def viewTellsRow : OpenClaim := { program := "ytoeaakadpillnaa", sum := "782f55130055cc46abff4af81149661228130471fba954a245d29cdd77624548", func := "pentimento/pentimentolaw24.ViewTells", spec := "viewTells", unfollowed := true, recurses := true, apart := false }
def ViewTellsSaid : Prop := viewTellsRow.holds Try.pinned (OpenSpec.ofChange viewTellsSpec)

/-- ITS FALSE NEIGHBOUR: 'it returns false'. Refute it at one input. -/
def viewTellsWrong : ChangeSpec := { name := "viewTells", fn := fun _ => fun
  | [d1, d2, d3, d4, d5] => { results := [.lit (.bool false)], args := [d1, d2, d3, d4, d5] }
  | _ => none }
def ViewTellsWrongFalsely : Prop := viewTellsRow.holds Try.pinned (OpenSpec.ofChange viewTellsWrong)

/-- 'pentimentolaw23.TxnOnce': WHATEVER THE INPUT: true; the input reads as it did. -/
def txnOnceSpec : ChangeSpec := { name := "txnOnce", fn := fun _ => fun
  | [d] => { results := [.lit (.bool true)], args := [d] }
  | _ => none }
def txnOnceRow : OpenClaim := { program := "ytoeaakadpillnaa", sum := "782f55130055cc46abff4af81149661228130471fba954a245d29cdd77624548", func := "pentimento/pentimentolaw23.TxnOnce", spec := "txnOnce", unfollowed := true, recurses := true, apart := false }
def TxnOnceSaid : Prop := txnOnceRow.holds Try.pinned (OpenSpec.ofChange txnOnceSpec)

/-- ITS FALSE NEIGHBOUR: 'it returns false'. Refute it at one input. -/
def txnOnceWrong : ChangeSpec := { name := "txnOnce", fn := fun _ => fun
  | [d] => { results := [.lit (.bool false)], args := [d] }
  | _ => none }
def TxnOnceWrongFalsely : Prop := txnOnceRow.holds Try.pinned (OpenSpec.ofChange txnOnceWrong)

/-- 'pentimentolaw23.TxnRaise': WHATEVER THE INPUT: true; the input reads as it did. -/
def txnRaiseSpec : ChangeSpec := { name := "txnRaise", fn := fun _ => fun
  | [d] => { results := [.lit (.bool true)], args := [d] }
  | _ => none }
def txnRaiseRow : OpenClaim := { program := "ytoeaakadpillnaa", sum := "782f55130055cc46abff4af81149661228130471fba954a245d29cdd77624548", func := "pentimento/pentimentolaw23.TxnRaise", spec := "txnRaise", unfollowed := true, recurses := true, apart := false }
def TxnRaiseSaid : Prop := txnRaiseRow.holds Try.pinned (OpenSpec.ofChange txnRaiseSpec)

/-- ITS FALSE NEIGHBOUR: 'it returns false'. Refute it at one input. -/
def txnRaiseWrong : ChangeSpec := { name := "txnRaise", fn := fun _ => fun
  | [d] => { results := [.lit (.bool false)], args := [d] }
  | _ => none }
def TxnRaiseWrongFalsely : Prop := txnRaiseRow.holds Try.pinned (OpenSpec.ofChange txnRaiseWrong)

/-- 'pentimentolaw24.ViewStays': WHATEVER THE INPUT: true; the input reads as it did. -/
def viewStaysSpec : ChangeSpec := { name := "viewStays", fn := fun _ => fun
  | [d1, d2, d3] => { results := [.lit (.bool true)], args := [d1, d2, d3] }
  | _ => none }
def viewStaysRow : OpenClaim := { program := "ytoeaakadpillnaa", sum := "782f55130055cc46abff4af81149661228130471fba954a245d29cdd77624548", func := "pentimento/pentimentolaw24.ViewStays", spec := "viewStays", unfollowed := true, recurses := true, apart := false }
def ViewStaysSaid : Prop := viewStaysRow.holds Try.pinned (OpenSpec.ofChange viewStaysSpec)

/-- ITS FALSE NEIGHBOUR: 'it returns false'. Refute it at one input. -/
def viewStaysWrong : ChangeSpec := { name := "viewStays", fn := fun _ => fun
  | [d1, d2, d3] => { results := [.lit (.bool false)], args := [d1, d2, d3] }
  | _ => none }
def ViewStaysWrongFalsely : Prop := viewStaysRow.holds Try.pinned (OpenSpec.ofChange viewStaysWrong)

/-- 'pentimentolaw24.ViewPlays': WHATEVER THE INPUT: true; the input reads as it did. -/
def viewPlaysSpec : ChangeSpec := { name := "viewPlays", fn := fun _ => fun
  | [d1, d2, d3] => { results := [.lit (.bool true)], args := [d1, d2, d3] }
  | _ => none }
def viewPlaysRow : OpenClaim := { program := "ytoeaakadpillnaa", sum := "782f55130055cc46abff4af81149661228130471fba954a245d29cdd77624548", func := "pentimento/pentimentolaw24.ViewPlays", spec := "viewPlays", unfollowed := true, recurses := true, apart := false }
def ViewPlaysSaid : Prop := viewPlaysRow.holds Try.pinned (OpenSpec.ofChange viewPlaysSpec)

/-- ITS FALSE NEIGHBOUR: 'it returns false'. Refute it at one input. -/
def viewPlaysWrong : ChangeSpec := { name := "viewPlays", fn := fun _ => fun
  | [d1, d2, d3] => { results := [.lit (.bool false)], args := [d1, d2, d3] }
  | _ => none }
def ViewPlaysWrongFalsely : Prop := viewPlaysRow.holds Try.pinned (OpenSpec.ofChange viewPlaysWrong)

/-- 'pentimentolaw24.ViewAll': WHATEVER THE INPUT: true; the input reads as it did. -/
def viewAllSpec : ChangeSpec := { name := "viewAll", fn := fun _ => fun
  | [d1, d2, d3] => { results := [.lit (.bool true)], args := [d1, d2, d3] }
  | _ => none }
def viewAllRow : OpenClaim := { program := "ytoeaakadpillnaa", sum := "782f55130055cc46abff4af81149661228130471fba954a245d29cdd77624548", func := "pentimento/pentimentolaw24.ViewAll", spec := "viewAll", unfollowed := true, recurses := true, apart := false }
def ViewAllSaid : Prop := viewAllRow.holds Try.pinned (OpenSpec.ofChange viewAllSpec)

/-- ITS FALSE NEIGHBOUR: 'it returns false'. Refute it at one input. -/
def viewAllWrong : ChangeSpec := { name := "viewAll", fn := fun _ => fun
  | [d1, d2, d3] => { results := [.lit (.bool false)], args := [d1, d2, d3] }
  | _ => none }
def ViewAllWrongFalsely : Prop := viewAllRow.holds Try.pinned (OpenSpec.ofChange viewAllWrong)

/-- 'pentimentolaw23.TxnPlays': WHATEVER THE INPUT: true; the input reads as it did. -/
def txnPlaysSpec : ChangeSpec := { name := "txnPlays", fn := fun _ => fun
  | [d1, d2, d3, d4] => { results := [.lit (.bool true)], args := [d1, d2, d3, d4] }
  | _ => none }
def txnPlaysRow : OpenClaim := { program := "ytoeaakadpillnaa", sum := "782f55130055cc46abff4af81149661228130471fba954a245d29cdd77624548", func := "pentimento/pentimentolaw23.TxnPlays", spec := "txnPlays", unfollowed := true, recurses := true, apart := false }
def TxnPlaysSaid : Prop := txnPlaysRow.holds Try.pinned (OpenSpec.ofChange txnPlaysSpec)

/-- ITS FALSE NEIGHBOUR: 'it returns false'. Refute it at one input. -/
def txnPlaysWrong : ChangeSpec := { name := "txnPlays", fn := fun _ => fun
  | [d1, d2, d3, d4] => { results := [.lit (.bool false)], args := [d1, d2, d3, d4] }
  | _ => none }
def TxnPlaysWrongFalsely : Prop := txnPlaysRow.holds Try.pinned (OpenSpec.ofChange txnPlaysWrong)

/-- 'pentimentolaw23.TxnNil': WHATEVER THE INPUT: true; the input reads as it did. -/
def txnNilSpec : ChangeSpec := { name := "txnNil", fn := fun _ => fun
  | [d1, d2] => { results := [.lit (.bool true)], args := [d1, d2] }
  | _ => none }
def txnNilRow : OpenClaim := { program := "ytoeaakadpillnaa", sum := "782f55130055cc46abff4af81149661228130471fba954a245d29cdd77624548", func := "pentimento/pentimentolaw23.TxnNil", spec := "txnNil", unfollowed := true, recurses := true, apart := false }
def TxnNilSaid : Prop := txnNilRow.holds Try.pinned (OpenSpec.ofChange txnNilSpec)

/-- ITS FALSE NEIGHBOUR: 'it returns false'. Refute it at one input. -/
def txnNilWrong : ChangeSpec := { name := "txnNil", fn := fun _ => fun
  | [d1, d2] => { results := [.lit (.bool false)], args := [d1, d2] }
  | _ => none }
def TxnNilWrongFalsely : Prop := txnNilRow.holds Try.pinned (OpenSpec.ofChange txnNilWrong)

/- THE SECOND FORM. 'bulk': how many values and letters a reading holds, each counted each time it is reached (what is shared counts as often as it is met; a slice's spare places count too). A statement '..UptoSaid' is the law's where the arguments, and the package variables that the reading takes, are together of bulk at most 1048576: NARROWER than '..Said'. Prove '..Said' where nothing that the law and all that it calls make is longer than what came in: it says more and counts as full. Else prove '..UptoSaid'. A law counts once. -/
mutual
def uptoBulk {H : Type} : DataW H → Nat
  | .lit (.string bytes) => bytes.length + 1
  | .lit _ => 1
  | .nil => 1
  | .ptr d => uptoBulk d + 1
  | .slice elems spare => uptoBulkAll elems + uptoBulkAll spare + 1
  | .agg parts => uptoBulkAll parts + 1
  | .iface _ d => uptoBulk d + 1
  | .map entries => uptoBulkEntries entries + 1
  | .held _ => 1
def uptoBulkAll {H : Type} : List (DataW H) → Nat
  | [] => 0
  | d :: r => uptoBulk d + uptoBulkAll r
def uptoBulkEntries {H : Type} : List (Lit × DataW H) → Nat
  | [] => 0
  | x :: r => uptoBulkEntry x + uptoBulkEntries r
def uptoBulkEntry {H : Type} : Lit × DataW H → Nat
  | (.string bytes, d) => bytes.length + uptoBulk d + 1
  | (_, d) => uptoBulk d + 1
 end
def uptoSmall : (H : Type) → List (DataW H) → Bool := fun _ ds => decide (uptoBulkAll ds ≤ 1048576)
def OpenSpec.upto (s : _root_.Go.ChangeSpec) : _root_.Go.OpenSpec := { _root_.Go.OpenSpec.ofChange s with cond := some uptoSmall }

/-- 'pentimentolaw25.LockOne', WHERE WHAT IT READS IS OF BULK AT MOST 1048576: true; the input reads as it did. -/
def lockOneUptoRow : OpenClaim := { program := "ytoeaakadpillnaa", sum := "782f55130055cc46abff4af81149661228130471fba954a245d29cdd77624548", func := "pentimento/pentimentolaw25.LockOne", spec := "lockOne", recurses := true, apart := false, narrowed := true }
def LockOneUptoSaid : Prop := lockOneUptoRow.holds Try.pinned (OpenSpec.upto lockOneSpec)

/-- 'pentimentolaw25.LockPlays', WHERE WHAT IT READS IS OF BULK AT MOST 1048576: true; the input reads as it did. -/
def lockPlaysUptoRow : OpenClaim := { program := "ytoeaakadpillnaa", sum := "782f55130055cc46abff4af81149661228130471fba954a245d29cdd77624548", func := "pentimento/pentimentolaw25.LockPlays", spec := "lockPlays", recurses := true, apart := false, narrowed := true }
def LockPlaysUptoSaid : Prop := lockPlaysUptoRow.holds Try.pinned (OpenSpec.upto lockPlaysSpec)

/-- 'pentimentolaw25.LockFull', WHERE WHAT IT READS IS OF BULK AT MOST 1048576: true; the input reads as it did. -/
def lockFullUptoRow : OpenClaim := { program := "ytoeaakadpillnaa", sum := "782f55130055cc46abff4af81149661228130471fba954a245d29cdd77624548", func := "pentimento/pentimentolaw25.LockFull", spec := "lockFull", recurses := true, apart := false, narrowed := true }
def LockFullUptoSaid : Prop := lockFullUptoRow.holds Try.pinned (OpenSpec.upto lockFullSpec)

/-- 'pentimentolaw24.ViewTells', WHERE WHAT IT READS IS OF BULK AT MOST 1048576: true; the input reads as it did. -/
def viewTellsUptoRow : OpenClaim := { program := "ytoeaakadpillnaa", sum := "782f55130055cc46abff4af81149661228130471fba954a245d29cdd77624548", func := "pentimento/pentimentolaw24.ViewTells", spec := "viewTells", unfollowed := true, recurses := true, apart := false, narrowed := true }
def ViewTellsUptoSaid : Prop := viewTellsUptoRow.holds Try.pinned (OpenSpec.upto viewTellsSpec)

/-- 'pentimentolaw23.TxnOnce', WHERE WHAT IT READS IS OF BULK AT MOST 1048576: true; the input reads as it did. -/
def txnOnceUptoRow : OpenClaim := { program := "ytoeaakadpillnaa", sum := "782f55130055cc46abff4af81149661228130471fba954a245d29cdd77624548", func := "pentimento/pentimentolaw23.TxnOnce", spec := "txnOnce", unfollowed := true, recurses := true, apart := false, narrowed := true }
def TxnOnceUptoSaid : Prop := txnOnceUptoRow.holds Try.pinned (OpenSpec.upto txnOnceSpec)

/-- 'pentimentolaw23.TxnRaise', WHERE WHAT IT READS IS OF BULK AT MOST 1048576: true; the input reads as it did. -/
def txnRaiseUptoRow : OpenClaim := { program := "ytoeaakadpillnaa", sum := "782f55130055cc46abff4af81149661228130471fba954a245d29cdd77624548", func := "pentimento/pentimentolaw23.TxnRaise", spec := "txnRaise", unfollowed := true, recurses := true, apart := false, narrowed := true }
def TxnRaiseUptoSaid : Prop := txnRaiseUptoRow.holds Try.pinned (OpenSpec.upto txnRaiseSpec)

/-- 'pentimentolaw24.ViewStays', WHERE WHAT IT READS IS OF BULK AT MOST 1048576: true; the input reads as it did. -/
def viewStaysUptoRow : OpenClaim := { program := "ytoeaakadpillnaa", sum := "782f55130055cc46abff4af81149661228130471fba954a245d29cdd77624548", func := "pentimento/pentimentolaw24.ViewStays", spec := "viewStays", unfollowed := true, recurses := true, apart := false, narrowed := true }
def ViewStaysUptoSaid : Prop := viewStaysUptoRow.holds Try.pinned (OpenSpec.upto viewStaysSpec)

/-- 'pentimentolaw24.ViewPlays', WHERE WHAT IT READS IS OF BULK AT MOST 1048576: true; the input reads as it did. -/
def viewPlaysUptoRow : OpenClaim := { program := "ytoeaakadpillnaa", sum := "782f55130055cc46abff4af81149661228130471fba954a245d29cdd77624548", func := "pentimento/pentimentolaw24.ViewPlays", spec := "viewPlays", unfollowed := true, recurses := true, apart := false, narrowed := true }
def ViewPlaysUptoSaid : Prop := viewPlaysUptoRow.holds Try.pinned (OpenSpec.upto viewPlaysSpec)

/-- 'pentimentolaw24.ViewAll', WHERE WHAT IT READS IS OF BULK AT MOST 1048576: true; the input reads as it did. -/
def viewAllUptoRow : OpenClaim := { program := "ytoeaakadpillnaa", sum := "782f55130055cc46abff4af81149661228130471fba954a245d29cdd77624548", func := "pentimento/pentimentolaw24.ViewAll", spec := "viewAll", unfollowed := true, recurses := true, apart := false, narrowed := true }
def ViewAllUptoSaid : Prop := viewAllUptoRow.holds Try.pinned (OpenSpec.upto viewAllSpec)

/-- 'pentimentolaw23.TxnPlays', WHERE WHAT IT READS IS OF BULK AT MOST 1048576: true; the input reads as it did. -/
def txnPlaysUptoRow : OpenClaim := { program := "ytoeaakadpillnaa", sum := "782f55130055cc46abff4af81149661228130471fba954a245d29cdd77624548", func := "pentimento/pentimentolaw23.TxnPlays", spec := "txnPlays", unfollowed := true, recurses := true, apart := false, narrowed := true }
def TxnPlaysUptoSaid : Prop := txnPlaysUptoRow.holds Try.pinned (OpenSpec.upto txnPlaysSpec)

/-- 'pentimentolaw23.TxnNil', WHERE WHAT IT READS IS OF BULK AT MOST 1048576: true; the input reads as it did. -/
def txnNilUptoRow : OpenClaim := { program := "ytoeaakadpillnaa", sum := "782f55130055cc46abff4af81149661228130471fba954a245d29cdd77624548", func := "pentimento/pentimentolaw23.TxnNil", spec := "txnNil", unfollowed := true, recurses := true, apart := false, narrowed := true }
def TxnNilUptoSaid : Prop := txnNilUptoRow.holds Try.pinned (OpenSpec.upto txnNilSpec)

end Rows
end Go.Proofs.Ytoeaakadpillnaa
