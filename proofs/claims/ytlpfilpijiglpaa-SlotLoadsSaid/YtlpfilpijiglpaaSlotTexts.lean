/- An area's texts: text, Bytes, Get -/
import Derived.Test.YtlpfilpijiglpaaRows
import Derived.Test.YtlpfilpijiglpaaSlotReads
import Derived.WalkKit
import Derived.WalkLawsBesides
import Derived.WalkSpells
import Derived.LoopTactic
import Derived.WalkMore
import Derived.LoopN
import Derived.Laws.BitsAllLaws
import Derived.Laws.IdiomStrings
import Derived.BigQuiet
import Derived.Deep.QuietTactic
import Derived.Deep.DeepCutAuto
import Derived.Deep.RegionHeld3
import Derived.Deep.DrawnRows
import Derived.Lib.Hide
import Derived.Outline
import Derived.Deep.DeepMust
import Derived.Handy
namespace Go.Proofs.Ytlpfilpijiglpaa
open Go.RowKit
set_option linter.unusedVariables false
set_option linter.unusedSimpArgs false

theorem strOfNums_bytes : ∀ zs : List UInt8, strOfNums (zs.map fun b => (b.toNat : Int)) = ⟨zs.toArray⟩
  | [] => rfl
  | z :: zs => by
    apply bytes_ext
    rw [List.map_cons, strOfNums_cons, strOfNums_bytes zs]
    simp
/-- 'string(b[off:off+n])' of a row of bytes. -/
theorem upon_part {P : Program} {o : Oper} {a : Act} {K : Act → World → Prop} {Q : Exit → Act → World → Prop} {W : World} {g off n cap : Nat} {zs : List UInt8} (h : RowAt W g zs) (hn : off + n ≤ zs.length) (src e dst : TypeId) (hs : P.underlying src = some (.slice e)) (he : P.underlying e = some (.int .u8)) (hd : P.underlying dst = some .string)
    (hk : K (a.put o.dst (.string ⟨((zs.drop off).take n).toArray⟩)) W) :
    o.upon P a K Q (((convert src dst (.slice (some ⟨g, off, none⟩) n cap)).run P W).andThen fun v w' => .ok (.value v) w') := by
  rw [run_convert_bytes_arg _ src e hs he g off n cap (((zs.drop off).take n).map fun b => (b.toNat : Int)) (by simp; omega) (fun i hi => by
    rw [h.cell (off + i) (by omega)]
    have : i < ((zs.drop off).take n).length := by simp; omega
    simp [List.getD_eq_getElem?_getD, show i < n by omega, List.getElem?_eq_getElem (show off + i < zs.length by omega)]) dst hd, strOfNums_bytes]
  simp only [Result.andThen]
  rw [Oper.upon_value]
  exact hk

set_option maxHeartbeats 1000000 in
set_option maxRecDepth 100000 in
theorem slotText_any (gA gB cap k : Nat) (l : List UInt8) (w : World) (hk : 8 + 4 * k ≤ l.length) (hl : l.length ≤ 100000) (hc : l.length ≤ cap) (ht : u2 l (4 + 4 * k) + u2 l (6 + 4 * k) ≤ l.length) (h : AreaIn w gA gB cap l) :
    Calls Try.prog 51 #[.pointer (some ⟨gA, 0, none⟩), .int .i64 k] w fun e w' => e = .returned (.string ⟨(txt l k).toArray⟩) ∧ Below w.heap.size w w' := by
  have E := Lib.hid fun W hW => slotEntry_any gA gB cap k l W hk hl hW
  have H := Lib.hid h
  have hT : Hid (txt l k = (l.drop (u2 l (4 + 4 * k))).take (u2 l (6 + 4 * k))) := rfl
  clear h
  generalize u2 l (4 + 4 * k) = f at *
  generalize u2 l (6 + 4 * k) = n at *
  have e1 : IntKind.i64.wrap ((f : Int) + (n : Int)) = (f : Int) + (n : Int) := IntWalk.i64_in _ ⟨by omega, by omega⟩
  have s1 : (f : Int) ≤ (f : Int) + (n : Int) := by omega
  have s2 : (0 : Int) ≤ (f : Int) + (n : Int) := by omega
  have s3 : (f : Int) + (n : Int) ≤ (cap : Int) := by omega
  go_enter Try.func51, Try.ntmps51
  go_wp2_with fail
  refine (E.out _ H.out).mono ?_
  rintro e w1 ⟨rfl, h1⟩
  have c0 := blk_cell (H.out.below h1).own 0
  go_wp2_with fail
  · have hn0 : n = 0 := by omega
    subst hn0
    refine upon_part (off := 0) (H.out.below h1).row (by omega) 38 5 9 Try.underlying38 Try.underlying5 Try.underlying9 ?_
    go_wp2_with fail
    go_ret
    exact ⟨ret_str1 (by rw [hT.out]; simp), h1⟩
  · refine upon_part (H.out.below h1).row ht 38 5 9 Try.underlying38 Try.underlying5 Try.underlying9 ?_
    go_wp2_with fail
    go_ret
    exact ⟨ret_str1 (by rw [hT.out]), h1⟩

set_option maxHeartbeats 1000000 in
set_option maxRecDepth 100000 in
theorem slotBytes_any (gA gB cap : Nat) (l : List UInt8) (w : World) (hk : 4 ≤ l.length) (hl : l.length ≤ 100000) (h : AreaIn w gA gB cap l) :
    Calls Try.prog 24 #[.pointer (some ⟨gA, 0, none⟩)] w fun e w' => e = .returned (.string ⟨l.toArray⟩) ∧ Below w.heap.size w w' := by
  have N := Lib.hid fun W hW => slotNone_any gA gB cap l W (by omega) hW
  have H := Lib.hid h
  clear h
  go_enter Try.func24, Try.ntmps24
  go_wp2_with fail
  refine (N.out _ H.out).mono ?_
  rintro e w1 ⟨rfl, h1⟩
  have c0 := blk_cell (H.out.below h1).own 0
  go_wp2_with fail
  refine upon_str (H.out.below h1).row rfl 38 5 9 Try.underlying38 Try.underlying5 Try.underlying9 ?_
  go_wp2_with fail
  go_ret
  exact ⟨ret_str1 (strOfNums_bytes l), h1⟩

set_option maxHeartbeats 1000000 in
theorem slotGetText_yes (gA gB cap k : Nat) (l : List UInt8) (w : World) (hk0 : k < u2 l 0) (hk : 8 + 4 * k ≤ l.length) (hl : l.length ≤ 100000) (hc : l.length ≤ cap) (ht : u2 l (4 + 4 * k) + u2 l (6 + 4 * k) ≤ l.length) (h : AreaIn w gA gB cap l) :
    Calls Try.prog 19 #[.pointer (some ⟨gA, 0, none⟩), .int .i64 k] w fun e w' => e = .returned (.tuple #[.string ⟨(txt l k).toArray⟩, .int .i64 0]) ∧ Below w.heap.size w w' := by
  have T := Lib.hid fun W hW => slotText_any gA gB cap k l W hk hl hc ht hW
  have R0 := fun W hW => slotThere_any gA gB cap (k : Int) l W (by omega) hl hW
  rw [if_pos (by omega)] at R0
  have R := Lib.hid R0
  have H := Lib.hid h
  clear h R0
  go_enter Try.func19, Try.ntmps19
  go_wp2_with fail
  refine (R.out _ H.out).mono ?_
  rintro e w1 ⟨rfl, h1⟩
  go_wp2_with fail
  refine (T.out _ (H.out.below h1)).mono ?_
  rintro e w2 ⟨rfl, h2⟩
  have hb := h1.trans (h2.mono h1.size)
  go_wp2_with fail
  go_ret2
  exact ⟨rfl, hb⟩

set_option maxHeartbeats 1000000 in
theorem slotGetText_no (gA gB cap : Nat) (at_ : Int) (l : List UInt8) (w : World) (hk0 : ¬ (0 ≤ at_ ∧ at_ < (u2 l 0 : Int))) (hk : 4 ≤ l.length) (hl : l.length ≤ 100000) (h : AreaIn w gA gB cap l) :
    Calls Try.prog 19 #[.pointer (some ⟨gA, 0, none⟩), .int .i64 at_] w fun e w' => e = .returned (.tuple #[.string ⟨#[]⟩, .int .i64 3]) ∧ Below w.heap.size w w' := by
  have R0 := fun W hW => slotThere_any gA gB cap at_ l W hk hl hW
  rw [if_neg hk0] at R0
  have R := Lib.hid R0
  have H := Lib.hid h
  clear h R0 hk0
  go_enter Try.func19, Try.ntmps19
  go_wp2_with fail
  refine (R.out _ H.out).mono ?_
  rintro e w1 ⟨rfl, h1⟩
  go_wp2_with fail
  go_ret2
  exact ⟨rfl, h1⟩

end Go.Proofs.Ytlpfilpijiglpaa
