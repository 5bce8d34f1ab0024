/- An area is loaded -/
import Derived.Test.YtienlhnbmobinaaRows
import Derived.Test.YtienlhnbmobinaaSlotMay
import Derived.WalkKit
import Derived.WalkLawsBesides
import Derived.WalkSpells
import Derived.LoopTactic
import Derived.WalkMore
import Derived.LoopN
import Derived.Laws.BitsAllLaws
import Derived.Laws.IdiomStrings
import Derived.BigQuiet
import Derived.Deep.QuietTactic
import Derived.Deep.DeepCutAuto
import Derived.Deep.RegionHeld3
import Derived.Deep.DrawnRows
import Derived.Lib.Hide
import Derived.Outline
import Derived.Deep.DeepMust
import Derived.Handy
namespace Go.Proofs.Ytienlhnbmobinaa
open Go.RowKit
set_option linter.unusedVariables false
set_option linter.unusedSimpArgs false

theorem upon_row_cap {P : Program} {o : Oper} {a : Act} {K : Act → World → Prop} {Q : Exit → Act → World → Prop} (w : World) (src dst e : TypeId) (s : ByteArray)
    (hs : P.underlying src = some .string) (hd : P.underlying dst = some (.slice e)) (he : P.underlying e = some (.int .u8))
    (h : ∀ (W : World) (cap : Nat), s.size ≤ cap → Below w.heap.size w W → RowAt W w.heap.size s.data.toList → K (a.put o.dst (.slice (some ⟨w.heap.size, 0, none⟩) s.size cap)) W) :
    o.upon P a K Q (((convert src dst (.string s)).run P w).andThen fun v w' => .ok (.value v) w') := by
  rw [run_bytes_of_string w src dst e s hs hd he]
  simp only [Result.andThen]
  rw [Oper.upon_value]
  refine h _ _ (grownCap_ge w s.size 0 e) ((Below.refl _ _).drew.alloc (Nat.le_refl _) _) ⟨bytesRow s (grownCap w s.size 0 e), e, (bytesRow s (grownCap w s.size 0 e)).size, (bytesRow s (grownCap w s.size 0 e)).size + 1, ?_, ?_, .inl ?_, fun i hi => ?_⟩
  · show (w.heap.push (.cells (bytesRow s (grownCap w s.size 0 e)) e ((bytesRow s (grownCap w s.size 0 e)).size, (bytesRow s (grownCap w s.size 0 e)).size + 1)))[w.heap.size]? = _
    simp
  · simp [bytesRow]
  · simp [bytesRow]
  · rw [bytesRow_at s _ i (by simpa using hi)]
    simp

set_option maxHeartbeats 2000000 in
set_option maxRecDepth 100000 in
theorem loadA_no (s : ByteArray) (w : World) (hmx : s.size ≤ 140737488355328) (hb : ¬ (parse s.data.toList).Good) :
    Calls Try.prog 109 #[.string s] w fun e w' => e = .returned (.tuple #[.pointer none, .int .i64 7]) ∧ Below w.heap.size w w' := by
  have hsl : s.data.toList.length = s.size := by simp
  by_cases h16 : s.size < 16
  · go_enter Try.func109, Try.ntmps109
    go_wp2_with fail
    refine upon_row_cap _ 9 70 5 s Try.underlying9 Try.underlying70 Try.underlying5 (fun W cap hc hbW hr => ?_)
    have HB := Lib.hid (hbW.alloc (hbW.size) (.cells #[.slice (some ⟨w.heap.size, 0, none⟩) s.size cap] 185))
    clear hbW hr
    go_wp2_with fail
    go_ret2
    exact ⟨rfl, HB.out⟩
  · have M := Lib.hid fun gA gB cap W hW => may_any gA gB cap s.data.toList false W (by omega) (by omega) (by simp; exact hb) hW
    clear hb
    go_enter Try.func109, Try.ntmps109
    go_wp2_with fail
    refine upon_row_cap _ 9 70 5 s Try.underlying9 Try.underlying70 Try.underlying5 (fun W cap hc hbW hr => ?_)
    have HB := Lib.hid (hbW.alloc (hbW.size) (.cells #[.slice (some ⟨w.heap.size, 0, none⟩) s.size cap] 185))
    have hlt := hr.lt
    have HA : Hid (AreaIn (W.alloc (.cells #[.slice (some ⟨w.heap.size, 0, none⟩) s.size cap] 185)) W.heap.size w.heap.size cap s.data.toList) :=
      ⟨by rw [hsl]; exact heap_alloc_new W _, hr.below ((Below.refl _ _).alloc (Nat.le_refl _) _), by omega⟩
    clear hbW hr
    go_wp2_with fail
    refine (M.out _ _ _ _ HA.out).mono ?_
    rintro e w2 ⟨rfl, h2⟩
    have HB2 := Lib.hid (HB.out.trans (h2.mono (by simp; omega)))
    clear h2
    go_wp2_with fail
    go_ret2
    exact ⟨rfl, HB2.out⟩

set_option maxHeartbeats 2000000 in
set_option maxRecDepth 100000 in
theorem loadA_yes (s : ByteArray) (w : World) (hb : (parse s.data.toList).Good) :
    Calls Try.prog 109 #[.string s] w fun e w' => ∃ gA gB cap, e = .returned (.tuple #[.pointer (some ⟨gA, 0, none⟩), .int .i64 0]) ∧ w.heap.size ≤ gA ∧ w.heap.size ≤ gB ∧ ArAt w' gA gB cap (parse s.data.toList) ∧ Below w.heap.size w w' := by
  have hsl : s.data.toList.length = s.size := by simp
  have hlo := hb.lo
  have hhi := hb.hi
  have hpB : (parse s.data.toList).B.length = s.size := hsl
  have he : (parse s.data.toList).enc = s.data.toList := parse_enc _ (by have := hb.f; have := hb.l; unfold Ar.fin at *; rw [parse_n] at *; omega)
  have M := Lib.hid fun gA gB cap W hW => may_any gA gB cap s.data.toList true W (by omega) (by omega) (by simp; exact hb) hW
  have HE := Lib.hid he
  have h16 : ¬ s.size < 16 := by omega
  have HP := Lib.hid hpB
  clear hb he hpB hlo hhi
  go_enter Try.func109, Try.ntmps109
  go_wp2_with fail
  refine upon_row_cap _ 9 70 5 s Try.underlying9 Try.underlying70 Try.underlying5 (fun W cap hc hbW hr => ?_)
  have HB := Lib.hid (hbW.alloc (hbW.size) (.cells #[.slice (some ⟨w.heap.size, 0, none⟩) s.size cap] 185))
  have hlt := hr.lt
  have HA : Hid (AreaIn (W.alloc (.cells #[.slice (some ⟨w.heap.size, 0, none⟩) s.size cap] 185)) W.heap.size w.heap.size cap s.data.toList) :=
    ⟨by rw [hsl]; exact heap_alloc_new W _, hr.below ((Below.refl _ _).alloc (Nat.le_refl _) _), by omega⟩
  clear hbW hr
  go_wp2_with fail
  refine (M.out _ _ _ _ HA.out).mono ?_
  rintro e w2 ⟨rfl, h2⟩
  have HB2 := Lib.hid (HB.out.trans (h2.mono (by simp; omega)))
  have HA2 := Lib.hid (HA.out.below h2)
  have hle := HB.out.size
  clear h2
  go_wp2_with fail
  go_ret2
  exact ⟨_, _, _, rfl, by omega, Nat.le_refl _, ⟨by rw [HE.out]; exact HA2.out, by rw [HP.out]; exact hc⟩, HB2.out⟩

end Go.Proofs.Ytienlhnbmobinaa
