/- slices.Clone of bytes -/
import Derived.Test.YtlpfilpijiglpaaRows
import Derived.Test.YtlpfilpijiglpaaOwn
import Derived.WalkKit
import Derived.WalkLawsBesides
import Derived.WalkSpells
import Derived.LoopTactic
import Derived.WalkMore
import Derived.LoopN
import Derived.Laws.BitsAllLaws
import Derived.Laws.IdiomStrings
import Derived.BigQuiet
import Derived.Deep.QuietTactic
import Derived.Deep.DeepCutAuto
import Derived.Deep.RegionHeld3
import Derived.Deep.DrawnRows
import Derived.Lib.Hide
import Derived.Outline
import Derived.Deep.DeepMust
import Derived.Handy
namespace Go.Proofs.Ytlpfilpijiglpaa
open Go.RowKit
set_option linter.unusedVariables false
set_option linter.unusedSimpArgs false

set_option maxHeartbeats 1000000 in
set_option maxRecDepth 100000 in
theorem cloneBytes_any (g off n cap : Nat) (zs : List UInt8) (w : World) (hz : zs.length = n) (hn : n ≤ 1000000) (hc : ∀ j (hj : j < zs.length), w.cell? ⟨g, off + j, none⟩ = some (.int .u8 (zs[j].toNat : Int))) :
    Calls Try.prog 47 #[.slice (some ⟨g, off, none⟩) n cap] w fun e w' => ∃ g' c', e = .returned (.slice (some ⟨g', 0, none⟩) n c') ∧ w'.ownsRow w.heap.size 5 1 (.slice (some ⟨g', 0, none⟩) n c') n (zs.map fun b => .int .u8 (b.toNat : Int)) ∧ Below w.heap.size w w' := by
  have eq := fun W => Lib.run_eql_slice_nil (P := Try.prog) W 38 5 (some ⟨g, off, none⟩) n cap 0 0 Try.underlying38
  obtain ⟨i0, hi, hz0, hz1, hz2⟩ := info_parts (P := Try.prog) (e := 5) (z := .int .u8 0) (size := 1) (bytes := 1) (by kernel_rfl)
  go_enter Try.func47, Try.ntmps47
  have hnew : ∀ j u, (zs.map fun b => Value.int .u8 (b.toNat : Int))[j]? = some u → (w.alloc (.cells #[] 5)).cell? ((⟨g, off, none⟩ : Addr).add j) = some u := by
    intro j u hu
    have hj : j < zs.length := by
      rcases Nat.lt_or_ge j zs.length with h | h
      · exact h
      · rw [List.getElem?_eq_none (by simpa using h)] at hu; cases hu
    rw [List.getElem?_map, List.getElem?_eq_getElem hj] at hu
    injection hu with hu
    rw [← hu, Addr.add_lit]
    exact keep_cell ((Below.refl _ _).alloc (Nat.le_refl _) _) (hc j hj)
  have HN := Lib.hid hnew
  have HC := Lib.hid hc
  have HZ := Lib.hid hz
  clear hnew hc hz
  go_wp2_with (at_builtin; refine wpList_append_own _ rfl _ _ 38 rfl w.heap.size 5 i0 (.int .u8 0) 1 1 Try.underlying38 hi hz0 hz1 hz2 rfl (by decide) (.slice (some ⟨w.heap.size, 0, none⟩) 0 0) 0 [] (by rfl) (World.ownsRow_made w #[] 0 (Nat.le_refl _) (by unfold maxLen; omega) rfl) ⟨g, off, none⟩ n cap (zs.map fun b => .int .u8 (b.toNat : Int)) (by rfl) (by simp [HZ.out]) HN.out (by intro u hu; obtain ⟨b, _, rfl⟩ := List.mem_map.1 hu; rfl) (by unfold maxLen; omega) (by omega) (by simp) ?_; intro v' w5 hown5 hgrow5 hnil)
  have hb5 : Below w.heap.size w w5 := ((Below.refl w.heap.size w).alloc (Nat.le_refl _) (.cells #[] 5)).grown hgrow5 (by simp) (fun k hk => by simp [Value.ownBlock] at hk; omega)
  simp only [Nat.zero_add, List.nil_append] at hown5
  obtain ⟨b5, c5, rfl, _, _, hb⟩ := own_form hown5
  have hb6 : ∃ g', b5 = some ⟨g', 0, none⟩ := by
    rcases hown5.2 with ⟨h0, _⟩ | ⟨g', _, _, h0, _⟩
    · have := (hnil.1 h0).1
      cases this
    · injection h0 with h0
      exact ⟨g', h0⟩
  obtain ⟨g', rfl⟩ := hb6
  have HO := Lib.hid hown5
  have HB := Lib.hid hb5
  clear hown5 hb5 hgrow5 hnil hb
  go_wp2_with fail
  go_ret
  exact ⟨g', c5, rfl, HO.out, HB.out⟩

end Go.Proofs.Ytlpfilpijiglpaa
