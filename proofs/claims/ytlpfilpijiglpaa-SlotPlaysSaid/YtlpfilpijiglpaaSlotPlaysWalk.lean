/- SlotPlays: the walk. -/
import Derived.Test.YtlpfilpijiglpaaRows
import Derived.Test.YtlpfilpijiglpaaRefSame
import Derived.Test.YtlpfilpijiglpaaRefDoes
import Derived.Test.YtlpfilpijiglpaaSlotLoad
import Derived.Test.YtlpfilpijiglpaaSlotCalls
import Derived.Test.YtlpfilpijiglpaaSlotAlive
import Derived.Test.YtlpfilpijiglpaaSlotNew
import Derived.Test.YtlpfilpijiglpaaAppAny
import Derived.Test.YtlpfilpijiglpaaQuietTail
import Derived.Deep.LoopGhost
import Derived.WalkKit
import Derived.WalkLawsBesides
import Derived.WalkSpells
import Derived.LoopTactic
import Derived.WalkMore
import Derived.LoopN
import Derived.Laws.BitsAllLaws
import Derived.Laws.IdiomStrings
import Derived.BigQuiet
import Derived.Deep.QuietTactic
import Derived.Deep.DeepCutAuto
import Derived.Deep.RegionHeld3
import Derived.Deep.DrawnRows
import Derived.Lib.Hide
import Derived.Outline
import Derived.Deep.DeepMust
import Derived.Handy
namespace Go.Proofs.Ytlpfilpijiglpaa
open Go.RowKit
set_option linter.unusedVariables false
set_option linter.unusedSimpArgs false

/-- The program's area, loaded anew out of its bytes. -/
theorem Both.loaded {B0 gA gC capA g gB cap gA2 gC2 cap2 : Nat} {v : Value} {a : Ar} {w w' : World} (h : Both B0 gA gC capA g gB cap v a w) (hw : B0 ≤ w.heap.size) (hb : Below w.heap.size w w') (h1 : w.heap.size ≤ gA2) (h2 : w.heap.size ≤ gC2) (hA : ArAt w' gA2 gC2 cap2 (parse a.enc)) :
    Both B0 gA2 gC2 cap2 g gB cap v a w' := by
  have hf := h.good.fit
  have he : (parse a.enc).enc = a.enc := parse_enc _ (by rw [hf.u0, hf.len]; have := hf.f; have := hf.l; unfold Ar.fin at *; omega)
  have hl : (parse a.enc).B.length = a.B.length := hf.len
  have lg := blk_lt h.ref.own
  have lB := h.ref.row.lt
  refine ⟨h.good, ⟨by rw [← he]; exact hA.area, by rw [← hl]; exact hA.room⟩, h.ref.below hb, by omega, by omega, by omega, by omega, fun x hx => ?_, by omega, by omega, h.lg, h.lB⟩
  have := (h.ref.dir.lt x hx).2
  exact ⟨by omega, by omega, (h.far x hx).2.2⟩

set_option maxHeartbeats 4000000 in
set_option maxRecDepth 100000 in
theorem slotPlays_walk (size : Int) (a : Option Addr) (b o len cap : Nat) (L : List Pc) (w : World) (hz : -9223372036854775808 ≤ size ∧ size ≤ 9223372036854775807) (hL : CallsAt w a b o len L) :
    Calls Try.prog 5 #[.int .i64 size, .slice a len cap] w fun e w' => e = .returned (.bool true) ∧ Below w.heap.size w w' := by
  have AL := Lib.hid fun W => alive_any W
  by_cases hh : bulk L ≤ 8192 ∧ len ≤ 100
  case neg =>
    have HV := Lib.hid (heavy_yes a b o len cap L w hL hh)
    clear hL hh
    go_enter Try.func5, Try.ntmps5
    go_wp2_with fail
    refine HV.out.mono ?_
    rintro e w1 ⟨rfl, rfl⟩
    go_wp2_with fail
    refine (AL.out _).mono ?_
    rintro e w1 ⟨rfl, h⟩
    go_wp2_with fail
    go_ret
    exact ⟨rfl, h⟩
  have HV := Lib.hid (heavy_no a b o len cap L w hL hh.1 hh.2)
  have HL := Lib.hid hL
  have HH := Lib.hid hh
  clear hL hh
  by_cases hs : size < 16 ∨ 4096 < size
  · have N1 := Lib.hid fun W => slotNew_no size W hs
    have N2 := Lib.hid fun W => refNew_no size W hs
    clear hs
    go_enter Try.func5, Try.ntmps5
    go_wp2_with fail
    refine HV.out.mono ?_
    rintro e w1 ⟨rfl, rfl⟩
    go_wp2_with fail
    refine (N1.out _).mono ?_
    rintro e w1 ⟨rfl, h1⟩
    go_wp2_with fail
    refine (N2.out _).mono ?_
    rintro e w2 ⟨rfl, h2⟩
    have HB2 := Lib.hid (below_then h1 h2)
    clear h1 h2
    go_wp2_with fail
    refine (AL.out _).mono ?_
    rintro e w3 ⟨rfl, h3⟩
    have HB3 := Lib.hid (below_then HB2.out h3)
    clear h3
    go_wp2_with fail
    go_ret
    exact ⟨rfl, HB3.out⟩
  obtain ⟨n, rfl⟩ := Int.eq_ofNat_of_zero_le (show 0 ≤ size by omega)
  have n1 : 16 ≤ n := by omega
  have n2 : n ≤ 4096 := by omega
  have N1 := Lib.hid fun W => newA n W n1 n2
  have N2 := Lib.hid fun W => refNew_yes n W n1 n2
  clear hs hz
  go_enter Try.func5, Try.ntmps5
  go_wp2_with fail
  refine HV.out.mono ?_
  rintro e w1 ⟨rfl, rfl⟩
  go_wp2_with fail
  refine (N1.out _).mono ?_
  rintro e w1 ⟨gA, gC, rfl, hA, hC, ha, h1⟩
  have HA1 := Lib.hid ha
  have HB1 := Lib.hid h1
  clear ha h1
  go_wp2_with fail
  refine (N2.out _).mono ?_
  rintro e w2 ⟨g, gB, rfl, hg, hgB, hr, h2⟩
  have K2 : Hid (Both w.heap.size gA gC n g gB n (.slice none 0 0) (Ar.new n) w2 ∧ Below w.heap.size w w2) := by
    have := blk_lt HA1.out.area.own
    have := HA1.out.area.row.lt
    have := HB1.out.size
    exact ⟨⟨Ar.Good.new n1 n2, HA1.out.below h2, hr, by omega, by omega, by omega, by omega, (fun x hx => by cases hx), hA, hC, by omega, by omega⟩, below_then HB1.out h2⟩
  clear hr h2 hg hgB HA1 HB1 N1 N2 HV
  go_wp2_with fail
  go_loopw [5, 8] (fun s5 s8 wr => ∃ i : Nat, i ≤ len ∧ s8 = .int .i64 i ∧ ∃ gA gC cp v ar, s5 = .pointer (some ⟨gA, 0, none⟩) ∧ Both w.heap.size gA gC cp g gB n v ar wr ∧ Below w.heap.size w wr) (fun _ i _ => len - (intOf i).toNat)
  case atStart => exact ⟨0, Nat.zero_le _, rfl, _, _, _, _, _, rfl, K2.out.1, K2.out.2⟩
  case round =>
    obtain ⟨i, hi, rfl, gA, gC, cp, v, ar, rfl, hk, hb⟩ := hrel
    have HK := Lib.hid hk
    have HB := Lib.hid hb
    clear hk hb K2 hA hC
    have hlen := HH.out.2
    by_cases hc : i < len
    case neg =>
      obtain rfl : i = len := by omega
      clear HK
      go_wp2_with fail
      refine (AL.out _).mono ?_
      rintro e w2 ⟨rfl, h2⟩
      have HB2 := Lib.hid (below_then HB.out h2)
      clear h2
      go_wp2_with fail
      go_ret
      exact ⟨rfl, HB2.out⟩
    obtain ⟨rfl, hlt⟩ := HL.out.at_ (by omega)
    have hiL : i < L.length := by rw [HL.out.n]; exact hc
    obtain ⟨c0, c1, c2⟩ := (HL.out.below HB.out).cell i hiL
    have hbs : L[i].2.2.size ≤ 8192 := by have h1 := bulk_mem (List.getElem_mem hiL); have h2 := HH.out.1; omega
    have hdo := (HL.out.ok _ (List.getElem_mem hiL)).1
    have hat := (HL.out.ok _ (List.getElem_mem hiL)).2.1
    have q0 : (0 : Int) ≤ (i : Int) := by omega
    have q1 : (i : Int) < (len : Int) := by omega
    generalize L[i].2.2 = T at *
    generalize L[i].2.1 = At at *
    generalize L[i].1 = D at *
    obtain ⟨r, hr⟩ : ∃ r, r = D % 8 := ⟨_, rfl⟩
    have m8 : (D : Int) % 8 = (r : Nat) := by omega
    have m8' : ((D : Int)).tmod 8 = (r : Nat) := by rw [Int.tmod_eq_emod_of_nonneg (by omega)]; exact m8
    have m9 : IntKind.u8.wrap (r : Int) = (r : Int) := IntWalk.u8_in _ ⟨by omega, by omega⟩
    have Hr := Lib.hid hr
    clear hr
    by_cases h7 : r = 7
    · subst h7
      have hG := HK.out.good
      have PB := Lib.hid fun W (hW : ArAt W gA gC cp ar) => bytesA gA gC cp ar W hG.fit hW
      have LD := Lib.hid fun W => loadA_yes ⟨ar.enc.toArray⟩ W (parse_of_enc hG).2.2
      go_wp2_with fail
      refine (PB.out _ HK.out.prog).mono ?_
      rintro e w3 ⟨rfl, h3⟩
      have HK3 := Lib.hid (HK.out.below h3)
      have HB3 := Lib.hid (below_then HB.out h3)
      clear h3 c0 c1 c2
      go_wp2_with fail
      refine (LD.out _).mono ?_
      rintro e w4 ⟨gA2, gC2, cap2, rfl, l1, l2, hA4, h4⟩
      have HK4 := Lib.hid (HK3.out.loaded HB3.out.size h4 l1 l2 hA4)
      have HB4 := Lib.hid (below_then HB3.out h4)
      clear h4 hA4 l1 l2 LD
      go_wp2_with fail
      refine (same_any _ _ _ _ _ _ _ _ _ _ HK4.out).mono ?_
      rintro e w5 ⟨rfl, h5⟩
      have HK5 := Lib.hid (HK4.out.below h5)
      have HB5 := Lib.hid (below_then HB4.out h5)
      clear h5
      go_wp2_with fail
      go_roundw
      case rel => exact ⟨i + 1, by omega, by go_num, _, _, _, _, _, rfl, HK5.out, HB5.out⟩
      case measure => simp [intOf]; omega
    · have DO := Lib.hid fun W hW hK => does_any w.heap.size gA gC cp g gB n v ar D At T W (by omega) (by omega) hat.1 hat.2 hW hK
      go_wp2_with fail
      refine (DO.out _ HB.out.size HK.out).mono ?_
      rintro e w4 ⟨rfl, ⟨v', hk4⟩, hk4'⟩
      have HK4 := Lib.hid hk4
      have HB4 := Lib.hid (OthersKept.base HB.out hk4')
      clear hk4 hk4' c0 c1 c2
      go_wp2_with fail
      refine (same_any _ _ _ _ _ _ _ _ _ _ HK4.out).mono ?_
      rintro e w5 ⟨rfl, h5⟩
      have HK5 := Lib.hid (HK4.out.below h5)
      have HB5 := Lib.hid (below_then HB4.out h5)
      clear h5
      go_wp2_with fail
      go_roundw
      case rel => exact ⟨i + 1, by omega, by go_num, _, _, _, _, _, rfl, HK5.out, HB5.out⟩
      case measure => simp [intOf]; omega

end Go.Proofs.Ytlpfilpijiglpaa
