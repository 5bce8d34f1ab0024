/- SlotLoads: the walk. -/
import Derived.Test.YtlpfilpijiglpaaRows
import Derived.Test.YtlpfilpijiglpaaRefLoad
import Derived.Test.YtlpfilpijiglpaaRefSame
import Derived.Test.YtlpfilpijiglpaaRefDoes
import Derived.Test.YtlpfilpijiglpaaSlotLoad
import Derived.Test.YtlpfilpijiglpaaSlotCalls
import Derived.Test.YtlpfilpijiglpaaSlotAlive
import Derived.Test.YtlpfilpijiglpaaSlotNew
import Derived.Test.YtlpfilpijiglpaaAppAny
import Derived.Test.YtlpfilpijiglpaaQuietTail
import Derived.Deep.LoopGhost
import Derived.WalkKit
import Derived.WalkLawsBesides
import Derived.WalkSpells
import Derived.LoopTactic
import Derived.WalkMore
import Derived.LoopN
import Derived.Laws.BitsAllLaws
import Derived.Laws.IdiomStrings
import Derived.BigQuiet
import Derived.Deep.QuietTactic
import Derived.Deep.DeepCutAuto
import Derived.Deep.RegionHeld3
import Derived.Deep.DrawnRows
import Derived.Lib.Hide
import Derived.Outline
import Derived.Deep.DeepMust
import Derived.Handy
namespace Go.Proofs.Ytlpfilpijiglpaa
open Go.RowKit
set_option linter.unusedVariables false
set_option linter.unusedSimpArgs false

set_option maxHeartbeats 4000000 in
set_option maxRecDepth 100000 in
theorem slotLoads_walk (s : ByteArray) (a : Option Addr) (b o len cap : Nat) (L : List Pc) (w : World) (hs : s.size ≤ 140737488351232) (hL : CallsAt w a b o len L) :
    Calls Try.prog 6 #[.string s, .slice a len cap] w fun e w' => e = .returned (.bool true) ∧ Below w.heap.size w w' := by
  have AL := Lib.hid fun W => alive_any W
  by_cases hh : bulk L ≤ 8192 ∧ len ≤ 100
  case neg =>
    have HV := Lib.hid (heavy_yes a b o len cap L w hL hh)
    clear hL hh
    go_enter Try.func6, Try.ntmps6
    go_wp2_with fail
    refine HV.out.mono ?_
    rintro e w1 ⟨rfl, rfl⟩
    go_wp2_with fail
    refine (AL.out _).mono ?_
    rintro e w1 ⟨rfl, h⟩
    go_wp2_with fail
    go_ret
    exact ⟨rfl, h⟩
  have HV := Lib.hid (heavy_no a b o len cap L w hL hh.1 hh.2)
  have HL := Lib.hid hL
  have HH := Lib.hid hh
  clear hL hh
  by_cases h5 : 512 < s.size ∧ s.size ≤ 4096
  · obtain ⟨h51, h52⟩ := h5
    have d1 : decide ((512 : Int) < (s.size : Int)) = true := by simp; omega
    have d2 : decide ((s.size : Int) ≤ 4096) = true := by simp; omega
    go_enter Try.func6, Try.ntmps6
    go_wp2_with fail
    refine HV.out.mono ?_
    rintro e w1 ⟨rfl, rfl⟩
    go_wp2_with fail
    refine (AL.out _).mono ?_
    rintro e w1 ⟨rfl, h⟩
    go_wp2_with fail
    go_ret
    exact ⟨rfl, h⟩
  have RL := Lib.hid fun W => refLoad_any s W (by omega)
  by_cases hg : (parse s.data.toList).Good
  case neg =>
    have N1 := Lib.hid fun W => loadA_no s W (by omega) hg
    have HG := Lib.hid hg
    have h5' : s.size ≤ 512 ∨ 4096 < s.size := by omega
    clear h5 hg
    rcases h5' with h5 | h5
    all_goals
      go_enter Try.func6, Try.ntmps6
      go_wp2_with fail
      refine HV.out.mono ?_
      rintro e w1 ⟨rfl, rfl⟩
      go_wp2_with fail
      refine (N1.out _).mono ?_
      rintro e w1 ⟨rfl, h1⟩
      have HB1 := Lib.hid h1
      clear h1
      go_wp2_with fail
      refine (RL.out _).mono ?_
      rintro e w2 ⟨h2, ⟨_, rfl⟩ | ⟨hG, _⟩⟩
      case inr => exact absurd hG HG.out
      have HB2 := Lib.hid (below_then HB1.out h2)
      clear h2
      go_wp2_with fail
      refine (AL.out _).mono ?_
      rintro e w3 ⟨rfl, h3⟩
      have HB3 := Lib.hid (below_then HB2.out h3)
      clear h3
      go_wp2_with fail
      go_ret
      exact ⟨rfl, HB3.out⟩
  have N1 := Lib.hid fun W => loadA_yes s W hg
  have HG := Lib.hid hg
  have hs5 : s.size ≤ 512 := by have := hg.hi; have e : (parse s.data.toList).B.length = s.size := (by simp [parse]); omega
  clear h5 hg
  go_enter Try.func6, Try.ntmps6
  go_wp2_with fail
  refine HV.out.mono ?_
  rintro e w1 ⟨rfl, rfl⟩
  go_wp2_with fail
  refine (N1.out _).mono ?_
  rintro e w1 ⟨gA, gC, cp, rfl, hA, hC, ha, h1⟩
  have HA1 := Lib.hid ha
  have HB1 := Lib.hid h1
  clear ha h1
  go_wp2_with fail
  refine (RL.out _).mono ?_
  rintro e w2 ⟨h2, ⟨hG, _⟩ | ⟨_, g, gB, capB, v, rfl, hr, hg, hgB, hv⟩⟩
  case inl => exact absurd HG.out hG
  have K2 : Hid (Both w.heap.size gA gC cp g gB capB v (parse s.data.toList) w2 ∧ Below w.heap.size w w2) := by
    have := blk_lt HA1.out.area.own
    have := HA1.out.area.row.lt
    have := HB1.out.size
    exact ⟨⟨HG.out, HA1.out.below h2, hr, by omega, by omega, by omega, by omega, (fun x hx => by have := hv x hx; exact ⟨by omega, by omega, by omega⟩), hA, hC, by omega, by omega⟩, below_then HB1.out h2⟩
  clear hr h2 hg hgB hv HA1 HB1 N1 RL HV
  go_wp2_with fail
  refine (same_any _ _ _ _ _ _ _ _ _ _ K2.out.1).mono ?_
  rintro e w3 ⟨rfl, h3⟩
  have K3 : Hid (Both w.heap.size gA gC cp g gB capB v (parse s.data.toList) w3 ∧ Below w.heap.size w w3) := ⟨K2.out.1.below h3, below_then K2.out.2 h3⟩
  clear h3 K2
  go_wp2_with fail
  go_loopw [8] (fun s8 wr => ∃ i : Nat, i ≤ len ∧ s8 = .int .i64 i ∧ ∃ v ar, Both w.heap.size gA gC cp g gB capB v ar wr ∧ Below w.heap.size w wr) (fun i _ => len - (intOf i).toNat)
  case atStart => exact ⟨0, Nat.zero_le _, rfl, _, _, K3.out.1, K3.out.2⟩
  case round =>
    obtain ⟨i, hi, rfl, v, ar, hk, hb⟩ := hrel
    have HK := Lib.hid hk
    have HB := Lib.hid hb
    clear hk hb K3 hA hC
    have hlen := HH.out.2
    by_cases hc : i < len
    case neg =>
      obtain rfl : i = len := by omega
      clear HK
      go_wp2_with fail
      refine (AL.out _).mono ?_
      rintro e w2 ⟨rfl, h2⟩
      have HB2 := Lib.hid (below_then HB.out h2)
      clear h2
      go_wp2_with fail
      go_ret
      exact ⟨rfl, HB2.out⟩
    obtain ⟨rfl, hlt⟩ := HL.out.at_ (by omega)
    have hiL : i < L.length := by rw [HL.out.n]; exact hc
    obtain ⟨c0, c1, c2⟩ := (HL.out.below HB.out).cell i hiL
    have hbs : L[i].2.2.size ≤ 8192 := by have h1 := bulk_mem (List.getElem_mem hiL); have h2 := HH.out.1; omega
    have hdo := (HL.out.ok _ (List.getElem_mem hiL)).1
    have hat := (HL.out.ok _ (List.getElem_mem hiL)).2.1
    have q0 : (0 : Int) ≤ (i : Int) := by omega
    have q1 : (i : Int) < (len : Int) := by omega
    generalize L[i].2.2 = T at *
    generalize L[i].2.1 = At at *
    generalize L[i].1 = D at *
    obtain ⟨r, hr⟩ : ∃ r, r = D % 8 := ⟨_, rfl⟩
    have m8 : (D : Int) % 8 = (r : Nat) := by omega
    have m8' : ((D : Int)).tmod 8 = (r : Nat) := by rw [Int.tmod_eq_emod_of_nonneg (by omega)]; exact m8
    have m9 : IntKind.u8.wrap (r : Int) = (r : Int) := IntWalk.u8_in _ ⟨by omega, by omega⟩
    have Hr := Lib.hid hr
    clear hr
    by_cases h7 : r = 7
    · subst h7
      go_wp2_with fail
      refine (same_any _ _ _ _ _ _ _ _ _ _ HK.out).mono ?_
      rintro e w5 ⟨rfl, h5⟩
      have HK5 := Lib.hid (HK.out.below h5)
      have HB5 := Lib.hid (below_then HB.out h5)
      clear h5 c0 c1 c2
      go_wp2_with fail
      go_roundw
      case rel => exact ⟨i + 1, by omega, by go_num, _, _, HK5.out, HB5.out⟩
      case measure => simp [intOf]; omega
    · have DO := Lib.hid fun W hW hK => does_any w.heap.size gA gC cp g gB capB v ar D At T W (by omega) (by omega) hat.1 hat.2 hW hK
      go_wp2_with fail
      refine (DO.out _ HB.out.size HK.out).mono ?_
      rintro e w4 ⟨rfl, ⟨v', hk4⟩, hk4'⟩
      have HK4 := Lib.hid hk4
      have HB4 := Lib.hid (OthersKept.base HB.out hk4')
      clear hk4 hk4' c0 c1 c2
      go_wp2_with fail
      refine (same_any _ _ _ _ _ _ _ _ _ _ HK4.out).mono ?_
      rintro e w5 ⟨rfl, h5⟩
      have HK5 := Lib.hid (HK4.out.below h5)
      have HB5 := Lib.hid (below_then HB4.out h5)
      clear h5
      go_wp2_with fail
      go_roundw
      case rel => exact ⟨i + 1, by omega, by go_num, _, _, HK5.out, HB5.out⟩
      case measure => simp [intOf]; omega

end Go.Proofs.Ytlpfilpijiglpaa
