/- page.Torn and ref06.Torn, by tornB -/
import Derived.Test.YtienlhnbmobinaaRows
import Derived.Test.YtienlhnbmobinaaBuilderW
import Derived.Test.YtienlhnbmobinaaShelf
import Derived.Test.YtienlhnbmobinaaPagePlain
import Derived.Test.YtienlhnbmobinaaBase
import Derived.Test.YtienlhnbmobinaaPlains
import Derived.Test.YtienlhnbmobinaaTextsP
import Derived.Test.YtienlhnbmobinaaRefSeal
import Derived.Test.YtienlhnbmobinaaSum
import Derived.Deep.CutBlock
import Derived.WalkKit
import Derived.WalkLawsBesides
import Derived.WalkSpells
import Derived.LoopTactic
import Derived.WalkMore
import Derived.LoopN
import Derived.Laws.BitsAllLaws
import Derived.Laws.IdiomStrings
import Derived.BigQuiet
import Derived.Deep.QuietTactic
import Derived.Deep.DeepCutAuto
import Derived.Deep.RegionHeld3
import Derived.Deep.DrawnRows
import Derived.Lib.Hide
import Derived.Outline
import Derived.Deep.DeepMust
import Derived.Handy
namespace Go.Proofs.Ytienlhnbmobinaa
open Go.RowKit
set_option linter.unusedVariables false
set_option linter.unusedSimpArgs false

def bls (ks : List Bool) : List Value := ks.map Value.bool
/-- A slice of bools that can be read. -/
def BlAt (w : World) (sv : Value) (ts : List Bool) : Prop :=
  ∃ A cp, sv = .slice A ts.length cp ∧ ts.length ≤ cp ∧ cp ≤ maxLen ∧ (A = none → ts = [] ∧ cp = 0) ∧ (0 < ts.length → ∃ b o, A = some ⟨b, o, none⟩ ∧ b < w.heap.size ∧ ∀ j (h : j < ts.length), w.cell? ⟨b, o + j, none⟩ = some (.bool ts[j]))
theorem BlAt.below {w w' : World} {sv : Value} {ts : List Bool} (h : BlAt w sv ts) (hb : Below w.heap.size w w') : BlAt w' sv ts := by
  obtain ⟨A, cp, h1, h2, h3, h4, h5⟩ := h
  refine ⟨A, cp, h1, h2, h3, h4, fun h0 => ?_⟩
  obtain ⟨b, o, h6, h7, h8⟩ := h5 h0
  exact ⟨b, o, h6, Nat.lt_of_lt_of_le h7 hb.size, fun j hj => keep_cell hb (h8 j hj)⟩
theorem BlAt.nil (w : World) : BlAt w (.slice none 0 0) [] := ⟨none, 0, rfl, Nat.le_refl _, Nat.zero_le _, fun _ => ⟨rfl, rfl⟩, fun h => absurd h (Nat.lt_irrefl 0)⟩
theorem bls_length (ts : List Bool) : (bls ts).length = ts.length := by simp [bls]
theorem bls_get (ts : List Bool) (j : Nat) (h : j < ts.length) : (bls ts)[j]? = some (.bool ts[j]) := by
  unfold bls
  rw [List.getElem?_map, List.getElem?_eq_getElem h]
  rfl
theorem bls_append (a b : List Bool) : bls (a ++ b) = bls a ++ bls b := by simp [bls]
theorem bl_own {w : World} {base n : Nat} {v : Value} {ts : List Bool} (h : w.ownsRow base 4 1 v n (bls ts)) : BlAt w v ts ∧ ts.length = n := by
  have hl : ts.length = n := by have := h.1; simpa [bls] using this
  refine ⟨?_, hl⟩
  subst hl
  rcases h.2 with ⟨rfl, h0⟩ | ⟨g, cap, cur, rfl, hb, hg, h1, h2, _⟩
  · exact ⟨none, 0, by rw [h0], by omega, Nat.zero_le _, fun _ => ⟨List.eq_nil_of_length_eq_zero h0, rfl⟩, fun h => by omega⟩
  · refine ⟨_, cap, rfl, h1, h2, fun h => by (cases h), fun _ => ⟨g, 0, rfl, blk_lt hg, fun j hj => ?_⟩⟩
    rw [Nat.zero_add]
    exact own_cell h j _ (bls_get ts j hj)
theorem BlAt.reads {w : World} {sv : Value} {ts : List Bool} (h : BlAt w sv ts) : Reads w sv ts.length 1 (bls ts) := by
  obtain ⟨A, cp, rfl, h2, h3, h4, h5⟩ := h
  rcases Nat.eq_zero_or_pos ts.length with h0 | h0
  · obtain rfl := List.eq_nil_of_length_eq_zero h0
    cases A with
    | none => obtain ⟨_, rfl⟩ := h4 rfl; exact .inl ⟨rfl, rfl, rfl⟩
    | some a => exact .inr ⟨a, cp, rfl, rfl, fun j u hu => by simp [bls] at hu⟩
  · obtain ⟨b, o, rfl, _, hc⟩ := h5 h0
    refine .inr ⟨_, cp, rfl, by simp [bls], fun j u hu => ?_⟩
    have hj : j < ts.length := by
      have := (List.getElem?_eq_some_iff.1 hu).1
      simpa [bls] using this
    rw [bls_get ts j hj] at hu
    injection hu with hu
    rw [← hu, Addr.add_lit]
    exact hc j hj
theorem bls_oneCell (ts : List Bool) : ∀ u ∈ bls ts, u.oneCell' = true := by
  intro u hu
  obtain ⟨t, _, rfl⟩ := List.mem_map.1 hu
  rfl
theorem keep_get (ks : List Bool) (i : Nat) (h : i < ks.length) : ks.getD i false = ks[i] := by simp [List.getD_eq_getElem?_getD, h]
theorem keep_no (ks : List Bool) (i : Nat) (h : ¬ i < ks.length) : ks.getD i false = false := by simp [List.getD_eq_getElem?_getD, h]
theorem sect_text (l : List UInt8) (i : Nat) (h : l.length = 512) (hi : i < 4) : (⟨l.toArray⟩ : ByteArray).extract (128 * i) (128 * (i + 1)) = ⟨((l.drop (128 * i)).take 128).toArray⟩ := by
  apply bytes_ext
  simp
  congr 1; omega
theorem sectText_length (l : List UInt8) (i : Nat) (h : l.length = 512) (hi : i < 4) : ((l.drop (128 * i)).take 128).length = 128 := by
  rw [List.length_take, List.length_drop]; omega
set_option maxHeartbeats 4000000 in
set_option maxRecDepth 100000 in
theorem pageTorn_any (l m : List UInt8) (ks : List Bool) (kv : Value) (w : World) (hk : BlAt w kv ks) (hl : l.length ≤ 100000) (hm : m.length ≤ 100000) :
    Calls Try.prog 53 #[.string ⟨l.toArray⟩, .string ⟨m.toArray⟩, kv] w fun e w' => e = .returned (.tuple #[.string ⟨(tornB l m ks).1.toArray⟩, .int .i64 (tornB l m ks).2]) ∧ Below w.heap.size w w' := by
  have hsl : (⟨l.toArray⟩ : ByteArray).size = l.length := rfl
  have hsm : (⟨m.toArray⟩ : ByteArray).size = m.length := rfl
  obtain ⟨A, kc, rfl, k2, k3, k4, k5⟩ := hk
  have K5 := Lib.hid k5
  obtain ⟨kn, hkn⟩ : ∃ n, n = ks.length := ⟨_, rfl⟩
  rw [← hkn] at k2 ⊢
  have HKN := Lib.hid hkn
  unfold maxLen at k3
  obtain ⟨R, hR⟩ : ∃ R, R = tornB l m ks := ⟨_, rfl⟩
  rw [← hR]
  clear k4 k5 hkn
  by_cases h1 : l.length = 512
  case neg =>
    have h1i : ((l.length : Int) != 512) = true := by simp; omega
    have HX : Hid (R = ([], 2)) := by show _ = _; rw [hR]; unfold tornB; rw [if_neg (fun h => h1 h.1)]
    clear hR h1
    go_enter Try.func53, Try.ntmps53
    go_wp2_with fail
    go_step3
    go_wp2_with fail
    (try rw [Exit.noGoto_ret])
    go_ret2
    exact ⟨by rw [HX.out]; rfl, Below.refl _ _⟩
  have h1i : ((l.length : Int) != 512) = false := by simp; omega
  by_cases h2 : m.length = 512
  case neg =>
    have h2i : ((m.length : Int) != 512) = true := by simp; omega
    have HX : Hid (R = ([], 2)) := by show _ = _; rw [hR]; unfold tornB; rw [if_neg (fun h => h2 h.2)]
    clear hR h1 h2
    go_enter Try.func53, Try.ntmps53
    go_wp2_with fail
    go_step3
    go_wp2_with fail
    (try rw [Exit.noGoto_ret])
    go_ret2
    exact ⟨by rw [HX.out]; rfl, Below.refl _ _⟩
  have h2i : ((m.length : Int) != 512) = false := by simp; omega
  have HX : Hid (R = (tornL l m ks 4, 0)) := by show _ = _; rw [hR]; unfold tornB; rw [if_pos ⟨h1, h2⟩]
  clear hR
  have N0 := Lib.hid (show Lib.IsBuilder 155 5 w.heap.size w.heap.size (Lib.byteCells (tornL l m ks 0)) (w.alloc (.cells #[.pointer none, .slice none 0 0] 155)) from .inl ⟨Nat.le_refl _, _, heap_alloc_new w _, World.ownsRow_nil _ _ _ _, by simp [Value.ownBlock]⟩)
  have B0 := Lib.hid (alloc_below w (.cells #[.pointer none, .slice none 0 0] 155))
  go_enter Try.func53, Try.ntmps53
  go_wp2_with fail
  go_step3
  go_wp2_with fail
  (first | go_step3 | skip)
  go_wp2_with fail
  go_loopw [9, 10, 11, 20] (fun _ _ _ s20 wr => ∃ i : Nat, s20 = .int .i64 i ∧ i ≤ 4 ∧ Hid (Lib.IsBuilder 155 5 w.heap.size w.heap.size (Lib.byteCells (tornL l m ks i)) wr) ∧ Hid (Below w.heap.size w wr) ∧ w.heap.size < wr.heap.size) (fun _ _ _ v _ => 4 - (intOf v).toNat)
  case atStart => exact ⟨0, rfl, by omega, N0, B0, by rw [World.size_alloc]; omega⟩
  case round =>
    obtain ⟨i, rfl, hi, HB, HW, hsz⟩ := hrel
    clear N0 B0
    by_cases hi4 : i < 4
    · have hii : (i : Int) < 4 := by omega
      have hi0 : (0 : Int) ≤ (i : Int) := by omega
      have HL := Lib.hid (tornL_length ks h1 h2 i (by omega))
      have SL := sect_text l i h1 hi4
      have SM := sect_text m i h2 hi4
      have e1 : (i : Int) * 128 = ((128 * i : Nat) : Int) := by omega
      have e2 : ((i : Int) + 1) * 128 = ((128 * (i + 1) : Nat) : Int) := by omega
      have TS := Lib.hid (show tornL l m ks (i + 1) = tornL l m ks i ++ ((if ks.getD i false then m else l).drop (128 * i)).take 128 from rfl)
      have ZL := Lib.hid (sectText_length l i h1 hi4)
      have ZM := Lib.hid (sectText_length m i h2 hi4)
      have q1 : ((128 * i : Nat) : Int) ≤ ((128 * (i + 1) : Nat) : Int) := by omega
      have q2 : ((128 * (i + 1) : Nat) : Int) ≤ 512 := by omega
      have q3 : (0 : Int) ≤ ((128 * i : Nat) : Int) := by omega
      have WR := Lib.hid fun (s : List UInt8) (W : World) (hs : s.length = 128) (hW : Lib.IsBuilder 155 5 w.heap.size w.heap.size (Lib.byteCells (tornL l m ks i)) W) (hb : w.heap.size ≤ W.heap.size) => bWrite_any w.heap.size w.heap.size (Lib.byteCells (tornL l m ks i)) ⟨s.toArray⟩ W hW (by show _ + s.toArray.size ≤ _; rw [Lib.byteCells_length, HL.out]; simp; omega) hb
      clear HL
      by_cases hik : i < kn
      · have hiki : (i : Int) < (kn : Int) := by omega
        obtain ⟨b0, o0, rfl, hb0, hcell⟩ := K5.out (by rw [← HKN.out]; omega)
        have hkr : i < ks.length := by rw [← HKN.out]; exact hik
        have c0 := keep_cell HW.out (hcell i hkr)
        have KG := Lib.hid (keep_get ks i hkr)
        clear hcell
        rw [KG.out] at TS
        generalize ks[i] = kb at *
        clear hkr KG
        cases kb
        · clear SM ZM
          have T1 := Lib.hid (show tornL l m ks (i + 1) = tornL l m ks i ++ (l.drop (128 * i)).take 128 from TS.out)
          generalize (l.drop (128 * i)).take 128 = t at *
          clear TS
          go_wp2_with fail
          refine (WR.out t _ ZL.out HB.out (by omega)).mono ?_
          rintro e w9 ⟨rfl, hbu, hb⟩
          have B9 := Lib.hid (HW.out.trans hb)
          have hsz9 : w.heap.size < w9.heap.size := Nat.lt_of_lt_of_le hsz hb.size
          have U9 := Lib.hid (show Lib.IsBuilder 155 5 w.heap.size w.heap.size (Lib.byteCells (tornL l m ks (i + 1))) w9 from by
            rw [T1.out, Lib.byteCells_append]
            exact .inr (by rw [Lib.strCells_eq] at hbu; exact hbu))
          clear hb hbu WR T1 HB HW
          go_wp2_with fail
          go_roundw
          case rel => exact ⟨i + 1, by go_num, by omega, U9, B9, by omega⟩
          case measure => simp [intOf] <;> omega
        · clear SL ZL
          have T1 := Lib.hid (show tornL l m ks (i + 1) = tornL l m ks i ++ (m.drop (128 * i)).take 128 from TS.out)
          generalize (m.drop (128 * i)).take 128 = t at *
          clear TS
          go_wp2_with fail
          refine (WR.out t _ ZM.out HB.out (by omega)).mono ?_
          rintro e w9 ⟨rfl, hbu, hb⟩
          have B9 := Lib.hid (HW.out.trans hb)
          have hsz9 : w.heap.size < w9.heap.size := Nat.lt_of_lt_of_le hsz hb.size
          have U9 := Lib.hid (show Lib.IsBuilder 155 5 w.heap.size w.heap.size (Lib.byteCells (tornL l m ks (i + 1))) w9 from by
            rw [T1.out, Lib.byteCells_append]
            exact .inr (by rw [Lib.strCells_eq] at hbu; exact hbu))
          clear hb hbu WR T1 HB HW
          go_wp2_with fail
          go_roundw
          case rel => exact ⟨i + 1, by go_num, by omega, U9, B9, by omega⟩
          case measure => simp [intOf] <;> omega
      · have hiki : ¬ (i : Int) < (kn : Int) := by omega
        have KG := Lib.hid (keep_no ks i (by rw [← HKN.out]; exact hik))
        rw [KG.out] at TS
        clear KG SM ZM
        have T1 := Lib.hid (show tornL l m ks (i + 1) = tornL l m ks i ++ (l.drop (128 * i)).take 128 from TS.out)
        generalize (l.drop (128 * i)).take 128 = t at *
        clear TS
        go_wp2_with fail
        refine (WR.out t _ ZL.out HB.out (by omega)).mono ?_
        rintro e w9 ⟨rfl, hbu, hb⟩
        have B9 := Lib.hid (HW.out.trans hb)
        have hsz9 : w.heap.size < w9.heap.size := Nat.lt_of_lt_of_le hsz hb.size
        have U9 := Lib.hid (show Lib.IsBuilder 155 5 w.heap.size w.heap.size (Lib.byteCells (tornL l m ks (i + 1))) w9 from by
          rw [T1.out, Lib.byteCells_append]
          exact .inr (by rw [Lib.strCells_eq] at hbu; exact hbu))
        clear hb hbu WR T1 HB HW
        go_wp2_with fail
        go_roundw
        case rel => exact ⟨i + 1, by go_num, by omega, U9, B9, by omega⟩
        case measure => simp [intOf] <;> omega
    · obtain rfl : i = 4 := by omega
      have ST := Lib.hid fun (W : World) hW hB => Try.Builder_String_any w.heap.size w.heap.size (tornL l m ks 4) W hW hB
      generalize tornL l m ks 4 = t at *
      go_wp2_with fail
      refine (ST.out _ HB.out (by omega)).mono ?_
      rintro e w9 ⟨rfl, hb⟩
      have B9 := Lib.hid (HW.out.trans hb)
      clear hb
      go_wp2_with fail
      (try rw [Exit.noGoto_ret])
      go_ret2
      exact ⟨by rw [HX.out]; rfl, B9.out⟩
/-- The reference's bytes after the first i steps. -/
def mixL (l m : List UInt8) (ks : List Bool) : Nat → List UInt8
  | 0 => l
  | i + 1 => if ks.getD (i / 128) false then (mixL l m ks i).set i (m.getD i 0) else mixL l m ks i
theorem mixL_length (l m : List UInt8) (ks : List Bool) : ∀ i, (mixL l m ks i).length = l.length
  | 0 => rfl
  | i + 1 => by rw [mixL]; split <;> simp [mixL_length l m ks i]
theorem mixL_get (l m : List UInt8) (ks : List Bool) (h : l.length = m.length) : ∀ i, i ≤ m.length → ∀ j, (mixL l m ks i)[j]? = if j < i ∧ ks.getD (j / 128) false = true then m[j]? else l[j]?
  | 0, _, j => by rw [if_neg (by omega)]; rfl
  | i + 1, hi, j => by
    have IH := mixL_get l m ks h i (by omega) j
    have LN := mixL_length l m ks i
    rw [mixL]
    by_cases hk : ks.getD (i / 128) false = true
    · rw [if_pos hk]
      by_cases hij : i = j
      · subst hij
        rw [if_pos ⟨by omega, hk⟩, List.getElem?_set_self (by omega)]
        simp [List.getD_eq_getElem?_getD, List.getElem?_eq_getElem (show i < m.length by omega)]
      · rw [List.getElem?_set_ne hij, IH]
        by_cases hj : j < i
        · simp [hj, show j < i + 1 by omega]
        · rw [if_neg (by omega), if_neg (by omega)]
    · rw [if_neg hk, IH]
      by_cases hij : i = j
      · subst hij
        rw [if_neg (by omega), if_neg (fun h => hk h.2)]
      · by_cases hj : j < i
        · simp [hj, show j < i + 1 by omega]
        · rw [if_neg (by omega), if_neg (by omega)]
theorem mixL_torn (l m : List UInt8) (ks : List Bool) (h1 : l.length = 512) (h2 : m.length = 512) : mixL l m ks 512 = tornL l m ks 4 :=
  torn_bytes ks h1 h2 (by rw [mixL_length, h1]) (fun j hj => by
    rw [mixL_get l m ks (by omega) 512 (by omega) j]
    simp [hj])
set_option maxHeartbeats 4000000 in
set_option maxRecDepth 100000 in
theorem refTorn_any (l m : List UInt8) (ks : List Bool) (kv : Value) (w : World) (hk : BlAt w kv ks) (hl : l.length ≤ 100000) (hm : m.length ≤ 100000) :
    Calls Try.prog 54 #[.string ⟨l.toArray⟩, .string ⟨m.toArray⟩, kv] w fun e w' => e = .returned (.tuple #[.string ⟨(tornB l m ks).1.toArray⟩, .int .i64 (tornB l m ks).2]) ∧ Below w.heap.size w w' := by
  have hsl : (⟨l.toArray⟩ : ByteArray).size = l.length := rfl
  have hsm : (⟨m.toArray⟩ : ByteArray).size = m.length := rfl
  obtain ⟨A, kc, rfl, k2, k3, k4, k5⟩ := hk
  have K5 := Lib.hid k5
  obtain ⟨kn, hkn⟩ : ∃ n, n = ks.length := ⟨_, rfl⟩
  rw [← hkn] at k2 ⊢
  have HKN := Lib.hid hkn
  unfold maxLen at k3
  obtain ⟨R, hR⟩ : ∃ R, R = tornB l m ks := ⟨_, rfl⟩
  rw [← hR]
  clear k4 k5 hkn
  by_cases h1 : l.length = 512
  case neg =>
    have h1i : ((l.length : Int) != 512) = true := by simp; omega
    have HX : Hid (R = ([], 2)) := by show _ = _; rw [hR]; unfold tornB; rw [if_neg (fun h => h1 h.1)]
    clear hR h1
    go_enter Try.func54, Try.ntmps54
    go_wp2_with fail
    go_ret2
    exact ⟨by rw [HX.out]; rfl, Below.refl _ _⟩
  have h1i : ((l.length : Int) != 512) = false := by simp; omega
  by_cases h2 : m.length = 512
  case neg =>
    have h2i : ((m.length : Int) != 512) = true := by simp; omega
    have HX : Hid (R = ([], 2)) := by show _ = _; rw [hR]; unfold tornB; rw [if_neg (fun h => h2 h.2)]
    clear hR h1 h2
    go_enter Try.func54, Try.ntmps54
    go_wp2_with fail
    go_ret2
    exact ⟨by rw [HX.out]; rfl, Below.refl _ _⟩
  have h2i : ((m.length : Int) != 512) = false := by simp; omega
  have HX : Hid (R = (tornL l m ks 4, 0)) := by show _ = _; rw [hR]; unfold tornB; rw [if_pos ⟨h1, h2⟩]
  clear hR
  have ML := Lib.hid (mixL_torn l m ks h1 h2)
  go_enter Try.func54, Try.ntmps54
  go_wp2_with fail
  refine upon_row _ 9 70 5 _ Try.underlying9 Try.underlying70 Try.underlying5 (fun W cap hW hrow => ?_)
  have HW := Lib.hid hW
  have HROW := Lib.hid hrow
  rw [hsl]
  obtain ⟨g, hg⟩ : ∃ g, g = w.heap.size := ⟨_, rfl⟩
  have hgle : w.heap.size ≤ g := by omega
  rw [← hg] at HROW ⊢
  clear hW hrow hg
  go_wp2_with fail
  go_loopw [9] (fun s9 wr => ∃ i : Nat, i ≤ 512 ∧ s9 = .int .i64 i ∧ Hid (RowAt wr g (mixL l m ks i)) ∧ Hid (Below w.heap.size w wr)) (fun v _ => 512 - (intOf v).toNat)
  case atStart => exact ⟨0, Nat.zero_le _, rfl, HROW, HW⟩
  case round =>
    obtain ⟨i, hi, rfl, HA, HB⟩ := hrel
    have HL := Lib.hid (mixL_length l m ks i)
    clear HW HROW
    by_cases hi4 : i < 512
    · have hii : (i : Int) < 512 := by omega
      have hi0 : (0 : Int) ≤ (i : Int) := by omega
      have hdv : (i : Int).tdiv 128 = ((i / 128 : Nat) : Int) := by rw [Int.tdiv_eq_ediv_of_nonneg (by omega)]; omega
      have hd4 : i / 128 < 4 := by omega
      have TS := Lib.hid (show mixL l m ks (i + 1) = if ks.getD (i / 128) false then (mixL l m ks i).set i (m.getD i 0) else mixL l m ks i from rfl)
      obtain ⟨d, hd⟩ : ∃ d, d = i / 128 := ⟨_, rfl⟩
      rw [← hd] at TS hd4 hdv
      have hdv0 : (0 : Int) ≤ (d : Int) := by omega
      have hdv1 : (d : Int) ≤ 4 := by omega
      clear hd
      by_cases hik : d < kn
      · have hiki : (d : Int) < (kn : Int) := by omega
        obtain ⟨b0, o0, rfl, hb0, hcell⟩ := K5.out (by rw [← HKN.out]; omega)
        have hkr : d < ks.length := by rw [← HKN.out]; exact hik
        have c0 := keep_cell HB.out (hcell d hkr)
        have KG := Lib.hid (keep_get ks d hkr)
        clear hcell
        rw [KG.out] at TS
        generalize ks[d] = kb at *
        clear hkr KG
        cases kb
        · have T1 := Lib.hid (show mixL l m ks (i + 1) = mixL l m ks i from TS.out)
          clear TS HL
          go_wp2_with fail
          go_roundw
          case rel => exact ⟨i + 1, by omega, by go_num, by show RowAt _ _ _; rw [T1.out]; exact HA.out, HB⟩
          case measure => simp [intOf] <;> omega
        · have hfz := HA.out.frozen i (by rw [HL.out]; omega)
          have hcx := HA.out.cell i (by rw [HL.out]; omega)
          have hsi : Hid (((⟨m.toArray⟩ : ByteArray)[i]'(by show i < m.toArray.size; simp; omega)) = m.getD i 0) := by
            show _ = _
            rw [List.getD_eq_getElem?_getD, List.getElem?_eq_getElem (show i < m.length by omega)]
            rfl
          have HS := Lib.hid (HA.out.set i (m.getD i 0) (by rw [HL.out]; omega))
          have T1 := Lib.hid (show mixL l m ks (i + 1) = (mixL l m ks i).set i (m.getD i 0) from TS.out)
          rw [← T1.out] at HS
          generalize (((mixL l m ks i)[i]'(by rw [HL.out]; omega)).toNat : Int) = qq at hcx
          clear TS HL T1 HA
          go_wp2_with fail
          rw [hsi.out]
          go_roundw
          case rel => exact ⟨i + 1, by omega, by go_num, HS, HB.out.setCell hgle _⟩
          case measure => simp [intOf] <;> omega
      · have hiki : ¬ (d : Int) < (kn : Int) := by omega
        have KG := Lib.hid (keep_no ks d (by rw [← HKN.out]; exact hik))
        rw [KG.out] at TS
        have T1 := Lib.hid (show mixL l m ks (i + 1) = mixL l m ks i from TS.out)
        clear KG TS HL
        go_wp2_with fail
        go_roundw
        case rel => exact ⟨i + 1, by omega, by go_num, by show RowAt _ _ _; rw [T1.out]; exact HA.out, HB⟩
        case measure => simp [intOf] <;> omega
    · obtain rfl : i = 512 := by omega
      have hlm : (mixL l m ks 512).length = 512 := by rw [HL.out]; exact h1
      rw [ML.out] at hlm HA
      generalize tornL l m ks 4 = t at *
      go_wp2_with fail
      refine upon_str HA.out (by first | exact hlm | (rw [hlm]; omega)) 70 5 9 Try.underlying70 Try.underlying5 Try.underlying9 ?_
      rw [sumBytes]
      go_wp2_with fail
      go_ret2
      exact ⟨by rw [HX.out]; rfl, HB.out⟩

end Go.Proofs.Ytienlhnbmobinaa
