/- The walk of the law KeyOrder: it returns true, and nothing that was there is changed. -/
import Derived.Test.YtahaikfijegknaaRows
import Derived.Test.YtahaikfijegknaaKeyPlain
import Derived.Test.YtahaikfijegknaaKeyWalks
import Derived.WalkKit
import Derived.WalkLawsBesides
import Derived.WalkSpells
import Derived.LoopTactic
import Derived.WalkMore
import Derived.Test.YtahaikfijegknaaShelf
import Derived.BigQuiet
import Derived.Deep.QuietTactic
import Derived.Lib.Hide
import Derived.Outline
import Derived.Deep.DeepCutAuto
namespace Go.Proofs.Ytahaikfijegknaa
open Go.RowKit
set_option linter.unusedVariables false

theorem cells4 (w : World) (t : TypeId) (a b c d : ByteArray) : ∀ i, i < [a, b, c, d].length → (w.alloc (.cells #[.string a, .string b, .string c, .string d] t)).cell? ⟨w.heap.size, i, none⟩ = some (.string ([a, b, c, d].getD i ByteArray.empty)) := by
  intro i hi
  match i, hi with
  | 0, _ => simp [go_sem]
  | 1, _ => simp [go_sem]
  | 2, _ => simp [go_sem]
  | 3, _ => simp [go_sem]

theorem quiet_at {P : Program} {f : FuncId} {args : Array Value} {w : World} {m n : Nat} {v : Value}
    (h : Calls P f args (w.drewN (m + n)) fun e w' => e = .returned v ∧ ∃ q, w' = (w.drewN (m + n)).drewN q) : Calls P f args (w.drewN (m + n)) fun e w'' => e = .returned v ∧ ∃ k, w'' = w.drewN (m + k) :=
  h.mono fun _ _ ⟨he, q, hq⟩ => ⟨he, n + q, by rw [hq, World.drewN_drewN, Nat.add_assoc]⟩

set_option maxHeartbeats 4000000 in
set_option maxRecDepth 100000 in
/-- The order's law, walked: it returns true; nothing that was there is changed. -/
theorem keyOrder_walk (a b c k : ByteArray) (w : World) (ha : a.size ≤ maxLen) (hb : b.size ≤ maxLen) (hc : c.size ≤ maxLen) (hk : k.size ≤ maxLen) :
    Calls Try.prog 4 #[.string a, .string b, .string c, .string k] w fun e w' => e = .returned (.bool true) ∧ Below w.heap.size w w' := by
  have l := fun W hc' => keyLong_any [a, b, c, k] w.heap.size 4 W (by simp) hc' (by simp; exact ⟨ha, hb, hc, hk⟩)
  have cl := Lib.hid (cells4 w 9 a b c k)
  generalize hy : ([a, b, c, k].any fun s => decide (512 < s.size)) = y at l
  cases y with
  | true =>
    clear hy
    have L := Lib.hid l
    clear l
    go_enter Try.func4, Try.ntmps4
    go_wp2_with fail
    refine (L.out _ cl.out).mono ?_
    rintro e w1 ⟨rfl, rfl⟩
    go_wp2_with fail
    refine (alive03 _).mono ?_
    rintro e w1 ⟨rfl, m1, rfl⟩
    go_wp2_with fail
    go_ret
    exact ⟨rfl, below_drewN ((Below.refl _ _).alloc (Nat.le_refl _) _) _⟩
  | false =>
    have ha1 : a.size ≤ 512 := by simp at hy; omega
    clear hy
    have L := Lib.hid l
    clear l
    have C1 := Lib.hid fun W => keyCompare_any a b W
    have C2 := Lib.hid fun W => keyCompare_any b c W
    have c3 := fun W => keyCompare_any b a W
    have C4 := Lib.hid fun W => keyCompare_any a c W
    have c5 := fun W => keyCompare_any a (a ++ ⟨#[120]⟩) W
    have D := Lib.hid fun W => keyCommon_any a b W ha hb
    have I1 := Lib.hid fun W => keyIn_any k a c W
    have I2 := Lib.hid fun W => keyIn_any k a b W
    have I3 := Lib.hid fun W => keyIn_any k b c W
    rw [cmp_neg] at c3
    have e5 : Lib.compareBytes a.data.toList (a ++ ⟨#[120]⟩ : ByteArray).data.toList = -1 := by
      rw [show (a ++ ⟨#[120]⟩ : ByteArray).data.toList = a.data.toList ++ [120] by simp [ByteArray.data_append]]
      exact cmp_append _ _ (by simp)
    rw [e5] at c5
    clear e5
    have C3 := Lib.hid c3
    have C5 := Lib.hid c5
    clear c3 c5
    have rx := cmp_range a.data.toList b.data.toList
    have ry := cmp_range b.data.toList c.data.toList
    have rx1 : -1 ≤ Lib.compareBytes a.data.toList b.data.toList ∧ Lib.compareBytes a.data.toList b.data.toList ≤ 1 := by omega
    have ry1 : -1 ≤ Lib.compareBytes b.data.toList c.data.toList ∧ Lib.compareBytes b.data.toList c.data.toList ≤ 1 := by omega
    clear rx ry
    have hz := cmp_trans a.data.toList b.data.toList c.data.toList
    have eab : (a.toList == b.toList) = (Lib.compareBytes a.data.toList b.data.toList == 0) := by
      rw [Bool.eq_iff_iff]; simp [cmp_zero, Lib.toList_data]
    have hin : b.toList.isEmpty = false → Lib.compareBytes a.data.toList b.data.toList ≤ 0 → (c.toList.isEmpty = true ∨ Lib.compareBytes b.data.toList c.data.toList ≤ 0) →
        (within k.data.toList a.data.toList c.data.toList != (within k.data.toList a.data.toList b.data.toList != within k.data.toList b.data.toList c.data.toList)) = false := by
      intro h1 h2 h3
      rw [Lib.toList_data] at h1 h3
      rw [within_parts _ _ b.data.toList _ (by intro e; rw [e] at h1; simp at h1) h2 (by rcases h3 with h3 | h3; (· left; simpa using h3); exact .inr h3)]
      simp
    have hn := com_le a.data.toList b.data.toList
    have ht : ((a.extract 0 (com a.data.toList b.data.toList)).toList == (b.extract 0 (com a.data.toList b.data.toList)).toList) = true := by
      have := com_take a.data.toList b.data.toList
      simp [Lib.toList_data, this]
    have hne : ∀ (h1 : com a.data.toList b.data.toList < a.size) (h2 : com a.data.toList b.data.toList < b.size), ((a[com a.data.toList b.data.toList].toNat : Int) != (b[com a.data.toList b.data.toList].toNat : Int)) = true := by
      intro h1 h2
      have := com_stop a.data.toList b.data.toList (by simpa using h1) (by simpa using h2)
      rw [List.getElem?_eq_getElem (by simpa using h1), List.getElem?_eq_getElem (by simpa using h2)] at this
      exact u8_bne_true (fun e => this (congrArg some e))
    rw [len_list, len_list] at hn
    generalize Lib.compareBytes a.data.toList b.data.toList = x at *
    generalize Lib.compareBytes b.data.toList c.data.toList = y at *
    generalize Lib.compareBytes a.data.toList c.data.toList = z at *
    generalize com a.data.toList b.data.toList = n at *
    generalize within k.data.toList a.data.toList c.data.toList = p at *
    generalize within k.data.toList a.data.toList b.data.toList = q at *
    generalize within k.data.toList b.data.toList c.data.toList = r at *
    have Ht := Lib.hid ht
    have Hne := Lib.hid hne
    have Hin := Lib.hid hin
    have Hz := Lib.hid hz
    have Eab := Lib.hid eab
    clear ht hne hin hz eab
    unfold maxLen at ha hb hc hk
    go_enter Try.func4, Try.ntmps4
    go_wp2_with fail
    refine (L.out _ cl.out).mono ?_
    rintro e w1 ⟨rfl, rfl⟩
    go_wp2_with fail
    refine (C1.out _).mono ?_
    rintro e w1 ⟨rfl, rfl⟩
    go_wp2_with fail
    refine (C2.out _).mono ?_
    rintro e w1 ⟨rfl, rfl⟩
    go_upto_region 4 with fail
    go_cut [59] (fun s w' => s = .bool false ∧ Below w.heap.size w w')
    case first =>
      by_cases hx0 : x ≤ 0
      · by_cases hy0 : y ≤ 0
        · have hz0 := Hz.out hx0 hy0
          have hz1 : decide (0 < z) = false := by simp; omega
          have eab := Eab.out
          go_wp2_with fail
          refine (C3.out _).mono ?_
          rintro e w1 ⟨rfl, rfl⟩
          go_wp2_with fail
          refine (C4.out _).mono ?_
          rintro e w1 ⟨rfl, rfl⟩
          go_wp2_with fail
          refine (C5.out _).mono ?_
          rintro e w1 ⟨rfl, rfl⟩
          go_wp2_with fail
          go_meet
          exact ⟨rfl, (Below.refl _ _).alloc (Nat.le_refl _) _⟩
        · have eab := Eab.out
          go_wp2_with fail
          refine (C3.out _).mono ?_
          rintro e w1 ⟨rfl, rfl⟩
          go_wp2_with fail
          refine (C5.out _).mono ?_
          rintro e w1 ⟨rfl, rfl⟩
          go_wp2_with fail
          go_meet
          exact ⟨rfl, (Below.refl _ _).alloc (Nat.le_refl _) _⟩
      · have eab := Eab.out
        go_wp2_with fail
        refine (C3.out _).mono ?_
        rintro e w1 ⟨rfl, rfl⟩
        go_wp2_with fail
        refine (C5.out _).mono ?_
        rintro e w1 ⟨rfl, rfl⟩
        go_wp2_with fail
        go_meet
        exact ⟨rfl, (Below.refl _ _).alloc (Nat.le_refl _) _⟩
    case rest =>
      obtain ⟨rfl, hbw⟩ := hcut
      go_upto_region 6 with fail
      go_cut [89] (fun s w' => s = .bool false ∧ Below w.heap.size w w')
      case first =>
        by_cases h1 : b.toList.isEmpty = true
        · go_wp2_with fail
          go_meet
          exact ⟨rfl, hbw⟩
        · have h1' : b.toList.isEmpty = false := by simpa using h1
          clear h1
          by_cases h2 : x ≤ 0
          · by_cases h3 : c.toList.isEmpty = true
            · have hpqr := Lib.hid <| Hin.out h1' h2 (.inl h3)
              go_wp2_with fail
              refine (I1.out _).mono ?_
              rintro e w1 ⟨rfl, rfl⟩
              go_wp2_with fail
              refine (I2.out _).mono ?_
              rintro e w1 ⟨rfl, rfl⟩
              go_wp2_with fail
              refine (I3.out _).mono ?_
              rintro e w1 ⟨rfl, rfl⟩
              go_wp2_with fail
              go_meet
              exact ⟨congrArg Value.bool (by have := hpqr.out; revert this; cases p <;> cases q <;> cases r <;> simp), hbw⟩
            · have h3' : c.toList.isEmpty = false := by simpa using h3
              clear h3
              by_cases h4 : y ≤ 0
              · have hpqr := Lib.hid <| Hin.out h1' h2 (.inr h4)
                go_wp2_with fail
                refine (I1.out _).mono ?_
                rintro e w1 ⟨rfl, rfl⟩
                go_wp2_with fail
                refine (I2.out _).mono ?_
                rintro e w1 ⟨rfl, rfl⟩
                go_wp2_with fail
                refine (I3.out _).mono ?_
                rintro e w1 ⟨rfl, rfl⟩
                go_wp2_with fail
                go_meet
                exact ⟨congrArg Value.bool (by have := hpqr.out; revert this; cases p <;> cases q <;> cases r <;> simp), hbw⟩
              · go_wp2_with fail
                go_meet
                exact ⟨rfl, hbw⟩
          · go_wp2_with fail
            go_meet
            exact ⟨rfl, hbw⟩
      case rest =>
        obtain ⟨rfl, hbw2⟩ := hcut
        obtain ⟨hn1, hn2⟩ := hn
        clear Hin Hz Eab C1 C2 C3 C4 C5 I1 I2 I3 L cl hbw rx1 ry1
        have ht := Ht.out
        clear Ht
        by_cases h1 : n < a.size
        · by_cases h2 : n < b.size
          · have hne := Hne.out h1 h2
            have e1 : ((n : Int) == (a.size : Int)) = false := by simp; omega
            have e2 : ((n : Int) == (b.size : Int)) = false := by simp; omega
            clear Hne
            go_wp2_with fail
            refine (D.out _).mono ?_
            rintro e w1 ⟨rfl, m1, rfl⟩
            go_wp2_with fail
            go_quiet ((go_at_call 14; exact quiet_at (alive03 _)))
            go_wp2_with fail
            go_ret
            exact ⟨rfl, below_drewN (below_drewN hbw2 _) _⟩
          · have e1 : ((n : Int) == (a.size : Int)) = false := by simp; omega
            have e2 : ((n : Int) == (b.size : Int)) = true := by simp; omega
            clear Hne
            go_wp2_with fail
            refine (D.out _).mono ?_
            rintro e w1 ⟨rfl, m1, rfl⟩
            go_wp2_with fail
            go_quiet ((go_at_call 14; exact quiet_at (alive03 _)))
            go_wp2_with fail
            go_ret
            exact ⟨rfl, below_drewN (below_drewN hbw2 _) _⟩
        · have e1 : ((n : Int) == (a.size : Int)) = true := by simp; omega
          clear Hne
          go_wp2_with fail
          refine (D.out _).mono ?_
          rintro e w1 ⟨rfl, m1, rfl⟩
          go_wp2_with fail
          go_quiet ((go_at_call 14; exact quiet_at (alive03 _)))
          go_wp2_with fail
          go_ret
          exact ⟨rfl, below_drewN (below_drewN hbw2 _) _⟩

end Go.Proofs.Ytahaikfijegknaa
