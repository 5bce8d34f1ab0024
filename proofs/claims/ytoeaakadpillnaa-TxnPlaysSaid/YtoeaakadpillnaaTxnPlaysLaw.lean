/- chapter 23: TxnPlays. -/
import Derived.Test.YtoeaakadpillnaaRows
import Derived.Test.YtoeaakadpillnaaTxnDoes
import Derived.Test.YtoeaakadpillnaaTxnSame
import Derived.Test.YtoeaakadpillnaaTxnWorks
import Derived.Test.YtoeaakadpillnaaTxnActs
import Derived.Deep.CutBlock
import Derived.WalkKit
import Derived.WalkLawsBesides
import Derived.WalkSpells
import Derived.LoopTactic
import Derived.WalkMore
import Derived.LoopN
import Derived.Laws.BitsAllLaws
import Derived.Laws.IdiomStrings
import Derived.BigQuiet
import Derived.Deep.QuietTactic
import Derived.Deep.DeepCutAuto
import Derived.Deep.RegionHeld3
import Derived.Deep.DrawnRows
import Derived.Lib.Hide
import Derived.Outline
import Derived.Deep.DeepMust
import Derived.Handy
namespace Go.Proofs.Ytoeaakadpillnaa
open Go.RowKit
set_option linter.unusedVariables false
set_option linter.unusedSimpArgs false

open Go.Maps
theorem both_new {w w' : World} {g m c gR tx no : Nat} (B : Nat) (h : TtAt w g m c tx no []) (hg : B ≤ g) (hm : B ≤ m) (hc : B ≤ c) (hR : w'.heap[w.heap.size]? = some (.cells #[.slice none 0 0, .int .u64 (tx : Nat), .int .u64 (no : Nat)] 101 (0, 0))) (hb : Below w.heap.size w w') (he : gR = w.heap.size) (hBw : B ≤ w.heap.size) :
    BothT B w' g m c gR (.slice none 0 0) tx no [] := by
  subst he
  have hl := h.lt
  refine ⟨h.below hb, ⟨hR, World.ownsRow_nil _ _ _ _, fun k hk => (by cases hk), List.Pairwise.nil, by simp⟩, fun e => (by rcases e with e | e | e <;> omega), fun k hk => (by cases hk), ⟨hg, hm, hc, hBw⟩, fun k hk => (by cases hk)⟩
set_option maxHeartbeats 8000000 in
set_option maxRecDepth 100000 in
/-- TxnPlays' law. -/
theorem txnPlays_any (tx0' no0 : Nat) (a : Option Addr) (b o len cap ask : Nat) (L : List XA) (w : World) (hL : XActsAt w a b o len L) (hask : ask < 18446744073709551616) :
    Calls Try.prog 12 #[.int .u64 (tx0' : Nat), .int .u64 (no0 : Nat), .slice a len cap, .int .u64 (ask : Nat)] w fun e w' => e = .returned (.bool true) ∧ Below w.heap.size w w' := by
  have hle := hL.le
  have WO := Lib.hid fun W => txworks_any W
  by_cases h100 : 100 < len
  case pos =>
    have e1 : 100 < (len : Int) := by omega
    clear hL
    go_enter Try.func12, Try.ntmps12
    go_wp2_with fail
    refine (WO.out _).mono ?_
    rintro e w1 ⟨rfl, hb⟩
    have HB := Lib.hid hb
    clear hb
    go_wp2_with fail
    go_ret
    exact ⟨rfl, HB.out⟩
  have e1 : ¬ 100 < (len : Int) := by omega
  have HL := Lib.hid hL
  clear hL
  by_cases hbad : tx0' < 1 ∨ no0 < 1 ∨ 4611686018427387904 < tx0' ∨ 4611686018427387904 < no0
  case pos =>
    have NB := Lib.hid (tx_new_bad w tx0' no0 hbad)
    obtain ⟨z, hz⟩ : ∃ z : Bool, z = true := ⟨true, rfl⟩
    go_enter Try.func12, Try.ntmps12
    go_wp2_with fail
    refine NB.out.mono ?_
    rintro e w1 ⟨rfl, hb⟩
    have HB := Lib.hid hb
    clear hb
    go_upto_region 4 with fail
    go_cut [42] (fun s w' => s = .bool true ∧ w' = w1)
    case first =>
      by_cases h1 : tx0' < 1
      · have f1 : (tx0' : Int) < 1 := by omega
        have f2 : decide (tx0' < 1) = true := by simpa using h1
        clear hbad
        go_wp2_with fail
        go_meet
        exact ⟨rfl, rfl⟩
      have f1 : ¬ (tx0' : Int) < 1 := by omega
      have f1' : decide (tx0' < 1) = false := by simpa using h1
      by_cases h2 : no0 < 1
      · have f2 : (no0 : Int) < 1 := by omega
        have f2' : decide (no0 < 1) = true := by simpa using h2
        clear hbad h1
        go_wp2_with fail
        go_meet
        exact ⟨rfl, rfl⟩
      have f2 : ¬ (no0 : Int) < 1 := by omega
      have f2' : decide (no0 < 1) = false := by simpa using h2
      by_cases h3 : 4611686018427387904 < tx0'
      · have f3 : 4611686018427387904 < (tx0' : Int) := by omega
        have f3' : decide (4611686018427387904 < tx0') = true := by simpa using h3
        clear hbad h1 h2
        go_wp2_with fail
        go_meet
        exact ⟨rfl, rfl⟩
      have f3 : ¬ 4611686018427387904 < (tx0' : Int) := by omega
      have f3' : decide (4611686018427387904 < tx0') = false := by simpa using h3
      have f4 : 4611686018427387904 < (no0 : Int) := by omega
      have f4' : decide (4611686018427387904 < no0) = true := by simp; omega
      clear hbad h1 h2 h3
      go_wp2_with fail
      go_meet
      exact ⟨rfl, rfl⟩
    case rest =>
      obtain ⟨rfl, rfl⟩ := hcut
      go_wp2_with fail
      refine (WO.out _).mono ?_
      rintro e w2 ⟨rfl, hb⟩
      have HB2 := Lib.hid (below_then HB.out hb)
      clear hb
      go_wp2_with fail
      go_ret
      exact ⟨rfl, HB2.out⟩
  have NW := Lib.hid (tx_new w tx0' no0 (by omega) (by omega) (by omega) (by omega))
  have f1 : ¬ (tx0' : Int) < 1 := by omega
  have f1' : decide (tx0' < 1) = false := by simp; omega
  have f2 : ¬ (no0 : Int) < 1 := by omega
  have f2' : decide (no0 < 1) = false := by simp; omega
  have f3 : ¬ 4611686018427387904 < (tx0' : Int) := by omega
  have f3' : decide (4611686018427387904 < tx0') = false := by simp; omega
  have f4 : ¬ 4611686018427387904 < (no0 : Int) := by omega
  have f4' : decide (4611686018427387904 < no0) = false := by simp; omega
  clear hbad
  go_enter Try.func12, Try.ntmps12
  go_wp2_with fail
  refine NW.out.mono ?_
  rintro e w1 ⟨g, m, c, rfl, h1, hg, hm, hc, hb1⟩
  have hb2 := (Below.refl w1.heap.size w1).alloc (Nat.le_refl _) (.cells #[.slice none 0 0, .int .u64 (tx0' : Nat), .int .u64 (no0 : Nat)] 101)
  have HN := Lib.hid (both_new (gR := w1.heap.size) w.heap.size h1 hg hm hc (heap_alloc_new w1 (.cells #[.slice none 0 0, .int .u64 (tx0' : Nat), .int .u64 (no0 : Nat)] 101)) hb2 rfl hb1.size)
  have HB2 := Lib.hid (below_then hb1 hb2)
  clear h1 hb1 hb2
  go_upto_region 9 with fail
  generalize w1.alloc (.cells #[.slice none 0 0, .int .u64 (tx0' : Nat), .int .u64 (no0 : Nat)] 101) = W1 at *
  generalize w1.heap.size = gR at *
  clear f1 f1' f2 f2' f3 f3' f4 f4'
  go_wp2_with fail
  go_loopw [12] (fun s12 wr => ∃ (i tx no : Nat) (T : TT) (v : Value), i ≤ len ∧ s12 = .int .i64 i ∧ BothT w.heap.size wr g m c gR v tx no T ∧ Below w.heap.size w wr) (fun i _ => len - (intOf i).toNat)
  case atStart => exact ⟨0, _, _, [], _, Nat.zero_le _, rfl, HN.out, HB2.out⟩
  case round =>
    obtain ⟨i, tx, no, T, v, hi, rfl, hN, hB⟩ := hrel
    have HB := Lib.hid hB
    have HT := Lib.hid hN
    clear hN hB HN HB2
    by_cases hlt : i < len
    case neg =>
      obtain rfl : i = len := by omega
      go_wp2_with fail
      refine (WO.out _).mono ?_
      rintro e w3 ⟨rfl, hb⟩
      have HB3 := Lib.hid (below_then HB.out hb)
      clear hb
      go_wp2_with fail
      go_ret
      exact ⟨rfl, HB3.out⟩
    obtain ⟨rfl, hbl⟩ := HL.out.at_ (by omega)
    have hiL : i < L.length := by rw [HL.out.n]; exact hlt
    have hok := HL.out.ok _ (List.getElem_mem hiL)
    have HCE := Lib.hid fun W (hW : Below w.heap.size w W) => (HL.out.below hW).cell i hiL
    have q0 : (0 : Int) ≤ (i : Int) := by omega
    have q1 : (i : Int) < (len : Int) := by omega
    generalize L[i] = A at *
    obtain ⟨D, ax, ⟨xt, xf, xl, xn, xp, xs⟩, an, wh⟩ := A
    simp only at HCE hok
    have hax : ax < 18446744073709551616 := by have := hok.2.1; simpa using this
    have hxt : xt < 18446744073709551616 := by have := hok.2.2.1; simpa using this
    have hwh : wh < 256 := hok.2.2.2.2.2.2.2.2.2
    clear hok
    have N1 := Lib.hid (tx_next wr HT.out.tt)
    go_wp2_with fail
    refine N1.out.mono ?_
    rintro e w3 ⟨rfl, hb⟩
    have HT3 := Lib.hid (HT.out.below hb)
    have HB3 := Lib.hid (below_then HB.out hb)
    clear hb
    go_upto_region 13 with fail
    go_cut [106] (fun s w' => s = .bool false ∧ (∃ (tx' no' : Nat) (T' : TT) (v' : Value), BothT w.heap.size w' g m c gR v' tx' no' T') ∧ Below w.heap.size w w')
    case first =>
      have k1 := HT3.out.rt.c1
      have k2 := HT3.out.rt.c2
      obtain ⟨c0, c1, c2, c3, c4, c5, c6, c7, c8, c9⟩ := HCE.out _ HB3.out
      have DO := Lib.hid fun (W : World) (hW : BothT w.heap.size W g m c gR v tx no T) (hs : w.heap.size ≤ W.heap.size) => tdoes_any w.heap.size W hW hs D ax xt xf xl xn xp xs an wh hax hxt hwh
      have hbd := (Below.refl w3.heap.size w3).drew
      have HTd := Lib.hid (HT3.out.below hbd)
      have HBd := Lib.hid (below_then HB3.out hbd)
      clear hbd
      refine wp_region_held_drew (S := fun _ => True) (by kernel_rfl) trivial (fun hHeld => ?_)
      refine wpAnyH_take (i := 0) (oi := { dst := some 73, op := Go.Op.move (Go.Operand.tmp 13), type := 27, pos := "law.go:101", after := #[], guard := none }) (v := ?_) rfl (by kernel_rfl) (by kernel_rfl) (by kernel_rfl) (fun _ _ _ h => h) (Or.inl ⟨by rfl, ?_⟩) trivial ?_
      rotate_left
      · (intro w hSw; go_simp <;> with_reducible rfl)
      simp only [Act.put, List.setIfInBounds_toArray, List.set_cons_zero, List.set_cons_succ]
      refine wpAnyH_take (i := 1) (oi := { dst := some 74, op := Go.Op.move (Go.Operand.tmp 11), type := 99, pos := "law.go:101", after := #[], guard := none }) (v := ?_) rfl (by kernel_rfl) (by kernel_rfl) (by kernel_rfl) (fun _ _ _ h => h) (Or.inl ⟨by rfl, ?_⟩) trivial ?_
      rotate_left
      · (intro w hSw; go_simp <;> with_reducible rfl)
      simp only [Act.put, List.setIfInBounds_toArray, List.set_cons_zero, List.set_cons_succ]
      refine wpAnyH_take (i := 2) (oi := { dst := some 75, op := Go.Op.nilCheck (Go.Operand.tmp 74), type := 0, pos := "law.go:101", after := #[{ on := 1, ground := Go.Ground.data }], guard := none }) (v := ?_) rfl (by kernel_rfl) (by kernel_rfl) (by kernel_rfl) (fun _ _ _ h => h) (Or.inl ⟨by rfl, ?_⟩) trivial ?_
      rotate_left
      · (intro w hSw; go_simp <;> with_reducible rfl)
      simp only [Act.put, List.setIfInBounds_toArray, List.set_cons_zero, List.set_cons_succ]
      refine wpAnyH_take (i := 3) (oi := { dst := some 76, op := Go.Op.fieldAddr 101 (Go.Operand.tmp 75) 1, type := 0, pos := "law.go:101", after := #[{ on := 2, ground := Go.Ground.data }], guard := none }) (v := ?_) rfl (by kernel_rfl) (by kernel_rfl) (by kernel_rfl) (fun _ _ _ h => h) (Or.inl ⟨by rfl, ?_⟩) trivial ?_
      rotate_left
      · (intro w hSw; go_simp <;> with_reducible rfl)
      simp only [Act.put, List.setIfInBounds_toArray, List.set_cons_zero, List.set_cons_succ]
      refine wpAnyH_ready (rs := [4]) (by kernel_rfl) (by simp) (AllReadyH.cons (o := { dst := some 77, op := Go.Op.load 27 (Go.Operand.tmp 76), type := 27, pos := "law.go:101", after := #[{ on := 3, ground := Go.Ground.data }], guard := none }) rfl (fun K hK => ?_) AllReadyH.nil)
      go_simp
      refine hK.out _ _ trivial (fun hHeld => ?_)
      clear hK K
      (try simp only [Act.put, List.setIfInBounds_toArray, List.set_cons_zero, List.set_cons_succ])
      refine wpAnyH_take (i := 5) (oi := { dst := some 78, op := Go.Op.binOp Go.BinOp.neq 27 (Go.Operand.tmp 73) (Go.Operand.tmp 77) 27, type := 4, pos := "law.go:101", after := #[{ on := 0, ground := Go.Ground.data }, { on := 4, ground := Go.Ground.data }], guard := none }) (v := ?_) rfl (by kernel_rfl) (by kernel_rfl) (by kernel_rfl) (fun _ _ _ h => h) (Or.inl ⟨by rfl, ?_⟩) trivial ?_
      rotate_left
      · (intro w hSw; go_simp <;> with_reducible rfl)
      simp only [Act.put, List.setIfInBounds_toArray, List.set_cons_zero, List.set_cons_succ]
      refine wpAnyH_take (i := 6) (oi := { dst := some 79, op := Go.Op.move (Go.Operand.tmp 78), type := 4, pos := "law.go:101", after := #[{ on := 5, ground := Go.Ground.data }], guard := none }) (v := ?_) rfl (by kernel_rfl) (by kernel_rfl) (by kernel_rfl) (fun _ _ _ h => h) (Or.inl ⟨by rfl, ?_⟩) trivial ?_
      rotate_left
      · (intro w hSw; go_simp <;> with_reducible rfl)
      simp only [Act.put, List.setIfInBounds_toArray, List.set_cons_zero, List.set_cons_succ]
      refine wpAnyH_take (i := 7) (oi := { dst := some 80, op := Go.Op.move (Go.Operand.tmp 14), type := 27, pos := "law.go:101", after := #[{ on := 6, ground := Go.Ground.guard }], guard := some (6, false) }) (v := ?_) rfl (by kernel_rfl) (by kernel_rfl) (by kernel_rfl) (fun _ _ _ h => h) (Or.inl ⟨by rfl, ?_⟩) trivial ?_
      rotate_left
      · (intro w hSw; go_simp <;> with_reducible rfl)
      simp only [Act.put, List.setIfInBounds_toArray, List.set_cons_zero, List.set_cons_succ]
      refine wpAnyH_take (i := 8) (oi := { dst := some 81, op := Go.Op.move (Go.Operand.tmp 11), type := 99, pos := "law.go:101", after := #[{ on := 6, ground := Go.Ground.guard }], guard := some (6, false) }) (v := ?_) rfl (by kernel_rfl) (by kernel_rfl) (by kernel_rfl) (fun _ _ _ h => h) (Or.inl ⟨by rfl, ?_⟩) trivial ?_
      rotate_left
      · (intro w hSw; go_simp <;> with_reducible rfl)
      simp only [Act.put, List.setIfInBounds_toArray, List.set_cons_zero, List.set_cons_succ]
      refine wpAnyH_take (i := 9) (oi := { dst := some 82, op := Go.Op.nilCheck (Go.Operand.tmp 81), type := 0, pos := "law.go:101", after := #[{ on := 8, ground := Go.Ground.data }, { on := 6, ground := Go.Ground.guard }], guard := some (6, false) }) (v := ?_) rfl (by kernel_rfl) (by kernel_rfl) (by kernel_rfl) (fun _ _ _ h => h) (Or.inl ⟨by rfl, ?_⟩) trivial ?_
      rotate_left
      · (intro w hSw; go_simp <;> with_reducible rfl)
      simp only [Act.put, List.setIfInBounds_toArray, List.set_cons_zero, List.set_cons_succ]
      refine wpAnyH_take (i := 10) (oi := { dst := some 83, op := Go.Op.fieldAddr 101 (Go.Operand.tmp 82) 2, type := 0, pos := "law.go:101", after := #[{ on := 9, ground := Go.Ground.data }, { on := 6, ground := Go.Ground.guard }], guard := some (6, false) }) (v := ?_) rfl (by kernel_rfl) (by kernel_rfl) (by kernel_rfl) (fun _ _ _ h => h) (Or.inl ⟨by rfl, ?_⟩) trivial ?_
      rotate_left
      · (intro w hSw; go_simp <;> with_reducible rfl)
      simp only [Act.put, List.setIfInBounds_toArray, List.set_cons_zero, List.set_cons_succ]
      refine wpAnyH_ready (rs := [11]) (by kernel_rfl) (by simp) (AllReadyH.cons (o := { dst := some 84, op := Go.Op.load 27 (Go.Operand.tmp 83), type := 27, pos := "law.go:101", after := #[{ on := 10, ground := Go.Ground.data }, { on := 6, ground := Go.Ground.guard }], guard := some (6, false) }) rfl (fun K hK => ?_) AllReadyH.nil)
      go_simp
      refine hK.out _ _ trivial (fun hHeld => ?_)
      clear hK K
      (try simp only [Act.put, List.setIfInBounds_toArray, List.set_cons_zero, List.set_cons_succ])
      refine wpAnyH_take (i := 12) (oi := { dst := some 85, op := Go.Op.binOp Go.BinOp.neq 27 (Go.Operand.tmp 80) (Go.Operand.tmp 84) 27, type := 4, pos := "law.go:101", after := #[{ on := 7, ground := Go.Ground.data }, { on := 11, ground := Go.Ground.data }, { on := 6, ground := Go.Ground.guard }], guard := some (6, false) }) (v := ?_) rfl (by kernel_rfl) (by kernel_rfl) (by kernel_rfl) (fun _ _ _ h => h) (Or.inl ⟨by rfl, ?_⟩) trivial ?_
      rotate_left
      · (intro w hSw; go_simp <;> with_reducible rfl)
      simp only [Act.put, List.setIfInBounds_toArray, List.set_cons_zero, List.set_cons_succ]
      refine wpAnyH_take (i := 13) (oi := { dst := some 86, op := Go.Op.pick (Go.Operand.tmp 79) (Go.Operand.const (Go.Value.bool true)) (Go.Operand.tmp 85), type := 4, pos := "law.go:101", after := #[{ on := 6, ground := Go.Ground.data }, { on := 12, ground := Go.Ground.data }], guard := none }) (v := ?_) rfl (by kernel_rfl) (by kernel_rfl) (by kernel_rfl) (fun _ _ _ h => h) (Or.inl ⟨by rfl, ?_⟩) trivial ?_
      rotate_left
      · (intro w hSw; go_simp <;> with_reducible rfl)
      simp only [Act.put, List.setIfInBounds_toArray, List.set_cons_zero, List.set_cons_succ]
      refine wpAnyH_take (i := 14) (oi := { dst := some 87, op := Go.Op.move (Go.Operand.tmp 86), type := 4, pos := "law.go:101", after := #[{ on := 13, ground := Go.Ground.data }, { on := 6, ground := Go.Ground.chain }], guard := none }) (v := ?_) rfl (by kernel_rfl) (by kernel_rfl) (by kernel_rfl) (fun _ _ _ h => h) (Or.inl ⟨by rfl, ?_⟩) trivial ?_
      rotate_left
      · (intro w hSw; go_simp <;> with_reducible rfl)
      simp only [Act.put, List.setIfInBounds_toArray, List.set_cons_zero, List.set_cons_succ]
      refine wpAnyH_take (i := 15) (oi := { dst := some 88, op := Go.Op.move (Go.Operand.tmp 9), type := 58, pos := "law.go:101", after := #[{ on := 14, ground := Go.Ground.guard }], guard := some (14, false) }) (v := ?_) rfl (by kernel_rfl) (by kernel_rfl) (by kernel_rfl) (fun _ _ _ h => h) (Or.inl ⟨by rfl, ?_⟩) trivial ?_
      rotate_left
      · (intro w hSw; go_simp <;> with_reducible rfl)
      simp only [Act.put, List.setIfInBounds_toArray, List.set_cons_zero, List.set_cons_succ]
      refine wpAnyH_take (i := 16) (oi := { dst := some 89, op := Go.Op.move (Go.Operand.tmp 11), type := 99, pos := "law.go:101", after := #[{ on := 14, ground := Go.Ground.guard }], guard := some (14, false) }) (v := ?_) rfl (by kernel_rfl) (by kernel_rfl) (by kernel_rfl) (fun _ _ _ h => h) (Or.inl ⟨by rfl, ?_⟩) trivial ?_
      rotate_left
      · (intro w hSw; go_simp <;> with_reducible rfl)
      simp only [Act.put, List.setIfInBounds_toArray, List.set_cons_zero, List.set_cons_succ]
      refine wpAnyH_take (i := 17) (oi := { dst := some 90, op := Go.Op.move (Go.Operand.tmp 2), type := 57, pos := "law.go:101", after := #[{ on := 14, ground := Go.Ground.guard }], guard := some (14, false) }) (v := ?_) rfl (by kernel_rfl) (by kernel_rfl) (by kernel_rfl) (fun _ _ _ h => h) (Or.inl ⟨by rfl, ?_⟩) trivial ?_
      rotate_left
      · (intro w hSw; go_simp <;> with_reducible rfl)
      simp only [Act.put, List.setIfInBounds_toArray, List.set_cons_zero, List.set_cons_succ]
      refine wpAnyH_take (i := 18) (oi := { dst := some 91, op := Go.Op.move (Go.Operand.tmp 12), type := 3, pos := "law.go:101", after := #[{ on := 14, ground := Go.Ground.guard }], guard := some (14, false) }) (v := ?_) rfl (by kernel_rfl) (by kernel_rfl) (by kernel_rfl) (fun _ _ _ h => h) (Or.inl ⟨by rfl, ?_⟩) trivial ?_
      rotate_left
      · (intro w hSw; go_simp <;> with_reducible rfl)
      simp only [Act.put, List.setIfInBounds_toArray, List.set_cons_zero, List.set_cons_succ]
      refine wpAnyH_take (i := 19) (oi := { dst := some 92, op := Go.Op.indexAddr 57 (Go.Operand.tmp 90) (Go.Operand.tmp 91), type := 0, pos := "law.go:101", after := #[{ on := 17, ground := Go.Ground.data }, { on := 18, ground := Go.Ground.data }, { on := 14, ground := Go.Ground.guard }], guard := some (14, false) }) (v := ?_) rfl (by kernel_rfl) (by kernel_rfl) (by kernel_rfl) (fun _ _ _ h => h) (Or.inl ⟨by rfl, ?_⟩) trivial ?_
      rotate_left
      · (intro w hSw; go_simp <;> with_reducible rfl)
      simp only [Act.put, List.setIfInBounds_toArray, List.set_cons_zero, List.set_cons_succ]
      refine wpAnyH_ready (rs := [20]) (by kernel_rfl) (by simp) (AllReadyH.cons (o := { dst := some 93, op := Go.Op.load 70 (Go.Operand.tmp 92), type := 70, pos := "law.go:101", after := #[{ on := 19, ground := Go.Ground.data }, { on := 14, ground := Go.Ground.guard }], guard := some (14, false) }) rfl (fun K hK => ?_) AllReadyH.nil)
      go_simp
      refine hK.out _ _ trivial (fun hHeld => ?_)
      clear hK K
      (try simp only [Act.put, List.setIfInBounds_toArray, List.set_cons_zero, List.set_cons_succ])
      refine wpAnyH_ready (rs := [21]) (by kernel_rfl) (by simp) (AllReadyH.cons (o := { dst := some 94, op := Go.Op.call { callee := Go.Callee.value (Go.Operand.func 53), args := #[Go.Operand.tmp 88, Go.Operand.tmp 89, Go.Operand.tmp 93], argTypes := #[58, 99, 70] }, type := 4, pos := "law.go:101", after := #[{ on := 15, ground := Go.Ground.data }, { on := 16, ground := Go.Ground.data }, { on := 20, ground := Go.Ground.data }, { on := 14, ground := Go.Ground.chain }, { on := 14, ground := Go.Ground.guard }], guard := some (14, false) }) rfl (fun K hK => ?_) AllReadyH.nil)
      go_simp
      refine (DO.out _ HTd.out HBd.out.size).mono ?_
      rintro e w5 ⟨rfl, ⟨v5, tx5, no5, T5, h5⟩, hk5⟩
      obtain ⟨vb5, cp5, rfl, _, _, _, _⟩ := h5.rt.form
      have HT5 := Lib.hid h5
      have HB5 := Lib.hid (OthersKept.below HBd.out hk5 (fun k hk e => by omega))
      have r5 := h5.rt.c0
      clear h5 hk5
      (try go_wp2_with fail)
      refine hK.out _ _ trivial (fun hHeld => ?_)
      clear hK K
      (try simp only [Act.put, List.setIfInBounds_toArray, List.set_cons_zero, List.set_cons_succ])
      refine wpAnyH_take (i := 22) (oi := { dst := some 95, op := Go.Op.unOp Go.UnOp.not 4 (Go.Operand.tmp 94), type := 4, pos := "law.go:101", after := #[{ on := 21, ground := Go.Ground.data }, { on := 14, ground := Go.Ground.guard }], guard := some (14, false) }) (v := ?_) rfl (by kernel_rfl) (by kernel_rfl) (by kernel_rfl) (fun _ _ _ h => h) (Or.inl ⟨by rfl, ?_⟩) trivial ?_
      rotate_left
      · (intro w hSw; go_simp <;> with_reducible rfl)
      simp only [Act.put, List.setIfInBounds_toArray, List.set_cons_zero, List.set_cons_succ]
      refine wpAnyH_take (i := 23) (oi := { dst := some 96, op := Go.Op.pick (Go.Operand.tmp 87) (Go.Operand.const (Go.Value.bool true)) (Go.Operand.tmp 95), type := 4, pos := "law.go:101", after := #[{ on := 14, ground := Go.Ground.data }, { on := 22, ground := Go.Ground.data }], guard := none }) (v := ?_) rfl (by kernel_rfl) (by kernel_rfl) (by kernel_rfl) (fun _ _ _ h => h) (Or.inl ⟨by rfl, ?_⟩) trivial ?_
      rotate_left
      · (intro w hSw; go_simp <;> with_reducible rfl)
      simp only [Act.put, List.setIfInBounds_toArray, List.set_cons_zero, List.set_cons_succ]
      refine wpAnyH_take (i := 24) (oi := { dst := some 97, op := Go.Op.move (Go.Operand.tmp 96), type := 4, pos := "law.go:101", after := #[{ on := 23, ground := Go.Ground.data }, { on := 21, ground := Go.Ground.chain }], guard := none }) (v := ?_) rfl (by kernel_rfl) (by kernel_rfl) (by kernel_rfl) (fun _ _ _ h => h) (Or.inl ⟨by rfl, ?_⟩) trivial ?_
      rotate_left
      · (intro w hSw; go_simp <;> with_reducible rfl)
      simp only [Act.put, List.setIfInBounds_toArray, List.set_cons_zero, List.set_cons_succ]
      refine wpAnyH_take (i := 25) (oi := { dst := some 98, op := Go.Op.move (Go.Operand.tmp 9), type := 58, pos := "law.go:101", after := #[{ on := 24, ground := Go.Ground.guard }], guard := some (24, false) }) (v := ?_) rfl (by kernel_rfl) (by kernel_rfl) (by kernel_rfl) (fun _ _ _ h => h) (Or.inl ⟨by rfl, ?_⟩) trivial ?_
      rotate_left
      · (intro w hSw; go_simp <;> with_reducible rfl)
      simp only [Act.put, List.setIfInBounds_toArray, List.set_cons_zero, List.set_cons_succ]
      refine wpAnyH_take (i := 27) (oi := { dst := some 100, op := Go.Op.move (Go.Operand.tmp 11), type := 99, pos := "law.go:101", after := #[{ on := 24, ground := Go.Ground.guard }], guard := some (24, false) }) (v := ?_) rfl (by kernel_rfl) (by kernel_rfl) (by kernel_rfl) (fun _ _ _ h => h) (Or.inl ⟨by rfl, ?_⟩) trivial ?_
      rotate_left
      · (intro w hSw; go_simp <;> with_reducible rfl)
      simp only [Act.put, List.setIfInBounds_toArray, List.set_cons_zero, List.set_cons_succ]
      refine wpAnyH_take (i := 28) (oi := { dst := some 101, op := Go.Op.nilCheck (Go.Operand.tmp 100), type := 0, pos := "law.go:101", after := #[{ on := 27, ground := Go.Ground.data }, { on := 24, ground := Go.Ground.guard }], guard := some (24, false) }) (v := ?_) rfl (by kernel_rfl) (by kernel_rfl) (by kernel_rfl) (fun _ _ _ h => h) (Or.inl ⟨by rfl, ?_⟩) trivial ?_
      rotate_left
      · (intro w hSw; go_simp <;> with_reducible rfl)
      simp only [Act.put, List.setIfInBounds_toArray, List.set_cons_zero, List.set_cons_succ]
      refine wpAnyH_take (i := 29) (oi := { dst := some 102, op := Go.Op.fieldAddr 101 (Go.Operand.tmp 101) 0, type := 0, pos := "law.go:101", after := #[{ on := 28, ground := Go.Ground.data }, { on := 24, ground := Go.Ground.guard }], guard := some (24, false) }) (v := ?_) rfl (by kernel_rfl) (by kernel_rfl) (by kernel_rfl) (fun _ _ _ h => h) (Or.inl ⟨by rfl, ?_⟩) trivial ?_
      rotate_left
      · (intro w hSw; go_simp <;> with_reducible rfl)
      simp only [Act.put, List.setIfInBounds_toArray, List.set_cons_zero, List.set_cons_succ]
      refine wpAnyH_ready (rs := [26, 30]) (by kernel_rfl) (by simp) (AllReadyH.cons (o := { dst := some 99, op := Go.Op.call { callee := Go.Callee.value (Go.Operand.func 38), args := #[Go.Operand.tmp 98], argTypes := #[58] }, type := 61, pos := "law.go:101", after := #[{ on := 25, ground := Go.Ground.data }, { on := 24, ground := Go.Ground.chain }, { on := 24, ground := Go.Ground.guard }], guard := some (24, false) }) rfl (fun K hK => ?_) (AllReadyH.cons (o := { dst := some 103, op := Go.Op.load 61 (Go.Operand.tmp 102), type := 61, pos := "law.go:101", after := #[{ on := 29, ground := Go.Ground.data }, { on := 24, ground := Go.Ground.guard }], guard := some (24, false) }) rfl (fun K hK => ?_) AllReadyH.nil))
      · go_simp
        refine (tx_all _ HT5.out.tt).mono ?_
        rintro e w6 ⟨v6, rfl, ho6, hb6⟩
        have HT6 := Lib.hid (HT5.out.below hb6)
        have HO6 := Lib.hid ho6
        have HB6 := Lib.hid (below_then HB5.out hb6)
        have r6 := HT6.out.rt.c0
        clear ho6 hb6
        (try go_wp2_with fail)
        refine hK.out _ _ trivial (fun hHeld => ?_)
        clear hK K
        (try simp only [Act.put, List.setIfInBounds_toArray, List.set_cons_zero, List.set_cons_succ])
        refine wpAnyH_ready (rs := [30]) (by kernel_rfl) (by simp) (AllReadyH.cons (o := { dst := some 103, op := Go.Op.load 61 (Go.Operand.tmp 102), type := 61, pos := "law.go:101", after := #[{ on := 29, ground := Go.Ground.data }, { on := 24, ground := Go.Ground.guard }], guard := some (24, false) }) rfl (fun K hK => ?_) AllReadyH.nil)
        go_simp
        refine hK.out _ _ trivial (fun hHeld => ?_)
        clear hK K
        (try simp only [Act.put, List.setIfInBounds_toArray, List.set_cons_zero, List.set_cons_succ])
        refine wpAnyH_ready (rs := [31]) (by kernel_rfl) (by simp) (AllReadyH.cons (o := { dst := some 104, op := Go.Op.call { callee := Go.Callee.value (Go.Operand.func 54), args := #[Go.Operand.tmp 99, Go.Operand.tmp 103], argTypes := #[61, 61] }, type := 4, pos := "law.go:101", after := #[{ on := 26, ground := Go.Ground.data }, { on := 30, ground := Go.Ground.data }, { on := 26, ground := Go.Ground.chain }, { on := 24, ground := Go.Ground.guard }], guard := some (24, false) }) rfl (fun K hK => ?_) AllReadyH.nil)
        go_simp
        refine (tsame_any T5 _ _ _ _ _ HO6.out HT6.out.rt.row HT6.out.rt.small).mono ?_
        rintro e w7 ⟨rfl, hb7⟩
        have HT7 := Lib.hid (HT6.out.below hb7)
        have HB7 := Lib.hid (below_then HB6.out hb7)
        clear hb7
        (try go_wp2_with fail)
        refine hK.out _ _ trivial (fun hHeld => ?_)
        clear hK K
        (try simp only [Act.put, List.setIfInBounds_toArray, List.set_cons_zero, List.set_cons_succ])
        refine wpAnyH_take (i := 32) (oi := { dst := some 105, op := Go.Op.unOp Go.UnOp.not 4 (Go.Operand.tmp 104), type := 4, pos := "law.go:101", after := #[{ on := 31, ground := Go.Ground.data }, { on := 24, ground := Go.Ground.guard }], guard := some (24, false) }) (v := ?_) rfl (by kernel_rfl) (by kernel_rfl) (by kernel_rfl) (fun _ _ _ h => h) (Or.inl ⟨by rfl, ?_⟩) trivial ?_
        rotate_left
        · (intro w hSw; go_simp <;> with_reducible rfl)
        simp only [Act.put, List.setIfInBounds_toArray, List.set_cons_zero, List.set_cons_succ]
        refine wpAnyH_take (i := 33) (oi := { dst := some 106, op := Go.Op.pick (Go.Operand.tmp 97) (Go.Operand.const (Go.Value.bool true)) (Go.Operand.tmp 105), type := 4, pos := "law.go:101", after := #[{ on := 24, ground := Go.Ground.data }, { on := 32, ground := Go.Ground.data }], guard := none }) (v := ?_) rfl (by kernel_rfl) (by kernel_rfl) (by kernel_rfl) (fun _ _ _ h => h) (Or.inl ⟨by rfl, ?_⟩) trivial ?_
        rotate_left
        · (intro w hSw; go_simp <;> with_reducible rfl)
        simp only [Act.put, List.setIfInBounds_toArray, List.set_cons_zero, List.set_cons_succ]
        refine wpAnyH_done (by kernel_rfl) ?_ _
        go_wp2_with fail
        go_meet
        exact ⟨rfl, ⟨_, _, _, _, HT7.out⟩, HB7.out⟩
      · go_simp
        refine hK.out _ _ trivial (fun hHeld => ?_)
        clear hK K
        (try simp only [Act.put, List.setIfInBounds_toArray, List.set_cons_zero, List.set_cons_succ])
        refine wpAnyH_ready (rs := [26]) (by kernel_rfl) (by simp) (AllReadyH.cons (o := { dst := some 99, op := Go.Op.call { callee := Go.Callee.value (Go.Operand.func 38), args := #[Go.Operand.tmp 98], argTypes := #[58] }, type := 61, pos := "law.go:101", after := #[{ on := 25, ground := Go.Ground.data }, { on := 24, ground := Go.Ground.chain }, { on := 24, ground := Go.Ground.guard }], guard := some (24, false) }) rfl (fun K hK => ?_) AllReadyH.nil)
        go_simp
        refine (tx_all _ HT5.out.tt).mono ?_
        rintro e w6 ⟨v6, rfl, ho6, hb6⟩
        have HT6 := Lib.hid (HT5.out.below hb6)
        have HO6 := Lib.hid ho6
        have HB6 := Lib.hid (below_then HB5.out hb6)
        have r6 := HT6.out.rt.c0
        clear ho6 hb6
        (try go_wp2_with fail)
        refine hK.out _ _ trivial (fun hHeld => ?_)
        clear hK K
        (try simp only [Act.put, List.setIfInBounds_toArray, List.set_cons_zero, List.set_cons_succ])
        refine wpAnyH_ready (rs := [31]) (by kernel_rfl) (by simp) (AllReadyH.cons (o := { dst := some 104, op := Go.Op.call { callee := Go.Callee.value (Go.Operand.func 54), args := #[Go.Operand.tmp 99, Go.Operand.tmp 103], argTypes := #[61, 61] }, type := 4, pos := "law.go:101", after := #[{ on := 26, ground := Go.Ground.data }, { on := 30, ground := Go.Ground.data }, { on := 26, ground := Go.Ground.chain }, { on := 24, ground := Go.Ground.guard }], guard := some (24, false) }) rfl (fun K hK => ?_) AllReadyH.nil)
        go_simp
        refine (tsame_any T5 _ _ _ _ _ HO6.out HT6.out.rt.row HT6.out.rt.small).mono ?_
        rintro e w7 ⟨rfl, hb7⟩
        have HT7 := Lib.hid (HT6.out.below hb7)
        have HB7 := Lib.hid (below_then HB6.out hb7)
        clear hb7
        (try go_wp2_with fail)
        refine hK.out _ _ trivial (fun hHeld => ?_)
        clear hK K
        (try simp only [Act.put, List.setIfInBounds_toArray, List.set_cons_zero, List.set_cons_succ])
        refine wpAnyH_take (i := 32) (oi := { dst := some 105, op := Go.Op.unOp Go.UnOp.not 4 (Go.Operand.tmp 104), type := 4, pos := "law.go:101", after := #[{ on := 31, ground := Go.Ground.data }, { on := 24, ground := Go.Ground.guard }], guard := some (24, false) }) (v := ?_) rfl (by kernel_rfl) (by kernel_rfl) (by kernel_rfl) (fun _ _ _ h => h) (Or.inl ⟨by rfl, ?_⟩) trivial ?_
        rotate_left
        · (intro w hSw; go_simp <;> with_reducible rfl)
        simp only [Act.put, List.setIfInBounds_toArray, List.set_cons_zero, List.set_cons_succ]
        refine wpAnyH_take (i := 33) (oi := { dst := some 106, op := Go.Op.pick (Go.Operand.tmp 97) (Go.Operand.const (Go.Value.bool true)) (Go.Operand.tmp 105), type := 4, pos := "law.go:101", after := #[{ on := 24, ground := Go.Ground.data }, { on := 32, ground := Go.Ground.data }], guard := none }) (v := ?_) rfl (by kernel_rfl) (by kernel_rfl) (by kernel_rfl) (fun _ _ _ h => h) (Or.inl ⟨by rfl, ?_⟩) trivial ?_
        rotate_left
        · (intro w hSw; go_simp <;> with_reducible rfl)
        simp only [Act.put, List.setIfInBounds_toArray, List.set_cons_zero, List.set_cons_succ]
        refine wpAnyH_done (by kernel_rfl) ?_ _
        go_wp2_with fail
        go_meet
        exact ⟨rfl, ⟨_, _, _, _, HT7.out⟩, HB7.out⟩
    case rest =>
      obtain ⟨rfl, ⟨tx', no', T', v', hT⟩, hb⟩ := hcut
      have HT8 := Lib.hid hT
      have HB8 := Lib.hid hb
      clear hT hb HT3 HB3
      have G1 := Lib.hid (tx_get wc HT8.out.tt ask hask)
      have G2 := Lib.hid fun W (hW : RtAt W gR v' tx' no' T') => rt_get gR v' tx' no' T' ask W hW
      generalize (getT T' ask).isSome = is at *
      generalize (getT T' ask).getD (tx0 0) = y at *
      have nx := neX_self y
      obtain ⟨yt, yf, yl, yn, yp, ys⟩ := y
      simp only [TX.val] at nx G1 G2
      go_wp2_with fail
      refine G1.out.mono ?_
      rintro e w9 ⟨rfl, hb⟩
      have hB9 := (Below.refl w9.heap.size w9).alloc (Nat.le_refl _) (.cells #[.int .u64 (yt : Nat), .int .u64 (yf : Nat), .int .u64 (yl : Nat), .int .u64 (yn : Nat), .int .u32 (yp : Nat), .int .u16 (ys : Nat)] 68)
      have PX := Lib.hid (heap_alloc_new w9 (.cells #[.int .u64 (yt : Nat), .int .u64 (yf : Nat), .int .u64 (yl : Nat), .int .u64 (yn : Nat), .int .u32 (yp : Nat), .int .u16 (ys : Nat)] 68))
      have HT9 := Lib.hid (HT8.out.below (below_then hb hB9))
      have HB9 := Lib.hid (below_then HB8.out (below_then hb hB9))
      clear hb hB9
      go_upto_region 16 with fail
      generalize w9.heap.size = pb at *
      generalize w9.alloc (.cells #[.int .u64 (yt : Nat), .int .u64 (yf : Nat), .int .u64 (yl : Nat), .int .u64 (yn : Nat), .int .u32 (yp : Nat), .int .u16 (ys : Nat)] 68) = W9 at *
      have G3 := Lib.hid (G2.out W9 HT9.out.rt)
      go_wp2_with fail
      refine G3.out.mono ?_
      rintro e w10 ⟨rfl, hb⟩
      have hB10 := (Below.refl w10.heap.size w10).alloc (Nat.le_refl _) (.cells #[.int .u64 (yt : Nat), .int .u64 (yf : Nat), .int .u64 (yl : Nat), .int .u64 (yn : Nat), .int .u32 (yp : Nat), .int .u16 (ys : Nat)] 68)
      have px := (hb.block _ (blk_lt PX.out)).trans PX.out
      have PX10 := Lib.hid ((hB10.block _ (blk_lt px)).trans px)
      have PY10 := Lib.hid (heap_alloc_new w10 (.cells #[.int .u64 (yt : Nat), .int .u64 (yf : Nat), .int .u64 (yl : Nat), .int .u64 (yn : Nat), .int .u32 (yp : Nat), .int .u16 (ys : Nat)] 68))
      have HT10 := Lib.hid (HT9.out.below (below_then hb hB10))
      have HB10 := Lib.hid (below_then HB9.out (below_then hb hB10))
      clear hb hB10 px
      go_upto_region 17 with fail
      generalize w10.heap.size = qb at *
      generalize w10.alloc (.cells #[.int .u64 (yt : Nat), .int .u64 (yf : Nat), .int .u64 (yl : Nat), .int .u64 (yn : Nat), .int .u32 (yp : Nat), .int .u16 (ys : Nat)] 68) = W10 at *
      obtain ⟨⟨x0, x1, x2, x3, x4, x5⟩, _⟩ := cells6 PX10.out
      obtain ⟨⟨y0, y1, y2, y3, y4, y5⟩, _⟩ := cells6 PY10.out
      go_wp2_with fail
      go_roundw
      case rel => exact ⟨i + 1, tx', no', T', v', by omega, by go_num, HT10.out, HB10.out⟩
      case measure => simp [intOf]; omega

end Go.Proofs.Ytoeaakadpillnaa
