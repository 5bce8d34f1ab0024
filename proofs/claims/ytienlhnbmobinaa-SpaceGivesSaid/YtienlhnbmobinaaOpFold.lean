/- chapter 11: an op's parts, one behind the other -/
import Derived.Test.YtienlhnbmobinaaRows
import Derived.Test.YtienlhnbmobinaaOpRows
import Derived.Test.YtienlhnbmobinaaOpPart
import Derived.Test.YtienlhnbmobinaaOpPiece
import Derived.Test.YtienlhnbmobinaaOpNum
import Derived.Test.YtienlhnbmobinaaOpPlain
import Derived.Test.YtienlhnbmobinaaOpWord
import Derived.Test.YtienlhnbmobinaaBase
import Derived.Test.YtienlhnbmobinaaTextsP
import Derived.Deep.CutBlock
import Derived.WalkKit
import Derived.WalkLawsBesides
import Derived.WalkSpells
import Derived.LoopTactic
import Derived.WalkMore
import Derived.LoopN
import Derived.Laws.BitsAllLaws
import Derived.Laws.IdiomStrings
import Derived.BigQuiet
import Derived.Deep.QuietTactic
import Derived.Deep.DeepCutAuto
import Derived.Deep.RegionHeld3
import Derived.Deep.DrawnRows
import Derived.Lib.Hide
import Derived.Outline
import Derived.Deep.DeepMust
import Derived.Handy
namespace Go.Proofs.Ytienlhnbmobinaa
open Go.RowKit
set_option linter.unusedVariables false
set_option linter.unusedSimpArgs false

theorem num_s (c : Cd) (size most : Nat) (v : Int) : (c.num size most v).s.length ≤ c.s.length + size ∧ (c.num size most v).at_ ≤ c.at_ + size := by
  refine ⟨?_, ?_⟩
  · simp only [Cd.num, Cd.numS]
    split
    · omega
    · rw [List.length_append]
      split
      · rw [be_length]; omega
      · simp
  · simp only [Cd.num, Cd.numA]
    split <;> omega
theorem piece_s (c : Cd) (t : List UInt8) (ht : t.length ≤ 65535) : (c.piece t).s.length ≤ c.s.length + 65537 ∧ (c.piece t).at_ ≤ c.at_ + 65537 := by
  have h1 := num_s c 2 488 (t.length : Int)
  have h2 := rdNum_lt c.s c.at_ 2
  simp only [Nat.reducePow] at h2
  unfold Cd.piece
  split
  · exact ⟨by show c.s.length ≤ _; omega, by show c.at_ + 2 + _ ≤ _; omega⟩
  · refine ⟨?_, by show c.at_ ≤ _; omega⟩
    show ((c.num 2 488 (t.length : Int)).s ++ t).length ≤ _
    rw [List.length_append]
    omega
theorem numV_lt (c : Cd) (size v b : Nat) (hv : v < 256 ^ size) : (c.numV size (v : Int)).toNat < 256 ^ size := by
  unfold Cd.numV
  split
  · exact rdNum_lt _ _ _
  · exact hv
theorem numV_i (c : Cd) (v : Int) (hv : -9223372036854775808 ≤ v ∧ v ≤ 9223372036854775807) : -9223372036854775808 ≤ c.numV 2 v ∧ c.numV 2 v ≤ 9223372036854775807 := by
  unfold Cd.numV
  have h2 := rdNum_lt c.s c.at_ 2
  simp only [Nat.reducePow] at h2
  split
  · omega
  · exact hv
theorem Part.ok {c : Cd} {B : Nat} (p : Part) (hp : p ≠ .rows) (h : c.ok B) : (p.run c).ok (B + 70000) := by
  obtain ⟨⟨w1, w2, w3, w4, w5, w6, w7⟩, h2, h3, h4, h5, h6⟩ := h
  cases p with
  | rows => exact absurd rfl hp
  | kind => have := num_s c 1 5 (c.o.pk : Int); exact ⟨⟨w1, w2, w3, w4, numV_lt c 1 _ 0 (by simpa using w5), w6, w7⟩, h2, h3, h4, by show (c.num 1 5 (c.o.pk : Int)).s.length ≤ _; omega, by show (c.num 1 5 (c.o.pk : Int)).at_ ≤ _; omega⟩
  | level => have := num_s c 1 255 (c.o.lv : Int); exact ⟨⟨w1, w2, w3, w4, w5, numV_lt c 1 _ 0 (by simpa using w6), w7⟩, h2, h3, h4, by show (c.num 1 255 (c.o.lv : Int)).s.length ≤ _; omega, by show (c.num 1 255 (c.o.lv : Int)).at_ ≤ _; omega⟩
  | next => have := num_s c 4 1024 (c.o.nx : Int); exact ⟨⟨w1, w2, w3, w4, w5, w6, numV_lt c 4 _ 0 w7⟩, h2, h3, h4, by show (c.num 4 1024 (c.o.nx : Int)).s.length ≤ _; omega, by show (c.num 4 1024 (c.o.nx : Int)).at_ ≤ _; omega⟩
  | place => have := num_s c 2 488 c.o.at_; exact ⟨⟨w1, w2, numV_i c _ w3, w4, w5, w6, w7⟩, h2, h3, h4, by show (c.num 2 488 c.o.at_).s.length ≤ _; omega, by show (c.num 2 488 c.o.at_).at_ ≤ _; omega⟩
  | off => have := num_s c 2 488 c.o.off; exact ⟨⟨w1, w2, w3, numV_i c _ w4, w5, w6, w7⟩, h2, h3, h4, by show (c.num 2 488 c.o.off).s.length ≤ _; omega, by show (c.num 2 488 c.o.off).at_ ≤ _; omega⟩
  | text => have := piece_s c c.o.text h2; exact ⟨⟨w1, w2, w3, w4, w5, w6, w7⟩, pieceV_le c _ h2, h3, h4, by show (c.piece c.o.text).s.length ≤ _; omega, by show (c.piece c.o.text).at_ ≤ _; omega⟩
theorem Cd.ok.mono {c : Cd} {B B' : Nat} (h : c.ok B) (hb : B ≤ B') : c.ok B' := ⟨h.1, h.2.1, h.2.2.1, h.2.2.2.1, Nat.le_trans h.2.2.2.2.1 hb, Nat.le_trans h.2.2.2.2.2 hb⟩
theorem fold_ok : ∀ (ps : List Part) {c : Cd} {B : Nat}, (∀ p ∈ ps, p ≠ .rows) → c.ok B → (ps.foldl (fun c p => p.run c) c).ok (B + 70000 * ps.length)
  | [], _, _, _, h => h
  | p :: ps, c, B, hp, h => (fold_ok ps (fun q hq => hp q (List.mem_cons_of_mem _ hq)) (p.ok (hp p List.mem_cons_self) h)).mono (by rw [List.length_cons]; omega)
theorem head_ok {c : Cd} {B : Nat} (h : c.ok B) : c.head.ok (B + 5) ∧ c.head.o.rows = c.o.rows ∧ c.head.rd = c.rd := by
  obtain ⟨⟨w1, w2, w3, w4, w5, w6, w7⟩, h2, h3, h4, h5, h6⟩ := h
  have h7 := num_s c 1 255 (c.o.kind : Int)
  have h8 := num_s ((c.num 1 255 (c.o.kind : Int)).set { c.o with kind := (c.numV 1 (c.o.kind : Int)).toNat }) 4 1024 (c.o.page : Int)
  refine ⟨⟨⟨numV_lt c 1 _ 0 (by simpa using w1), numV_lt _ 4 _ 0 w2, w3, w4, w5, w6, w7⟩, h2, h3, h4, ?_, ?_⟩, rfl, rfl⟩
  · show (((c.num 1 255 (c.o.kind : Int)).set { c.o with kind := (c.numV 1 (c.o.kind : Int)).toNat }).num 4 1024 (c.o.page : Int)).s.length ≤ _
    have h9 : ((c.num 1 255 (c.o.kind : Int)).set { c.o with kind := (c.numV 1 (c.o.kind : Int)).toNat }).s.length = (c.num 1 255 (c.o.kind : Int)).s.length := rfl
    omega
  · show (((c.num 1 255 (c.o.kind : Int)).set { c.o with kind := (c.numV 1 (c.o.kind : Int)).toNat }).num 4 1024 (c.o.page : Int)).at_ ≤ _
    have h9 : ((c.num 1 255 (c.o.kind : Int)).set { c.o with kind := (c.numV 1 (c.o.kind : Int)).toNat }).at_ = (c.num 1 255 (c.o.kind : Int)).at_ := rfl
    omega
def fnOf : Part → Nat
  | .kind => 200
  | .level => 201
  | .next => 202
  | .place => 203
  | .off => 206
  | .text => 204
  | .rows => 205
theorem part_any (p : Part) (w : World) (m gk go : Nat) (c : Cd) (h : CAt w m gk go c) (hm : m ≤ w.heap.size) (hc : c.ok 700000) (hr : p = .rows → c.rd = true → c.o.rows = []) :
    Calls Try.prog (fnOf p) #[.pointer (some ⟨gk, 0, none⟩)] w fun e w' => PartPost w m gk go (p.run c) e w' ∧ (p ≠ .rows → OthersKept w w' (fun k => k = gk ∨ k = go)) := by
  have hc8 : c.ok 800000 := hc.mono (by omega)
  cases p with
  | kind => exact (part_kind w m gk go c h hm hc8).mono fun _ _ h => ⟨h.1, fun _ => h.2⟩
  | level => exact (part_level w m gk go c h hm hc8).mono fun _ _ h => ⟨h.1, fun _ => h.2⟩
  | next => exact (part_next w m gk go c h hm hc8).mono fun _ _ h => ⟨h.1, fun _ => h.2⟩
  | place => exact (part_place w m gk go c h hm hc8).mono fun _ _ h => ⟨h.1, fun _ => h.2⟩
  | off => exact (part_off w m gk go c h hm hc8).mono fun _ _ h => ⟨h.1, fun _ => h.2⟩
  | text => exact (part_text w m gk go c h hm hc8).mono fun _ _ h => ⟨h.1, fun _ => h.2⟩
  | rows => exact (part_rows w m gk go c h hm hc (hr rfl)).mono fun _ _ h => ⟨h, fun e => absurd rfl e⟩
/-- A slice of an op's parts, as functions. -/
def PartsAt (w : World) (gk : Nat) (S : Value) (ps : List Part) : Prop :=
  ∃ A, S = .slice A ps.length ps.length ∧ (0 < ps.length → ∃ b, A = some ⟨b, 0, none⟩ ∧ b < w.heap.size ∧ ∀ j (h : j < ps.length), w.cell? ⟨b, j, none⟩ = some (.func (.func (fnOf ps[j])) #[.pointer (some ⟨gk, 0, none⟩)] #[]))
theorem PartsAt.kept {w w' : World} {gk go : Nat} {S : Value} {ps : List Part} {c : Cd} {o : Od} {sv : Value} (h : PartsAt w gk S ps) (hk : KAt w gk go c) (ho : OAt w go o sv) (h2 : OthersKept w w' (fun k => k = gk ∨ k = go)) : PartsAt w' gk S ps := by
  obtain ⟨A, hS, hcell⟩ := h
  refine ⟨A, hS, fun h0 => ?_⟩
  obtain ⟨b, hA, hb, hc⟩ := hcell h0
  have hne : ¬ (b = gk ∨ b = go) := by
    intro e
    have h3 := hc 0 h0
    rcases e with rfl | rfl
    · rw [hk.cells.2.1] at h3; simp at h3
    · have h4 : w.cell? ⟨b, 0, none⟩ = some (.int .u8 o.kind) := by rw [blk_cell ho]; rfl
      rw [h4] at h3; simp at h3
  exact ⟨b, hA, Nat.lt_of_lt_of_le hb h2.size, fun j hj => h2.cell (hc j hj) hne⟩
theorem rows_last {kind i : Nat} (hi : i < (partsOf kind).length) (h : (partsOf kind)[i] = .rows) : i + 1 = (partsOf kind).length := by
  have hkk : kind = 1 ∨ kind = 2 ∨ kind = 3 ∨ kind = 4 ∨ kind = 5 ∨ kind = 6 ∨ kind = 7 ∨ kind = 8 ∨ partsOf kind = [] := by
    unfold partsOf
    split <;> simp
  rcases hkk with rfl | rfl | rfl | rfl | rfl | rfl | rfl | rfl | h0
  case inr.inr.inr.inr.inr.inr.inr.inr => rw [h0] at hi; exact absurd hi (Nat.not_lt_zero i)
  case inr.inr.inr.inr.inr.inl => simp [partsOf] at hi ⊢; exact hi
  all_goals
    have := List.getElem_mem hi
    rw [h] at this
    simp [partsOf] at this
/-- The state of the loop over an op's parts. -/
structure OpNow (w wr : World) (m gk go : Nat) (ps : List Part) (h0 : Cd) (i : Nat) : Prop where
  at_ : CAt wr m gk go ((ps.take i).foldl (fun c p => p.run c) h0)
  below : Below m w wr
  le : i ≤ ps.length
  size : m ≤ wr.heap.size
theorem OpNow.next {w wr w2 : World} {m gk go : Nat} {ps : List Part} {h0 : Cd} {i : Nat} (h : OpNow w wr m gk go ps h0 i) (hi : i < ps.length) (h2 : CAt w2 m gk go (ps[i].run ((ps.take i).foldl (fun c p => p.run c) h0))) (hb : Below m wr w2) : OpNow w w2 m gk go ps h0 (i + 1) :=
  ⟨by rw [List.take_succ_eq_append_getElem hi, List.foldl_append]; exact h2, h.below.trans hb, hi, Nat.le_trans h.size hb.size⟩
theorem parts_fine {kind : Nat} {h0 : Cd} (hh : h0.ok 100005) (i : Nat) (hi : i < (partsOf kind).length) (hr : h0.rd = true → h0.o.rows = []) :
    (((partsOf kind).take i).foldl (fun c p => p.run c) h0).ok 700000 ∧ ((partsOf kind)[i] = .rows → (((partsOf kind).take i).foldl (fun c p => p.run c) h0).rd = true → (((partsOf kind).take i).foldl (fun c p => p.run c) h0).o.rows = []) := by
  have key : ∀ ps : List Part, (∀ p ∈ ps, p ≠ .rows) → ps.length ≤ 3 → (ps.foldl (fun c p => p.run c) h0).ok 700000 := fun ps h1 h2 => (fold_ok ps h1 hh).mono (by omega)
  have hkk : kind = 1 ∨ kind = 2 ∨ kind = 3 ∨ kind = 4 ∨ kind = 5 ∨ kind = 6 ∨ kind = 7 ∨ kind = 8 ∨ partsOf kind = [] := by
    unfold partsOf
    split <;> simp
  rcases hkk with rfl | rfl | rfl | rfl | rfl | rfl | rfl | rfl | h0
  case inr.inr.inr.inr.inr.inr.inr.inr => rw [h0] at hi; exact absurd hi (Nat.not_lt_zero i)
  case inr.inr.inr.inr.inr.inl =>
    have hi0 : i = 0 := by simp [partsOf] at hi; exact hi
    subst hi0
    exact ⟨hh.mono (by omega), fun _ h => hr h⟩
  all_goals
    refine ⟨key _ (fun p hp e => ?_) (Nat.le_trans (List.length_take_le _ _) (by simp [partsOf] at hi; omega)), fun h => ?_⟩
    · subst e
      have := List.mem_of_mem_take hp
      simp [partsOf] at this
    · have := List.getElem_mem hi
      rw [h] at this
      simp [partsOf] at this

end Go.Proofs.Ytienlhnbmobinaa
