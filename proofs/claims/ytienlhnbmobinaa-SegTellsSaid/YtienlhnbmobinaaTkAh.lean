/- Kept of our texts for this claim: SegDec -/
import Derived.Test.YtienlhnbmobinaaRows
import Derived.Test.YtienlhnbmobinaaTkAf
import Derived.Test.YtienlhnbmobinaaTkAg
import Derived.Test.YtienlhnbmobinaaTkAa
import Derived.Test.YtienlhnbmobinaaTkAc
import Derived.Test.YtienlhnbmobinaaTkAb
import Derived.Test.YtienlhnbmobinaaTkAd
import Derived.WalkKit
import Derived.WalkLawsBesides
import Derived.WalkSpells
import Derived.LoopTactic
import Derived.WalkMore
import Derived.LoopN
import Derived.Laws.BitsAllLaws
import Derived.Laws.IdiomStrings
import Derived.BigQuiet
import Derived.Deep.QuietTactic
import Derived.Deep.DeepCutAuto
import Derived.Deep.RegionHeld3
import Derived.Deep.DrawnRows
import Derived.Lib.Hide
import Derived.Outline
import Derived.Deep.DeepMust
import Derived.Handy
section
/- chapter 22: which row bytes are (seg.Decode, the reference's) -/
namespace Go.Proofs.Ytienlhnbmobinaa
open Go.RowKit
set_option linter.unusedVariables false
set_option linter.unusedSimpArgs false
/-- The frame of seg.Decode: block B has the bytes, B + 1 the result, B + 1 + 1 the place. -/
structure SDe (B : Nat) (w0 : World) (l : List UInt8) (i : Nat) (w : World) : Prop where
  below : Below B w0 w
  size : B + 3 ≤ w.heap.size
  str : w.heap[B]? = some (.cells #[.string ⟨l.toArray⟩] 9 (0, 0))
  res : SgBox w (B + 1) Sg.zero
  pos : w.heap[B + 1 + 1]? = some (.cells #[.int .i64 i] 3 (0, 0))
theorem SDe.keep {B : Nat} {w0 w w' : World} {l : List UInt8} {i : Nat} (h : SDe B w0 l i w) (hb : Below w.heap.size w w') : SDe B w0 l i w' :=
  ⟨h.below.trans (hb.mono (by have := h.size; omega)), Nat.le_trans h.size hb.size, (hb.block _ (blk_lt h.str)).trans h.str, h.res.below hb, (hb.block _ (blk_lt h.pos)).trans h.pos⟩
theorem SDe.set {B : Nat} {w0 w : World} {l : List UInt8} {i : Nat} (h : SDe B w0 l i w) (x j : Nat) (u : Value) (hx : B + 3 ≤ x) : SDe B w0 l i (w.setCell ⟨x, j, none⟩ u) :=
  ⟨h.below.setCell (by show B ≤ x; omega) u, by simpa [World.setCell] using h.size, set_keep h.str (by omega), set_keep h.res (by omega), set_keep h.pos (by omega)⟩
theorem SDe.step {B : Nat} {w0 w wz : World} {l : List UInt8} {i : Nat} (h : SDe B w0 l i w) (hb : Below w.heap.size w wz) (j : Nat) : SDe B w0 l j (wz.setCell ⟨B + 1 + 1, 0, none⟩ (.int .i64 j)) := by
  have h := h.keep hb
  exact ⟨h.below.setCell (by show B ≤ B + 1 + 1; omega) _, by rw [set_lt]; exact h.size, set_keep h.str (by omega), set_keep h.res (by omega), blk_set h.pos 0 _⟩
theorem SDe.new (w : World) (l : List UInt8) : SDe w.heap.size w l 0 (((w.alloc (.cells #[.string ⟨l.toArray⟩] 9)).alloc (.cells #[.int .u64 0, .int .u8 0, .int .u64 0, .int .u32 0, .int .u32 0, .int .u32 0, .int .u16 0] 83)).alloc (.cells #[.int .i64 0] 3)) := by
  have z1 : (w.alloc (.cells #[.string ⟨l.toArray⟩] 9)).heap.size = w.heap.size + 1 := by simp
  have z2 : ((w.alloc (.cells #[.string ⟨l.toArray⟩] 9)).alloc (.cells #[.int .u64 0, .int .u8 0, .int .u64 0, .int .u32 0, .int .u32 0, .int .u32 0, .int .u16 0] 83)).heap.size = w.heap.size + 1 + 1 := by simp
  refine ⟨(((Below.refl _ _).alloc (Nat.le_refl _) _).alloc (by simp) _).alloc (by simp; omega) _, by simp, heap_keep (heap_keep (heap_alloc_new w _)), ?_, ?_⟩
  · have := heap_alloc_new (w.alloc (.cells #[.string ⟨l.toArray⟩] 9)) (.cells #[.int .u64 0, .int .u8 0, .int .u64 0, .int .u32 0, .int .u32 0, .int .u32 0, .int .u16 0] 83)
    rw [z1] at this
    exact heap_keep this
  · have := heap_alloc_new ((w.alloc (.cells #[.string ⟨l.toArray⟩] 9)).alloc (.cells #[.int .u64 0, .int .u8 0, .int .u64 0, .int .u32 0, .int .u32 0, .int .u32 0, .int .u16 0] 83)) (.cells #[.int .i64 0] 3)
    rw [z2] at this
    exact this
theorem sde_far {B : Nat} {w wz : World} (hb : Below w.heap.size w wz) (j : Value) (g : Nat) (hg : B + 3 ≤ g) (hl : g < w.heap.size) : (wz.setCell ⟨B + 1 + 1, 0, none⟩ j).heap[g]? = w.heap[g]? := by
  rw [Below.heap_setCell _ _ _ g (by show g ≠ B + 1 + 1; omega)]
  exact hb.block g hl
set_option maxHeartbeats 1000000 in
set_option maxRecDepth 100000 in
theorem segNext (l : List UInt8) (B i k : Nat) (w0 w : World) (hs : l.length = 31) (hi : i ≤ 31) (h1 : 1 ≤ k) (h8 : k ≤ 8) (h : SDe B w0 l i w) :
    Calls Try.prog 120 #[.int .i64 k, .pointer (some ⟨B, 0, none⟩), .pointer (some ⟨B + 1 + 1, 0, none⟩)] w fun e w' =>
      e = .returned (.int .u64 (rdNum l i k)) ∧ SDe B w0 l (i + k) w' ∧ w.heap.size ≤ w'.heap.size ∧ ∀ g, B + 3 ≤ g → g < w.heap.size → w'.heap[g]? = w.heap[g]? := by
  have G := Lib.hid fun W => wGet l i k W (by omega) (by omega) h1 h8
  have hwr : IntKind.i64.wrap ((i : Int) + (k : Int)) = ((i + k : Nat) : Int) := by
    rw [show ((i + k : Nat) : Int) = (i : Int) + (k : Int) by omega]
    exact IntWalk.i64_in _ ⟨by omega, by omega⟩
  generalize decide (i + k ≤ l.length) = b at *
  generalize rdNum l i k = n at *
  clear hi h1 h8 hs
  have c0 := blk_cell h.str 0
  have c1 := blk_cell h.pos 0
  have H := Lib.hid h
  clear h
  go_enter Try.func120, Try.ntmps120
  go_wp2_with fail
  refine (G.out _).mono ?_
  rintro e w1 ⟨rfl, hb⟩
  have h1 := H.out.keep hb
  have c1 := blk_cell h1.pos 0
  have f1 := blk_frozen h1.pos 0
  clear h1 c0
  have Hb := Lib.hid hb
  clear hb
  go_wp2_with fail
  go_ret
  exact ⟨rfl, H.out.step Hb.out _, by rw [set_lt]; exact Hb.out.size, sde_far Hb.out _⟩
def sgDecV (l : List UInt8) : Value := .tuple #[sgV ((sgDec l).getD Sg.zero), .int .i64 (if (sgDec l).isSome then 0 else 7)]
set_option maxHeartbeats 4000000 in
set_option maxRecDepth 100000 in
theorem segDecode_any (l : List UInt8) (w : World) (hs : l.length ≤ 1000000) : Calls Try.prog 60 #[.string ⟨l.toArray⟩] w fun e w' => e = .returned (sgDecV l) ∧ Below w.heap.size w w' := by
  have hsz : (⟨l.toArray⟩ : ByteArray).size = l.length := by simp [ByteArray.size]
  have M := Lib.hid fun s W => segMay_any s W
  have hV : sgDecV l = .tuple #[sgV ((sgDec l).getD Sg.zero), .int .i64 (if (sgDec l).isSome then 0 else 7)] := rfl
  generalize sgDecV l = V at *
  by_cases hl : l.length = 31
  case neg =>
    have hne : ((l.length : Int) != 31) = true := by simp; omega
    have hd : sgDec l = none := by unfold sgDec; rw [if_neg (fun h => hl h.1)]
    rw [hd] at hV
    have HV := Lib.hid hV
    have HS := Lib.hid (heap_keep (o := .cells #[.int .u64 0, .int .u8 0, .int .u64 0, .int .u32 0, .int .u32 0, .int .u32 0, .int .u16 0] 83) (heap_alloc_new w (.cells #[.string ⟨l.toArray⟩] 9)))
    have HB : Hid (SgBox ((w.alloc (.cells #[.string ⟨l.toArray⟩] 9)).alloc (.cells #[.int .u64 0, .int .u8 0, .int .u64 0, .int .u32 0, .int .u32 0, .int .u32 0, .int .u16 0] 83)) (w.heap.size + 1) Sg.zero) := by
      have h := heap_alloc_new (w.alloc (.cells #[.string ⟨l.toArray⟩] 9)) (.cells #[.int .u64 0, .int .u8 0, .int .u64 0, .int .u32 0, .int .u32 0, .int .u32 0, .int .u16 0] 83)
      rw [World.size_alloc] at h
      exact h
    have B0 := Lib.hid ((alloc_below w (.cells #[.string ⟨l.toArray⟩] 9)).alloc (by simp) (.cells #[.int .u64 0, .int .u8 0, .int .u64 0, .int .u32 0, .int .u32 0, .int .u32 0, .int .u16 0] 83))
    clear hV hd
    go_enter Try.func60, Try.ntmps60
    go_upto_region 1 with fail
    generalize (w.alloc (.cells #[.string ⟨l.toArray⟩] 9)).alloc (.cells #[.int .u64 0, .int .u8 0, .int .u64 0, .int .u32 0, .int .u32 0, .int .u32 0, .int .u16 0] 83) = w0 at *
    have c0 := blk_cell HS.out 0
    go_wp2_with (refine wpList_store_sg rfl (.tmp 2) (.tmp 10) rfl HB.out Sg.zero (by rfl) (by rfl) ?_; intro wS hP hK; have PF := Lib.hid hP; have KF := Lib.hid hK; clear hP hK)
    refine bodyPost_ret (results_sg rfl _ _ rfl PF.out) rfl ⟨?_, OthersKept.below B0.out KF.out (fun k hk e => by omega)⟩
    exact congrArg Ending.returned HV.out.symm
  case pos =>
    have hne : ((l.length : Int) != 31) = false := by simp [hl]
    have hdm : Hid (sgDec l = if (sgOf l).may then some (sgOf l) else none) := by
      show _ = _
      unfold sgDec
      by_cases hm : (sgOf l).may = true
      · rw [if_pos ⟨hl, hm⟩, if_pos hm]
      · rw [if_neg (fun h => hm h.2), if_neg hm]
    have hwf := sgOf_wf l
    have HN := Lib.hid fun (i k : Nat) W (hi : i ≤ 31) (h1 : 1 ≤ k) (h8 : k ≤ 8) (h : SDe w.heap.size w l i W) => segNext l w.heap.size i k w W hl hi h1 h8 h
    have HE := Lib.hid (SDe.new w l)
    have hs0 := Lib.hid (heap_keep (o := .cells #[.int .u64 0, .int .u8 0, .int .u64 0, .int .u32 0, .int .u32 0, .int .u32 0, .int .u16 0] 83) (heap_alloc_new w (.cells #[.string ⟨l.toArray⟩] 9)))
    obtain ⟨n0, e0⟩ : ∃ n, n = rdNum l 0 8 := ⟨_, rfl⟩
    obtain ⟨n1, e1⟩ : ∃ n, n = rdNum l 8 1 := ⟨_, rfl⟩
    obtain ⟨n2, e2⟩ : ∃ n, n = rdNum l 9 8 := ⟨_, rfl⟩
    obtain ⟨n3, e3⟩ : ∃ n, n = rdNum l 17 4 := ⟨_, rfl⟩
    obtain ⟨n4, e4⟩ : ∃ n, n = rdNum l 21 4 := ⟨_, rfl⟩
    obtain ⟨n5, e5⟩ : ∃ n, n = rdNum l 25 4 := ⟨_, rfl⟩
    obtain ⟨n6, e6⟩ : ∃ n, n = rdNum l 29 2 := ⟨_, rfl⟩
    have hof : sgOf l = ⟨n0, n1, n2, n3, n4, n5, n6⟩ := by rw [e0, e1, e2, e3, e4, e5, e6]; rfl
    rw [hof] at hdm hwf
    obtain ⟨q0, q1, q2, q3, q4, q5, q6⟩ := hwf
    simp only [Nat.reducePow] at q0 q1 q2 q3 q4 q5 q6
    have C0 := Lib.hid fun W h => HN.out 0 8 W (by omega) (by omega) (by omega) h
    have C1 := Lib.hid fun W h => HN.out 8 1 W (by omega) (by omega) (by omega) h
    have C2 := Lib.hid fun W h => HN.out 9 8 W (by omega) (by omega) (by omega) h
    have C3 := Lib.hid fun W h => HN.out 17 4 W (by omega) (by omega) (by omega) h
    have C4 := Lib.hid fun W h => HN.out 21 4 W (by omega) (by omega) (by omega) h
    have C5 := Lib.hid fun W h => HN.out 25 4 W (by omega) (by omega) (by omega) h
    have C6 := Lib.hid fun W h => HN.out 29 2 W (by omega) (by omega) (by omega) h
    rw [← e0] at C0
    rw [← e1] at C1
    rw [← e2] at C2
    rw [← e3] at C3
    rw [← e4] at C4
    rw [← e5] at C5
    rw [← e6] at C6
    have v1 : IntKind.u8.wrap (n1 : Int) = n1 := IntWalk.u8_in _ ⟨by omega, by omega⟩
    have v3 : IntKind.u32.wrap (n3 : Int) = n3 := IntWalk.u32_in _ ⟨by omega, by omega⟩
    have v4 : IntKind.u32.wrap (n4 : Int) = n4 := IntWalk.u32_in _ ⟨by omega, by omega⟩
    have v5 : IntKind.u32.wrap (n5 : Int) = n5 := IntWalk.u32_in _ ⟨by omega, by omega⟩
    have v6 : IntKind.u16.wrap (n6 : Int) = n6 := IntWalk.u16_in _ ⟨by omega, by omega⟩
    have HDM := Lib.hid hdm.out
    have HV := Lib.hid hV
    clear hdm hV hof HN e0 e1 e2 e3 e4 e5 e6
    go_enter Try.func60, Try.ntmps60
    go_upto_region 1 with fail
    have c0 := blk_cell hs0.out 0
    go_wp2_with fail
    refine (C0.out _ HE.out).mono ?_
    rintro e w1 ⟨rfl, h, hz, _⟩
    have H1 := Lib.hid h
    clear h hz c0 hs0 HE C0
    go_wp2_with fail
    refine (C1.out _ H1.out).mono ?_
    rintro e w2 ⟨rfl, h, hz, _⟩
    have H2 := Lib.hid h
    clear h hz H1 C1
    go_wp2_with fail
    refine (C2.out _ H2.out).mono ?_
    rintro e w3 ⟨rfl, h, hz, _⟩
    have H3 := Lib.hid h
    clear h hz H2 C2
    go_wp2_with fail
    refine (C3.out _ H3.out).mono ?_
    rintro e w4 ⟨rfl, h, hz, _⟩
    have H4 := Lib.hid h
    clear h hz H3 C3
    go_wp2_with fail
    refine (C4.out _ H4.out).mono ?_
    rintro e w5 ⟨rfl, h, hz, _⟩
    have H5 := Lib.hid h
    clear h hz H4 C4
    go_upto_region 6 with fail
    have HX5 := Lib.hid (SgBox.new w5 ⟨n0, n1, n2, n3, n4, 0, 0⟩)
    have HK5 := Lib.hid (H5.out.keep (alloc_below w5 (.cells #[.int .u64 n0, .int .u8 n1, .int .u64 n2, .int .u32 n3, .int .u32 n4, .int .u32 0, .int .u16 0] 83)))
    have hgs : w.heap.size + 3 ≤ w5.heap.size := H5.out.size
    have hlt : w5.heap.size < (w5.alloc (.cells #[.int .u64 n0, .int .u8 n1, .int .u64 n2, .int .u32 n3, .int .u32 n4, .int .u32 0, .int .u16 0] 83)).heap.size := by simp
    have HX : Hid (SgBox (w5.alloc (.cells #[.int .u64 n0, .int .u8 n1, .int .u64 n2, .int .u32 n3, .int .u32 n4, .int .u32 0, .int .u16 0] 83)) w5.heap.size ⟨n0, n1, n2, n3, n4, 0, 0⟩) := HX5.out
    clear HX5 H5
    generalize w5.alloc (.cells #[.int .u64 n0, .int .u8 n1, .int .u64 n2, .int .u32 n3, .int .u32 n4, .int .u32 0, .int .u16 0] 83) = w6 at *
    obtain ⟨X, hX⟩ : ∃ X, X = w5.heap.size := ⟨_, rfl⟩
    rw [← hX] at HX hgs hlt ⊢
    clear hX
    go_wp2_with fail
    refine (C5.out _ HK5.out).mono ?_
    rintro e w7 ⟨rfl, h, hz, hk⟩
    have H7 := Lib.hid h
    have X7 : Hid (SgBox w7 X ⟨n0, n1, n2, n3, n4, 0, 0⟩) := (hk X hgs hlt).trans HX.out
    clear h hz hk HK5 HX C5
    have c5 := blk_cell X7.out 5
    have f5 := blk_frozen X7.out 5
    have X8 : Hid (SgBox (w7.setCell ⟨X, 5, none⟩ (.int .u32 n5)) X ⟨n0, n1, n2, n3, n4, n5, 0⟩) := blk_set X7.out 5 (.int .u32 n5)
    have H8 := Lib.hid (H7.out.set X 5 (.int .u32 n5) hgs)
    have hlt8 := X8.out.lt
    clear X7 H7
    go_upto_region 7 with fail
    generalize w7.setCell ⟨X, 5, none⟩ (.int .u32 n5) = w8 at *
    clear c5 f5
    go_wp2_with fail
    refine (C6.out _ H8.out).mono ?_
    rintro e w9 ⟨rfl, h, hz, hk⟩
    have H9 := Lib.hid h
    have X9 : Hid (SgBox w9 X ⟨n0, n1, n2, n3, n4, n5, 0⟩) := (hk X hgs hlt8).trans X8.out
    clear h hz hk H8 X8 C6
    have c6 := blk_cell X9.out 6
    have f6 := blk_frozen X9.out 6
    have XA : Hid (SgBox (w9.setCell ⟨X, 6, none⟩ (.int .u16 n6)) X ⟨n0, n1, n2, n3, n4, n5, n6⟩) := blk_set X9.out 6 (.int .u16 n6)
    have HA := Lib.hid (H9.out.set X 6 (.int .u16 n6) hgs)
    clear X9 H9
    go_upto_region 8 with fail
    generalize w9.setCell ⟨X, 6, none⟩ (.int .u16 n6) = wA at *
    clear c6 f6
    obtain ⟨xl, x0, x1, x2, x3, x4, x5, x6⟩ := XA.out.cells
    simp only at x0 x1 x2 x3 x4 x5 x6
    have MM := Lib.hid fun W => M.out ⟨n0, n1, n2, n3, n4, n5, n6⟩ W
    unfold sgV at MM
    simp only at MM
    obtain ⟨b, hb0⟩ : ∃ b, b = Sg.may ⟨n0, n1, n2, n3, n4, n5, n6⟩ := ⟨_, rfl⟩
    rw [← hb0] at MM
    have HB0 := Lib.hid hb0
    clear hb0 M
    go_wp2_with fail
    refine (MM.out _).mono ?_
    rintro e wB ⟨rfl, hb⟩
    have HB := Lib.hid (HA.out.keep hb)
    have XB := Lib.hid (XA.out.below hb)
    clear hb HA XA x0 x1 x2 x3 x4 x5 x6 xl MM
    obtain ⟨xl, x0, x1, x2, x3, x4, x5, x6⟩ := XB.out.cells
    simp only at x0 x1 x2 x3 x4 x5 x6
    cases b with
    | false =>
      go_wp2_with (refine wpList_store_sg rfl (.tmp 2) (.tmp 39) rfl HB.out.res Sg.zero (by rfl) (by rfl) ?_; intro wS hP hK; have PF := Lib.hid hP; have KF := Lib.hid hK; clear hP hK)
      refine bodyPost_ret (results_sg rfl _ _ rfl PF.out) rfl ⟨?_, OthersKept.below HB.out.below KF.out (fun k hk e => by omega)⟩
      exact congrArg Ending.returned (by rw [HV.out, HDM.out, ← HB0.out]; rfl)
    | true =>
      go_wp2_with (refine wpList_store_sg rfl (.tmp 2) (.tmp 40) rfl HB.out.res ⟨n0, n1, n2, n3, n4, n5, n6⟩ (by rfl) (by rfl) ?_; intro wS hP hK; have PF := Lib.hid hP; have KF := Lib.hid hK; clear hP hK)
      refine bodyPost_ret (results_sg rfl _ _ rfl PF.out) rfl ⟨?_, OthersKept.below HB.out.below KF.out (fun k hk e => by omega)⟩
      exact congrArg Ending.returned (by rw [HV.out, HDM.out, ← HB0.out]; rfl)
theorem step_store_sg {ops : Array Oper} {o : Oper} {a : Act} {w : World} {K : Act → World → Prop} {Q : Exit → Act → World → Prop} {E : Prop} (hgd : o.guard = none) (x y : Operand) (ho : o.op = .store 83 x y)
    {g : Nat} {s : Sg} (h : SgBox w g s) (d : Sg)
    (hx : a.eval x = .pointer (some ⟨g, 0, none⟩)) (hy : a.eval y = .agg #[.int .u64 d.tx, .int .u8 d.st, .int .u64 d.num, .int .u32 d.fp, .int .u32 d.lp, .int .u32 d.hp, .int .u16 d.hs])
    (hk : ∀ W, SgBox W g d → OthersKept w W (fun x => x = g) → K (a.put o.dst undef) W) :
    if Region.wanted o (yielded ops a.tmps) = true then Oper.wp Try.prog o a w K Q else E := by
  rw [if_pos (by simp [Region.wanted, hgd])]
  exact wp_store_row 83 x y ho g _ hx hy 83 _ h (by kernel_rfl) rfl (by simp [Value.oneCell']) (hk _ (setRow_heap w g _ _ _ _ h) (setRow_kept _ _ _))
theorem refSegGet (l : List UInt8) (a k : Nat) (w : World) (hs : l.length ≤ 1000000) (ha : a ≤ 2000000) (h1 : 1 ≤ k) (h8 : k ≤ 8) :
    Calls Try.prog 122 #[.string ⟨l.toArray⟩, .int .i64 a, .int .i64 k] w fun e w' => e = .returned (.int .u64 (rdNum l a k)) ∧ w = w' := by
  have G := Lib.hid fun W => rGet l a k W hs ha h1 h8
  clear hs ha h1 h8
  generalize rdNum l a k = n at *
  go_enter Try.func122, Try.ntmps122
  go_wp2_with fail
  refine (G.out _).mono ?_
  rintro e w1 ⟨rfl, rfl⟩
  go_wp2_with fail
  go_ret
  exact ⟨rfl, rfl⟩
theorem rd_byte (l : List UInt8) (i : Nat) (h : i < l.length) : (rdNum l i 1 : Nat) = (l[i]).toNat := by
  unfold rdNum
  rw [if_pos (by omega), List.drop_eq_getElem_cons h]
  show un [l[i]] = l[i].toNat
  rw [show un [l[i]] = 256 * 0 + l[i].toNat from rfl]
  omega
set_option maxHeartbeats 4000000 in
set_option maxRecDepth 100000 in
theorem refSegDecode_any (l : List UInt8) (w : World) (hs : l.length ≤ 1000000) : Calls Try.prog 61 #[.string ⟨l.toArray⟩] w fun e w' => e = .returned (sgDecV l) ∧ Below w.heap.size w w' := by
  have hsz : (⟨l.toArray⟩ : ByteArray).size = l.length := by simp [ByteArray.size]
  have M := Lib.hid fun s W => refSegMay_any s W
  have hV : sgDecV l = .tuple #[sgV ((sgDec l).getD Sg.zero), .int .i64 (if (sgDec l).isSome then 0 else 7)] := rfl
  generalize sgDecV l = V at *
  have HB : Hid (SgBox (w.alloc (.cells #[.int .u64 0, .int .u8 0, .int .u64 0, .int .u32 0, .int .u32 0, .int .u32 0, .int .u16 0] 83)) w.heap.size Sg.zero) := heap_alloc_new w _
  have B0 := Lib.hid (alloc_below w (.cells #[.int .u64 0, .int .u8 0, .int .u64 0, .int .u32 0, .int .u32 0, .int .u32 0, .int .u16 0] 83))
  by_cases hl : l.length = 31
  case neg =>
    have hne : ((l.length : Int) != 31) = true := by simp; omega
    have hd : sgDec l = none := by unfold sgDec; rw [if_neg (fun h => hl h.1)]
    rw [hd] at hV
    have HV := Lib.hid hV
    clear hV hd
    go_enter Try.func61, Try.ntmps61
    go_upto_region 1 with fail
    generalize w.alloc (.cells #[.int .u64 0, .int .u8 0, .int .u64 0, .int .u32 0, .int .u32 0, .int .u32 0, .int .u16 0] 83) = w0 at *
    go_wp2_with (refine wpList_store_sg rfl (.tmp 2) (.tmp 8) rfl HB.out Sg.zero (by rfl) (by rfl) ?_; intro wS hP hK; have PF := Lib.hid hP; have KF := Lib.hid hK; clear hP hK)
    refine bodyPost_ret (results_sg rfl _ _ rfl PF.out) rfl ⟨?_, OthersKept.below B0.out KF.out (fun k hk e => by omega)⟩
    exact congrArg Ending.returned HV.out.symm
  case pos =>
    have hne : ((l.length : Int) != 31) = false := by simp [hl]
    have hdm : Hid (sgDec l = if (sgOf l).may then some (sgOf l) else none) := by
      show _ = _
      unfold sgDec
      by_cases hm : (sgOf l).may = true
      · rw [if_pos ⟨hl, hm⟩, if_pos hm]
      · rw [if_neg (fun h => hm h.2), if_neg hm]
    have hwf := sgOf_wf l
    obtain ⟨n0, e0⟩ : ∃ n, n = rdNum l 0 8 := ⟨_, rfl⟩
    obtain ⟨n1, e1⟩ : ∃ n, n = rdNum l 8 1 := ⟨_, rfl⟩
    obtain ⟨n2, e2⟩ : ∃ n, n = rdNum l 9 8 := ⟨_, rfl⟩
    obtain ⟨n3, e3⟩ : ∃ n, n = rdNum l 17 4 := ⟨_, rfl⟩
    obtain ⟨n4, e4⟩ : ∃ n, n = rdNum l 21 4 := ⟨_, rfl⟩
    obtain ⟨n5, e5⟩ : ∃ n, n = rdNum l 25 4 := ⟨_, rfl⟩
    obtain ⟨n6, e6⟩ : ∃ n, n = rdNum l 29 2 := ⟨_, rfl⟩
    have hof : sgOf l = ⟨n0, n1, n2, n3, n4, n5, n6⟩ := by rw [e0, e1, e2, e3, e4, e5, e6]; rfl
    rw [hof] at hdm hwf
    obtain ⟨q0, q1, q2, q3, q4, q5, q6⟩ := hwf
    simp only [Nat.reducePow] at q0 q1 q2 q3 q4 q5 q6
    have C0 := Lib.hid fun W => refSegGet l 0 8 W (by omega) (by omega) (by omega) (by omega)
    have C2 := Lib.hid fun W => refSegGet l 9 8 W (by omega) (by omega) (by omega) (by omega)
    have C3 := Lib.hid fun W => refSegGet l 17 4 W (by omega) (by omega) (by omega) (by omega)
    have C4 := Lib.hid fun W => refSegGet l 21 4 W (by omega) (by omega) (by omega) (by omega)
    have C5 := Lib.hid fun W => refSegGet l 25 4 W (by omega) (by omega) (by omega) (by omega)
    have C6 := Lib.hid fun W => refSegGet l 29 2 W (by omega) (by omega) (by omega) (by omega)
    rw [← e0] at C0
    rw [← e2] at C2
    rw [← e3] at C3
    rw [← e4] at C4
    rw [← e5] at C5
    rw [← e6] at C6
    have v3 : IntKind.u32.wrap (n3 : Int) = n3 := IntWalk.u32_in _ ⟨by omega, by omega⟩
    have v4 : IntKind.u32.wrap (n4 : Int) = n4 := IntWalk.u32_in _ ⟨by omega, by omega⟩
    have v5 : IntKind.u32.wrap (n5 : Int) = n5 := IntWalk.u32_in _ ⟨by omega, by omega⟩
    have v6 : IntKind.u16.wrap (n6 : Int) = n6 := IntWalk.u16_in _ ⟨by omega, by omega⟩
    have hb1 : ((⟨l.toArray⟩ : ByteArray)[8]'(by rw [hsz]; omega)).toNat = n1 := by
      rw [e1, rd_byte l 8 (by omega)]
      rfl
    obtain ⟨s, hsl⟩ : ∃ s : ByteArray, s = ⟨l.toArray⟩ := ⟨_, rfl⟩
    have hs31 : s.size = 31 := by rw [hsl, hsz, hl]
    have hlt8 : 8 < s.size := by omega
    have hb2 : (s[8].toNat : Int) = (n1 : Int) := by subst hsl; rw [hb1]
    rw [← hsl] at C0 C2 C3 C4 C5 C6 ⊢
    have HQ1 := Lib.hid hb2
    have hne : ((s.size : Int) != 31) = false := by simp [hs31]
    have HDM := Lib.hid hdm.out
    have HV := Lib.hid hV
    clear hdm hV hof e0 e1 e2 e3 e4 e5 e6 hb1 hb2 hsl hsz hl hs
    go_enter Try.func61, Try.ntmps61
    go_upto_region 3 with fail
    generalize hw0 : w.alloc (.cells #[.int .u64 0, .int .u8 0, .int .u64 0, .int .u32 0, .int .u32 0, .int .u32 0, .int .u16 0] 83) = w0 at *
    clear hw0
    go_cut [4] (fun s4 w' => ∃ X, s4 = .pointer (some ⟨X, 0, none⟩) ∧ w.heap.size < X ∧ Hid (SgBox w' X ⟨n0, n1, n2, n3, n4, n5, n6⟩) ∧ Hid (SgBox w' w.heap.size Sg.zero) ∧ Hid (Below w.heap.size w w'))
    case first =>
      refine wp_region_held_drew (S := fun _ => True) (by kernel_rfl) (trivial) (fun hHeld => ?_)
      have HBd : Hid (SgBox w0.drew w.heap.size Sg.zero) := HB.out
      have B0d := Lib.hid B0.out.drew
      clear HB B0
      generalize w0.drew = v0 at *
      have HB := HBd
      have B0 := B0d
      clear HBd B0d
      refine wpAnyH_take (i := 0) (oi := { dst := some 9, op := Go.Op.move (Go.Operand.tmp 0), type := 9, pos := "ref.go:42", after := #[], guard := none }) (v := ?_) rfl (by kernel_rfl) (by kernel_rfl) (by kernel_rfl) (fun _ _ _ h => h) (Or.inl ⟨by rfl, ?_⟩) hHeld ?_
      rotate_left
      · (intro w hSw; go_simp <;> with_reducible rfl)
      simp only [Act.put, List.setIfInBounds_toArray, List.set_cons_zero, List.set_cons_succ]
      refine wpAnyH_take (i := 2) (oi := { dst := some 11, op := Go.Op.move (Go.Operand.tmp 0), type := 9, pos := "ref.go:42", after := #[], guard := none }) (v := ?_) rfl (by kernel_rfl) (by kernel_rfl) (by kernel_rfl) (fun _ _ _ h => h) (Or.inl ⟨by rfl, ?_⟩) hHeld ?_
      rotate_left
      · (intro w hSw; go_simp <;> with_reducible rfl)
      simp only [Act.put, List.setIfInBounds_toArray, List.set_cons_zero, List.set_cons_succ]
      refine wpAnyH_take (i := 3) (oi := { dst := some 12, op := Go.Op.index 9 (Go.Operand.tmp 11) (Go.Operand.const (Go.Value.int Go.IntKind.i64 8)), type := 5, pos := "ref.go:42", after := #[{ on := 2, ground := Go.Ground.data }], guard := none }) (v := ?_) rfl (by kernel_rfl) (by kernel_rfl) (by kernel_rfl) (fun _ _ _ h => h) (Or.inl ⟨by rfl, ?_⟩) hHeld ?_
      rotate_left
      · (intro w hSw; go_simp <;> with_reducible rfl)
      simp only [Act.put, List.setIfInBounds_toArray, List.set_cons_zero, List.set_cons_succ]
      refine wpAnyH_take (i := 4) (oi := { dst := some 13, op := Go.Op.move (Go.Operand.tmp 0), type := 9, pos := "ref.go:42", after := #[], guard := none }) (v := ?_) rfl (by kernel_rfl) (by kernel_rfl) (by kernel_rfl) (fun _ _ _ h => h) (Or.inl ⟨by rfl, ?_⟩) hHeld ?_
      rotate_left
      · (intro w hSw; go_simp <;> with_reducible rfl)
      simp only [Act.put, List.setIfInBounds_toArray, List.set_cons_zero, List.set_cons_succ]
      refine wpAnyH_take (i := 6) (oi := { dst := some 15, op := Go.Op.move (Go.Operand.tmp 0), type := 9, pos := "ref.go:42", after := #[], guard := none }) (v := ?_) rfl (by kernel_rfl) (by kernel_rfl) (by kernel_rfl) (fun _ _ _ h => h) (Or.inl ⟨by rfl, ?_⟩) hHeld ?_
      rotate_left
      · (intro w hSw; go_simp <;> with_reducible rfl)
      simp only [Act.put, List.setIfInBounds_toArray, List.set_cons_zero, List.set_cons_succ]
      refine wpAnyH_take (i := 9) (oi := { dst := some 18, op := Go.Op.move (Go.Operand.tmp 0), type := 9, pos := "ref.go:42", after := #[], guard := none }) (v := ?_) rfl (by kernel_rfl) (by kernel_rfl) (by kernel_rfl) (fun _ _ _ h => h) (Or.inl ⟨by rfl, ?_⟩) hHeld ?_
      rotate_left
      · (intro w hSw; go_simp <;> with_reducible rfl)
      simp only [Act.put, List.setIfInBounds_toArray, List.set_cons_zero, List.set_cons_succ]
      refine wpAnyH_take (i := 12) (oi := { dst := some 21, op := Go.Op.move (Go.Operand.tmp 0), type := 9, pos := "ref.go:42", after := #[], guard := none }) (v := ?_) rfl (by kernel_rfl) (by kernel_rfl) (by kernel_rfl) (fun _ _ _ h => h) (Or.inl ⟨by rfl, ?_⟩) hHeld ?_
      rotate_left
      · (intro w hSw; go_simp <;> with_reducible rfl)
      simp only [Act.put, List.setIfInBounds_toArray, List.set_cons_zero, List.set_cons_succ]
      refine wpAnyH_take (i := 15) (oi := { dst := some 24, op := Go.Op.move (Go.Operand.tmp 0), type := 9, pos := "ref.go:42", after := #[], guard := none }) (v := ?_) rfl (by kernel_rfl) (by kernel_rfl) (by kernel_rfl) (fun _ _ _ h => h) (Or.inl ⟨by rfl, ?_⟩) hHeld ?_
      rotate_left
      · (intro w hSw; go_simp <;> with_reducible rfl)
      simp only [Act.put, List.setIfInBounds_toArray, List.set_cons_zero, List.set_cons_succ]
      refine wpAnyH_ready (rs := [1, 20]) (by kernel_rfl) (by simp) (AllReadyH.cons (o := { dst := some 10, op := Go.Op.call { callee := Go.Callee.value (Go.Operand.func 122), args := #[Go.Operand.tmp 9, Go.Operand.const (Go.Value.int Go.IntKind.i64 0), Go.Operand.const (Go.Value.int Go.IntKind.i64 8)], argTypes := #[9, 3, 3] }, type := 23, pos := "ref.go:42", after := #[{ on := 0, ground := Go.Ground.data }], guard := none }) rfl (fun K hK => ?_) (AllReadyH.cons (o := { dst := some 4, op := Go.Op.alloc 83, type := 0, pos := "ref.go:42", after := #[], guard := none }) rfl (fun K hK => ?_) AllReadyH.nil))
      · go_simp
        refine (C0.out _).mono ?_
        rintro e vv ⟨rfl, rfl⟩
        refine hK.out _ _ ?_ (fun hHeld => ?_)
        · exact trivial
        clear hK K
        (try simp only [Act.put, List.setIfInBounds_toArray, List.set_cons_zero, List.set_cons_succ])
        refine wpAnyH_ready (rs := [5, 20]) (by kernel_rfl) (by simp) (AllReadyH.cons (o := { dst := some 14, op := Go.Op.call { callee := Go.Callee.value (Go.Operand.func 122), args := #[Go.Operand.tmp 13, Go.Operand.const (Go.Value.int Go.IntKind.i64 9), Go.Operand.const (Go.Value.int Go.IntKind.i64 8)], argTypes := #[9, 3, 3] }, type := 23, pos := "ref.go:42", after := #[{ on := 4, ground := Go.Ground.data }, { on := 1, ground := Go.Ground.chain }], guard := none }) rfl (fun K hK => ?_) (AllReadyH.cons (o := { dst := some 4, op := Go.Op.alloc 83, type := 0, pos := "ref.go:42", after := #[], guard := none }) rfl (fun K hK => ?_) AllReadyH.nil))
        · go_simp
          refine (C2.out _).mono ?_
          rintro e vv ⟨rfl, rfl⟩
          refine hK.out _ _ ?_ (fun hHeld => ?_)
          · exact trivial
          clear hK K
          (try simp only [Act.put, List.setIfInBounds_toArray, List.set_cons_zero, List.set_cons_succ])
          refine wpAnyH_ready (rs := [7, 20]) (by kernel_rfl) (by simp) (AllReadyH.cons (o := { dst := some 16, op := Go.Op.call { callee := Go.Callee.value (Go.Operand.func 122), args := #[Go.Operand.tmp 15, Go.Operand.const (Go.Value.int Go.IntKind.i64 17), Go.Operand.const (Go.Value.int Go.IntKind.i64 4)], argTypes := #[9, 3, 3] }, type := 23, pos := "ref.go:42", after := #[{ on := 6, ground := Go.Ground.data }, { on := 5, ground := Go.Ground.chain }], guard := none }) rfl (fun K hK => ?_) (AllReadyH.cons (o := { dst := some 4, op := Go.Op.alloc 83, type := 0, pos := "ref.go:42", after := #[], guard := none }) rfl (fun K hK => ?_) AllReadyH.nil))
          · go_simp
            refine (C3.out _).mono ?_
            rintro e vv ⟨rfl, rfl⟩
            refine hK.out _ _ ?_ (fun hHeld => ?_)
            · exact trivial
            clear hK K
            (try simp only [Act.put, List.setIfInBounds_toArray, List.set_cons_zero, List.set_cons_succ])
            refine wpAnyH_take (i := 8) (oi := { dst := some 17, op := Go.Op.convert 23 22 (Go.Operand.tmp 16), type := 22, pos := "ref.go:42", after := #[{ on := 7, ground := Go.Ground.data }], guard := none }) (v := ?_) rfl (by kernel_rfl) (by kernel_rfl) (by kernel_rfl) (fun _ _ _ h => h) (Or.inl ⟨by rfl, ?_⟩) hHeld ?_
            rotate_left
            · (intro w hSw; go_simp <;> with_reducible rfl)
            simp only [Act.put, List.setIfInBounds_toArray, List.set_cons_zero, List.set_cons_succ]
            refine wpAnyH_ready (rs := [10, 20]) (by kernel_rfl) (by simp) (AllReadyH.cons (o := { dst := some 19, op := Go.Op.call { callee := Go.Callee.value (Go.Operand.func 122), args := #[Go.Operand.tmp 18, Go.Operand.const (Go.Value.int Go.IntKind.i64 21), Go.Operand.const (Go.Value.int Go.IntKind.i64 4)], argTypes := #[9, 3, 3] }, type := 23, pos := "ref.go:42", after := #[{ on := 9, ground := Go.Ground.data }, { on := 7, ground := Go.Ground.chain }], guard := none }) rfl (fun K hK => ?_) (AllReadyH.cons (o := { dst := some 4, op := Go.Op.alloc 83, type := 0, pos := "ref.go:42", after := #[], guard := none }) rfl (fun K hK => ?_) AllReadyH.nil))
            · go_simp
              refine (C4.out _).mono ?_
              rintro e vv ⟨rfl, rfl⟩
              refine hK.out _ _ ?_ (fun hHeld => ?_)
              · exact trivial
              clear hK K
              (try simp only [Act.put, List.setIfInBounds_toArray, List.set_cons_zero, List.set_cons_succ])
              refine wpAnyH_take (i := 11) (oi := { dst := some 20, op := Go.Op.convert 23 22 (Go.Operand.tmp 19), type := 22, pos := "ref.go:42", after := #[{ on := 10, ground := Go.Ground.data }], guard := none }) (v := ?_) rfl (by kernel_rfl) (by kernel_rfl) (by kernel_rfl) (fun _ _ _ h => h) (Or.inl ⟨by rfl, ?_⟩) hHeld ?_
              rotate_left
              · (intro w hSw; go_simp <;> with_reducible rfl)
              simp only [Act.put, List.setIfInBounds_toArray, List.set_cons_zero, List.set_cons_succ]
              refine wpAnyH_ready (rs := [13, 20]) (by kernel_rfl) (by simp) (AllReadyH.cons (o := { dst := some 22, op := Go.Op.call { callee := Go.Callee.value (Go.Operand.func 122), args := #[Go.Operand.tmp 21, Go.Operand.const (Go.Value.int Go.IntKind.i64 25), Go.Operand.const (Go.Value.int Go.IntKind.i64 4)], argTypes := #[9, 3, 3] }, type := 23, pos := "ref.go:42", after := #[{ on := 12, ground := Go.Ground.data }, { on := 10, ground := Go.Ground.chain }], guard := none }) rfl (fun K hK => ?_) (AllReadyH.cons (o := { dst := some 4, op := Go.Op.alloc 83, type := 0, pos := "ref.go:42", after := #[], guard := none }) rfl (fun K hK => ?_) AllReadyH.nil))
              · go_simp
                refine (C5.out _).mono ?_
                rintro e vv ⟨rfl, rfl⟩
                refine hK.out _ _ ?_ (fun hHeld => ?_)
                · exact trivial
                clear hK K
                (try simp only [Act.put, List.setIfInBounds_toArray, List.set_cons_zero, List.set_cons_succ])
                refine wpAnyH_take (i := 14) (oi := { dst := some 23, op := Go.Op.convert 23 22 (Go.Operand.tmp 22), type := 22, pos := "ref.go:42", after := #[{ on := 13, ground := Go.Ground.data }], guard := none }) (v := ?_) rfl (by kernel_rfl) (by kernel_rfl) (by kernel_rfl) (fun _ _ _ h => h) (Or.inl ⟨by rfl, ?_⟩) hHeld ?_
                rotate_left
                · (intro w hSw; go_simp <;> with_reducible rfl)
                simp only [Act.put, List.setIfInBounds_toArray, List.set_cons_zero, List.set_cons_succ]
                refine wpAnyH_ready (rs := [16, 20]) (by kernel_rfl) (by simp) (AllReadyH.cons (o := { dst := some 25, op := Go.Op.call { callee := Go.Callee.value (Go.Operand.func 122), args := #[Go.Operand.tmp 24, Go.Operand.const (Go.Value.int Go.IntKind.i64 29), Go.Operand.const (Go.Value.int Go.IntKind.i64 2)], argTypes := #[9, 3, 3] }, type := 23, pos := "ref.go:42", after := #[{ on := 15, ground := Go.Ground.data }, { on := 13, ground := Go.Ground.chain }], guard := none }) rfl (fun K hK => ?_) (AllReadyH.cons (o := { dst := some 4, op := Go.Op.alloc 83, type := 0, pos := "ref.go:42", after := #[], guard := none }) rfl (fun K hK => ?_) AllReadyH.nil))
                · go_simp
                  refine (C6.out _).mono ?_
                  rintro e vv ⟨rfl, rfl⟩
                  refine hK.out _ _ ?_ (fun hHeld => ?_)
                  · exact trivial
                  clear hK K
                  (try simp only [Act.put, List.setIfInBounds_toArray, List.set_cons_zero, List.set_cons_succ])
                  refine wpAnyH_take (i := 17) (oi := { dst := some 26, op := Go.Op.convert 23 44 (Go.Operand.tmp 25), type := 44, pos := "ref.go:42", after := #[{ on := 16, ground := Go.Ground.data }], guard := none }) (v := ?_) rfl (by kernel_rfl) (by kernel_rfl) (by kernel_rfl) (fun _ _ _ h => h) (Or.inl ⟨by rfl, ?_⟩) hHeld ?_
                  rotate_left
                  · (intro w hSw; go_simp <;> with_reducible rfl)
                  simp only [Act.put, List.setIfInBounds_toArray, List.set_cons_zero, List.set_cons_succ]
                  refine wpAnyH_take (i := 18) (oi := { dst := some 27, op := Go.Op.build 81 #[(0, Go.Operand.tmp 23), (1, Go.Operand.tmp 26)], type := 81, pos := "ref.go:42", after := #[{ on := 14, ground := Go.Ground.data }, { on := 17, ground := Go.Ground.data }], guard := none }) (v := ?_) rfl (by kernel_rfl) (by kernel_rfl) (by kernel_rfl) (fun _ _ _ h => h) (Or.inl ⟨by rfl, ?_⟩) hHeld ?_
                  rotate_left
                  · (intro w hSw; go_simp <;> with_reducible rfl)
                  simp only [Act.put, List.setIfInBounds_toArray, List.set_cons_zero, List.set_cons_succ]
                  refine wpAnyH_take (i := 19) (oi := { dst := some 28, op := Go.Op.build 83 #[(0, Go.Operand.tmp 10), (1, Go.Operand.tmp 12), (2, Go.Operand.tmp 14), (3, Go.Operand.tmp 17), (4, Go.Operand.tmp 20), (5, Go.Operand.tmp 27)], type := 83, pos := "ref.go:42", after := #[{ on := 1, ground := Go.Ground.data }, { on := 3, ground := Go.Ground.data }, { on := 5, ground := Go.Ground.data }, { on := 8, ground := Go.Ground.data }, { on := 11, ground := Go.Ground.data }, { on := 18, ground := Go.Ground.data }], guard := none }) (v := ?_) rfl (by kernel_rfl) (by kernel_rfl) (by kernel_rfl) (fun _ _ _ h => h) (Or.inl ⟨by rfl, ?_⟩) hHeld ?_
                  rotate_left
                  · (intro w hSw; go_simp <;> with_reducible rfl)
                  simp only [Act.put, List.setIfInBounds_toArray, List.set_cons_zero, List.set_cons_succ]
                  refine wpAnyH_ready (rs := [20]) (by kernel_rfl) (by simp) (AllReadyH.cons (o := { dst := some 4, op := Go.Op.alloc 83, type := 0, pos := "ref.go:42", after := #[], guard := none }) rfl (fun K hK => ?_) AllReadyH.nil)
                  · go_simp
                    have Z1 : Hid (SgBox (v0.alloc (.cells #[.int .u64 0, .int .u8 0, .int .u64 0, .int .u32 0, .int .u32 0, .int .u32 0, .int .u16 0] 83)) v0.heap.size Sg.zero) := heap_alloc_new v0 _
                    have B1 := Lib.hid (B0.out.alloc B0.out.size (.cells #[.int .u64 0, .int .u8 0, .int .u64 0, .int .u32 0, .int .u32 0, .int .u32 0, .int .u16 0] 83))
                    have HB1 := Lib.hid (HB.out.keep (.cells #[.int .u64 0, .int .u8 0, .int .u64 0, .int .u32 0, .int .u32 0, .int .u32 0, .int .u16 0] 83))
                    have hX0 : w.heap.size < v0.heap.size := HB.out.lt
                    obtain ⟨X, hX⟩ : ∃ X, X = v0.heap.size := ⟨_, rfl⟩
                    rw [← hX] at Z1 hX0 ⊢
                    generalize v0.alloc (.cells #[.int .u64 0, .int .u8 0, .int .u64 0, .int .u32 0, .int .u32 0, .int .u32 0, .int .u16 0] 83) = v1 at *
                    clear hX B0 HB
                    refine hK.out _ _ ?_ (fun hHeld => ?_)
                    · exact trivial
                    clear hK K
                    (try simp only [Act.put, List.setIfInBounds_toArray, List.set_cons_zero, List.set_cons_succ])
                    refine wpAnyH_ready (rs := [21]) (by kernel_rfl) (by simp) (AllReadyH.cons (o := { dst := none, op := Go.Op.store 83 (Go.Operand.tmp 4) (Go.Operand.tmp 28), type := 0, pos := "ref.go:42", after := #[{ on := 20, ground := Go.Ground.data }, { on := 19, ground := Go.Ground.data }, { on := 16, ground := Go.Ground.chain }, { on := 0, ground := Go.Ground.phase }, { on := 1, ground := Go.Ground.phase }, { on := 2, ground := Go.Ground.phase }, { on := 3, ground := Go.Ground.phase }, { on := 4, ground := Go.Ground.phase }, { on := 5, ground := Go.Ground.phase }, { on := 6, ground := Go.Ground.phase }, { on := 7, ground := Go.Ground.phase }, { on := 8, ground := Go.Ground.phase }, { on := 9, ground := Go.Ground.phase }, { on := 10, ground := Go.Ground.phase }, { on := 11, ground := Go.Ground.phase }, { on := 12, ground := Go.Ground.phase }, { on := 13, ground := Go.Ground.phase }, { on := 14, ground := Go.Ground.phase }, { on := 15, ground := Go.Ground.phase }, { on := 16, ground := Go.Ground.phase }, { on := 17, ground := Go.Ground.phase }, { on := 18, ground := Go.Ground.phase }, { on := 19, ground := Go.Ground.phase }, { on := 20, ground := Go.Ground.phase }], guard := none }) rfl (fun K hK => ?_) AllReadyH.nil)
                    · refine step_store_sg rfl (.tmp 4) (.tmp 28) rfl Z1.out ⟨n0, n1, n2, n3, n4, n5, n6⟩ (by rfl) (by simp only [← HQ1.out]; rfl) ?_
                      intro v2 hP hKq
                      have Z2 := Lib.hid hP
                      have K2 := Lib.hid hKq
                      clear hP hKq
                      refine hK.out _ _ ?_ (fun hHeld => ?_)
                      · exact trivial
                      clear hK K
                      (try simp only [Act.put, List.setIfInBounds_toArray, List.set_cons_zero, List.set_cons_succ])
                      refine wpAnyH_done (by kernel_rfl) ?_ _
                      go_wp2_with fail
                      go_meet
                      exact ⟨X, rfl, hX0, Z2, Lib.hid (HB1.out.kept K2.out (by omega)), Lib.hid (OthersKept.below B1.out K2.out (fun k hk e => by omega))⟩
                · go_simp
                  have Z1 : Hid (SgBox (v0.alloc (.cells #[.int .u64 0, .int .u8 0, .int .u64 0, .int .u32 0, .int .u32 0, .int .u32 0, .int .u16 0] 83)) v0.heap.size Sg.zero) := heap_alloc_new v0 _
                  have B1 := Lib.hid (B0.out.alloc B0.out.size (.cells #[.int .u64 0, .int .u8 0, .int .u64 0, .int .u32 0, .int .u32 0, .int .u32 0, .int .u16 0] 83))
                  have HB1 := Lib.hid (HB.out.keep (.cells #[.int .u64 0, .int .u8 0, .int .u64 0, .int .u32 0, .int .u32 0, .int .u32 0, .int .u16 0] 83))
                  have hX0 : w.heap.size < v0.heap.size := HB.out.lt
                  obtain ⟨X, hX⟩ : ∃ X, X = v0.heap.size := ⟨_, rfl⟩
                  rw [← hX] at Z1 hX0 ⊢
                  generalize v0.alloc (.cells #[.int .u64 0, .int .u8 0, .int .u64 0, .int .u32 0, .int .u32 0, .int .u32 0, .int .u16 0] 83) = v1 at *
                  clear hX B0 HB
                  refine hK.out _ _ ?_ (fun hHeld => ?_)
                  · exact trivial
                  clear hK K
                  (try simp only [Act.put, List.setIfInBounds_toArray, List.set_cons_zero, List.set_cons_succ])
                  refine wpAnyH_ready (rs := [16]) (by kernel_rfl) (by simp) (AllReadyH.cons (o := { dst := some 25, op := Go.Op.call { callee := Go.Callee.value (Go.Operand.func 122), args := #[Go.Operand.tmp 24, Go.Operand.const (Go.Value.int Go.IntKind.i64 29), Go.Operand.const (Go.Value.int Go.IntKind.i64 2)], argTypes := #[9, 3, 3] }, type := 23, pos := "ref.go:42", after := #[{ on := 15, ground := Go.Ground.data }, { on := 13, ground := Go.Ground.chain }], guard := none }) rfl (fun K hK => ?_) AllReadyH.nil)
                  · go_simp
                    refine (C6.out _).mono ?_
                    rintro e vv ⟨rfl, rfl⟩
                    refine hK.out _ _ ?_ (fun hHeld => ?_)
                    · exact trivial
                    clear hK K
                    (try simp only [Act.put, List.setIfInBounds_toArray, List.set_cons_zero, List.set_cons_succ])
                    refine wpAnyH_take (i := 17) (oi := { dst := some 26, op := Go.Op.convert 23 44 (Go.Operand.tmp 25), type := 44, pos := "ref.go:42", after := #[{ on := 16, ground := Go.Ground.data }], guard := none }) (v := ?_) rfl (by kernel_rfl) (by kernel_rfl) (by kernel_rfl) (fun _ _ _ h => h) (Or.inl ⟨by rfl, ?_⟩) hHeld ?_
                    rotate_left
                    · (intro w hSw; go_simp <;> with_reducible rfl)
                    simp only [Act.put, List.setIfInBounds_toArray, List.set_cons_zero, List.set_cons_succ]
                    refine wpAnyH_take (i := 18) (oi := { dst := some 27, op := Go.Op.build 81 #[(0, Go.Operand.tmp 23), (1, Go.Operand.tmp 26)], type := 81, pos := "ref.go:42", after := #[{ on := 14, ground := Go.Ground.data }, { on := 17, ground := Go.Ground.data }], guard := none }) (v := ?_) rfl (by kernel_rfl) (by kernel_rfl) (by kernel_rfl) (fun _ _ _ h => h) (Or.inl ⟨by rfl, ?_⟩) hHeld ?_
                    rotate_left
                    · (intro w hSw; go_simp <;> with_reducible rfl)
                    simp only [Act.put, List.setIfInBounds_toArray, List.set_cons_zero, List.set_cons_succ]
                    refine wpAnyH_take (i := 19) (oi := { dst := some 28, op := Go.Op.build 83 #[(0, Go.Operand.tmp 10), (1, Go.Operand.tmp 12), (2, Go.Operand.tmp 14), (3, Go.Operand.tmp 17), (4, Go.Operand.tmp 20), (5, Go.Operand.tmp 27)], type := 83, pos := "ref.go:42", after := #[{ on := 1, ground := Go.Ground.data }, { on := 3, ground := Go.Ground.data }, { on := 5, ground := Go.Ground.data }, { on := 8, ground := Go.Ground.data }, { on := 11, ground := Go.Ground.data }, { on := 18, ground := Go.Ground.data }], guard := none }) (v := ?_) rfl (by kernel_rfl) (by kernel_rfl) (by kernel_rfl) (fun _ _ _ h => h) (Or.inl ⟨by rfl, ?_⟩) hHeld ?_
                    rotate_left
                    · (intro w hSw; go_simp <;> with_reducible rfl)
                    simp only [Act.put, List.setIfInBounds_toArray, List.set_cons_zero, List.set_cons_succ]
                    refine wpAnyH_ready (rs := [21]) (by kernel_rfl) (by simp) (AllReadyH.cons (o := { dst := none, op := Go.Op.store 83 (Go.Operand.tmp 4) (Go.Operand.tmp 28), type := 0, pos := "ref.go:42", after := #[{ on := 20, ground := Go.Ground.data }, { on := 19, ground := Go.Ground.data }, { on := 16, ground := Go.Ground.chain }, { on := 0, ground := Go.Ground.phase }, { on := 1, ground := Go.Ground.phase }, { on := 2, ground := Go.Ground.phase }, { on := 3, ground := Go.Ground.phase }, { on := 4, ground := Go.Ground.phase }, { on := 5, ground := Go.Ground.phase }, { on := 6, ground := Go.Ground.phase }, { on := 7, ground := Go.Ground.phase }, { on := 8, ground := Go.Ground.phase }, { on := 9, ground := Go.Ground.phase }, { on := 10, ground := Go.Ground.phase }, { on := 11, ground := Go.Ground.phase }, { on := 12, ground := Go.Ground.phase }, { on := 13, ground := Go.Ground.phase }, { on := 14, ground := Go.Ground.phase }, { on := 15, ground := Go.Ground.phase }, { on := 16, ground := Go.Ground.phase }, { on := 17, ground := Go.Ground.phase }, { on := 18, ground := Go.Ground.phase }, { on := 19, ground := Go.Ground.phase }, { on := 20, ground := Go.Ground.phase }], guard := none }) rfl (fun K hK => ?_) AllReadyH.nil)
                    · refine step_store_sg rfl (.tmp 4) (.tmp 28) rfl Z1.out ⟨n0, n1, n2, n3, n4, n5, n6⟩ (by rfl) (by simp only [← HQ1.out]; rfl) ?_
                      intro v2 hP hKq
                      have Z2 := Lib.hid hP
                      have K2 := Lib.hid hKq
                      clear hP hKq
                      refine hK.out _ _ ?_ (fun hHeld => ?_)
                      · exact trivial
                      clear hK K
                      (try simp only [Act.put, List.setIfInBounds_toArray, List.set_cons_zero, List.set_cons_succ])
                      refine wpAnyH_done (by kernel_rfl) ?_ _
                      go_wp2_with fail
                      go_meet
                      exact ⟨X, rfl, hX0, Z2, Lib.hid (HB1.out.kept K2.out (by omega)), Lib.hid (OthersKept.below B1.out K2.out (fun k hk e => by omega))⟩
              · go_simp
                have Z1 : Hid (SgBox (v0.alloc (.cells #[.int .u64 0, .int .u8 0, .int .u64 0, .int .u32 0, .int .u32 0, .int .u32 0, .int .u16 0] 83)) v0.heap.size Sg.zero) := heap_alloc_new v0 _
                have B1 := Lib.hid (B0.out.alloc B0.out.size (.cells #[.int .u64 0, .int .u8 0, .int .u64 0, .int .u32 0, .int .u32 0, .int .u32 0, .int .u16 0] 83))
                have HB1 := Lib.hid (HB.out.keep (.cells #[.int .u64 0, .int .u8 0, .int .u64 0, .int .u32 0, .int .u32 0, .int .u32 0, .int .u16 0] 83))
                have hX0 : w.heap.size < v0.heap.size := HB.out.lt
                obtain ⟨X, hX⟩ : ∃ X, X = v0.heap.size := ⟨_, rfl⟩
                rw [← hX] at Z1 hX0 ⊢
                generalize v0.alloc (.cells #[.int .u64 0, .int .u8 0, .int .u64 0, .int .u32 0, .int .u32 0, .int .u32 0, .int .u16 0] 83) = v1 at *
                clear hX B0 HB
                refine hK.out _ _ ?_ (fun hHeld => ?_)
                · exact trivial
                clear hK K
                (try simp only [Act.put, List.setIfInBounds_toArray, List.set_cons_zero, List.set_cons_succ])
                refine wpAnyH_ready (rs := [13]) (by kernel_rfl) (by simp) (AllReadyH.cons (o := { dst := some 22, op := Go.Op.call { callee := Go.Callee.value (Go.Operand.func 122), args := #[Go.Operand.tmp 21, Go.Operand.const (Go.Value.int Go.IntKind.i64 25), Go.Operand.const (Go.Value.int Go.IntKind.i64 4)], argTypes := #[9, 3, 3] }, type := 23, pos := "ref.go:42", after := #[{ on := 12, ground := Go.Ground.data }, { on := 10, ground := Go.Ground.chain }], guard := none }) rfl (fun K hK => ?_) AllReadyH.nil)
                · go_simp
                  refine (C5.out _).mono ?_
                  rintro e vv ⟨rfl, rfl⟩
                  refine hK.out _ _ ?_ (fun hHeld => ?_)
                  · exact trivial
                  clear hK K
                  (try simp only [Act.put, List.setIfInBounds_toArray, List.set_cons_zero, List.set_cons_succ])
                  refine wpAnyH_take (i := 14) (oi := { dst := some 23, op := Go.Op.convert 23 22 (Go.Operand.tmp 22), type := 22, pos := "ref.go:42", after := #[{ on := 13, ground := Go.Ground.data }], guard := none }) (v := ?_) rfl (by kernel_rfl) (by kernel_rfl) (by kernel_rfl) (fun _ _ _ h => h) (Or.inl ⟨by rfl, ?_⟩) hHeld ?_
                  rotate_left
                  · (intro w hSw; go_simp <;> with_reducible rfl)
                  simp only [Act.put, List.setIfInBounds_toArray, List.set_cons_zero, List.set_cons_succ]
                  refine wpAnyH_ready (rs := [16]) (by kernel_rfl) (by simp) (AllReadyH.cons (o := { dst := some 25, op := Go.Op.call { callee := Go.Callee.value (Go.Operand.func 122), args := #[Go.Operand.tmp 24, Go.Operand.const (Go.Value.int Go.IntKind.i64 29), Go.Operand.const (Go.Value.int Go.IntKind.i64 2)], argTypes := #[9, 3, 3] }, type := 23, pos := "ref.go:42", after := #[{ on := 15, ground := Go.Ground.data }, { on := 13, ground := Go.Ground.chain }], guard := none }) rfl (fun K hK => ?_) AllReadyH.nil)
                  · go_simp
                    refine (C6.out _).mono ?_
                    rintro e vv ⟨rfl, rfl⟩
                    refine hK.out _ _ ?_ (fun hHeld => ?_)
                    · exact trivial
                    clear hK K
                    (try simp only [Act.put, List.setIfInBounds_toArray, List.set_cons_zero, List.set_cons_succ])
                    refine wpAnyH_take (i := 17) (oi := { dst := some 26, op := Go.Op.convert 23 44 (Go.Operand.tmp 25), type := 44, pos := "ref.go:42", after := #[{ on := 16, ground := Go.Ground.data }], guard := none }) (v := ?_) rfl (by kernel_rfl) (by kernel_rfl) (by kernel_rfl) (fun _ _ _ h => h) (Or.inl ⟨by rfl, ?_⟩) hHeld ?_
                    rotate_left
                    · (intro w hSw; go_simp <;> with_reducible rfl)
                    simp only [Act.put, List.setIfInBounds_toArray, List.set_cons_zero, List.set_cons_succ]
                    refine wpAnyH_take (i := 18) (oi := { dst := some 27, op := Go.Op.build 81 #[(0, Go.Operand.tmp 23), (1, Go.Operand.tmp 26)], type := 81, pos := "ref.go:42", after := #[{ on := 14, ground := Go.Ground.data }, { on := 17, ground := Go.Ground.data }], guard := none }) (v := ?_) rfl (by kernel_rfl) (by kernel_rfl) (by kernel_rfl) (fun _ _ _ h => h) (Or.inl ⟨by rfl, ?_⟩) hHeld ?_
                    rotate_left
                    · (intro w hSw; go_simp <;> with_reducible rfl)
                    simp only [Act.put, List.setIfInBounds_toArray, List.set_cons_zero, List.set_cons_succ]
                    refine wpAnyH_take (i := 19) (oi := { dst := some 28, op := Go.Op.build 83 #[(0, Go.Operand.tmp 10), (1, Go.Operand.tmp 12), (2, Go.Operand.tmp 14), (3, Go.Operand.tmp 17), (4, Go.Operand.tmp 20), (5, Go.Operand.tmp 27)], type := 83, pos := "ref.go:42", after := #[{ on := 1, ground := Go.Ground.data }, { on := 3, ground := Go.Ground.data }, { on := 5, ground := Go.Ground.data }, { on := 8, ground := Go.Ground.data }, { on := 11, ground := Go.Ground.data }, { on := 18, ground := Go.Ground.data }], guard := none }) (v := ?_) rfl (by kernel_rfl) (by kernel_rfl) (by kernel_rfl) (fun _ _ _ h => h) (Or.inl ⟨by rfl, ?_⟩) hHeld ?_
                    rotate_left
                    · (intro w hSw; go_simp <;> with_reducible rfl)
                    simp only [Act.put, List.setIfInBounds_toArray, List.set_cons_zero, List.set_cons_succ]
                    refine wpAnyH_ready (rs := [21]) (by kernel_rfl) (by simp) (AllReadyH.cons (o := { dst := none, op := Go.Op.store 83 (Go.Operand.tmp 4) (Go.Operand.tmp 28), type := 0, pos := "ref.go:42", after := #[{ on := 20, ground := Go.Ground.data }, { on := 19, ground := Go.Ground.data }, { on := 16, ground := Go.Ground.chain }, { on := 0, ground := Go.Ground.phase }, { on := 1, ground := Go.Ground.phase }, { on := 2, ground := Go.Ground.phase }, { on := 3, ground := Go.Ground.phase }, { on := 4, ground := Go.Ground.phase }, { on := 5, ground := Go.Ground.phase }, { on := 6, ground := Go.Ground.phase }, { on := 7, ground := Go.Ground.phase }, { on := 8, ground := Go.Ground.phase }, { on := 9, ground := Go.Ground.phase }, { on := 10, ground := Go.Ground.phase }, { on := 11, ground := Go.Ground.phase }, { on := 12, ground := Go.Ground.phase }, { on := 13, ground := Go.Ground.phase }, { on := 14, ground := Go.Ground.phase }, { on := 15, ground := Go.Ground.phase }, { on := 16, ground := Go.Ground.phase }, { on := 17, ground := Go.Ground.phase }, { on := 18, ground := Go.Ground.phase }, { on := 19, ground := Go.Ground.phase }, { on := 20, ground := Go.Ground.phase }], guard := none }) rfl (fun K hK => ?_) AllReadyH.nil)
                    · refine step_store_sg rfl (.tmp 4) (.tmp 28) rfl Z1.out ⟨n0, n1, n2, n3, n4, n5, n6⟩ (by rfl) (by simp only [← HQ1.out]; rfl) ?_
                      intro v2 hP hKq
                      have Z2 := Lib.hid hP
                      have K2 := Lib.hid hKq
                      clear hP hKq
                      refine hK.out _ _ ?_ (fun hHeld => ?_)
                      · exact trivial
                      clear hK K
                      (try simp only [Act.put, List.setIfInBounds_toArray, List.set_cons_zero, List.set_cons_succ])
                      refine wpAnyH_done (by kernel_rfl) ?_ _
                      go_wp2_with fail
                      go_meet
                      exact ⟨X, rfl, hX0, Z2, Lib.hid (HB1.out.kept K2.out (by omega)), Lib.hid (OthersKept.below B1.out K2.out (fun k hk e => by omega))⟩
            · go_simp
              have Z1 : Hid (SgBox (v0.alloc (.cells #[.int .u64 0, .int .u8 0, .int .u64 0, .int .u32 0, .int .u32 0, .int .u32 0, .int .u16 0] 83)) v0.heap.size Sg.zero) := heap_alloc_new v0 _
              have B1 := Lib.hid (B0.out.alloc B0.out.size (.cells #[.int .u64 0, .int .u8 0, .int .u64 0, .int .u32 0, .int .u32 0, .int .u32 0, .int .u16 0] 83))
              have HB1 := Lib.hid (HB.out.keep (.cells #[.int .u64 0, .int .u8 0, .int .u64 0, .int .u32 0, .int .u32 0, .int .u32 0, .int .u16 0] 83))
              have hX0 : w.heap.size < v0.heap.size := HB.out.lt
              obtain ⟨X, hX⟩ : ∃ X, X = v0.heap.size := ⟨_, rfl⟩
              rw [← hX] at Z1 hX0 ⊢
              generalize v0.alloc (.cells #[.int .u64 0, .int .u8 0, .int .u64 0, .int .u32 0, .int .u32 0, .int .u32 0, .int .u16 0] 83) = v1 at *
              clear hX B0 HB
              refine hK.out _ _ ?_ (fun hHeld => ?_)
              · exact trivial
              clear hK K
              (try simp only [Act.put, List.setIfInBounds_toArray, List.set_cons_zero, List.set_cons_succ])
              refine wpAnyH_ready (rs := [10]) (by kernel_rfl) (by simp) (AllReadyH.cons (o := { dst := some 19, op := Go.Op.call { callee := Go.Callee.value (Go.Operand.func 122), args := #[Go.Operand.tmp 18, Go.Operand.const (Go.Value.int Go.IntKind.i64 21), Go.Operand.const (Go.Value.int Go.IntKind.i64 4)], argTypes := #[9, 3, 3] }, type := 23, pos := "ref.go:42", after := #[{ on := 9, ground := Go.Ground.data }, { on := 7, ground := Go.Ground.chain }], guard := none }) rfl (fun K hK => ?_) AllReadyH.nil)
              · go_simp
                refine (C4.out _).mono ?_
                rintro e vv ⟨rfl, rfl⟩
                refine hK.out _ _ ?_ (fun hHeld => ?_)
                · exact trivial
                clear hK K
                (try simp only [Act.put, List.setIfInBounds_toArray, List.set_cons_zero, List.set_cons_succ])
                refine wpAnyH_take (i := 11) (oi := { dst := some 20, op := Go.Op.convert 23 22 (Go.Operand.tmp 19), type := 22, pos := "ref.go:42", after := #[{ on := 10, ground := Go.Ground.data }], guard := none }) (v := ?_) rfl (by kernel_rfl) (by kernel_rfl) (by kernel_rfl) (fun _ _ _ h => h) (Or.inl ⟨by rfl, ?_⟩) hHeld ?_
                rotate_left
                · (intro w hSw; go_simp <;> with_reducible rfl)
                simp only [Act.put, List.setIfInBounds_toArray, List.set_cons_zero, List.set_cons_succ]
                refine wpAnyH_ready (rs := [13]) (by kernel_rfl) (by simp) (AllReadyH.cons (o := { dst := some 22, op := Go.Op.call { callee := Go.Callee.value (Go.Operand.func 122), args := #[Go.Operand.tmp 21, Go.Operand.const (Go.Value.int Go.IntKind.i64 25), Go.Operand.const (Go.Value.int Go.IntKind.i64 4)], argTypes := #[9, 3, 3] }, type := 23, pos := "ref.go:42", after := #[{ on := 12, ground := Go.Ground.data }, { on := 10, ground := Go.Ground.chain }], guard := none }) rfl (fun K hK => ?_) AllReadyH.nil)
                · go_simp
                  refine (C5.out _).mono ?_
                  rintro e vv ⟨rfl, rfl⟩
                  refine hK.out _ _ ?_ (fun hHeld => ?_)
                  · exact trivial
                  clear hK K
                  (try simp only [Act.put, List.setIfInBounds_toArray, List.set_cons_zero, List.set_cons_succ])
                  refine wpAnyH_take (i := 14) (oi := { dst := some 23, op := Go.Op.convert 23 22 (Go.Operand.tmp 22), type := 22, pos := "ref.go:42", after := #[{ on := 13, ground := Go.Ground.data }], guard := none }) (v := ?_) rfl (by kernel_rfl) (by kernel_rfl) (by kernel_rfl) (fun _ _ _ h => h) (Or.inl ⟨by rfl, ?_⟩) hHeld ?_
                  rotate_left
                  · (intro w hSw; go_simp <;> with_reducible rfl)
                  simp only [Act.put, List.setIfInBounds_toArray, List.set_cons_zero, List.set_cons_succ]
                  refine wpAnyH_ready (rs := [16]) (by kernel_rfl) (by simp) (AllReadyH.cons (o := { dst := some 25, op := Go.Op.call { callee := Go.Callee.value (Go.Operand.func 122), args := #[Go.Operand.tmp 24, Go.Operand.const (Go.Value.int Go.IntKind.i64 29), Go.Operand.const (Go.Value.int Go.IntKind.i64 2)], argTypes := #[9, 3, 3] }, type := 23, pos := "ref.go:42", after := #[{ on := 15, ground := Go.Ground.data }, { on := 13, ground := Go.Ground.chain }], guard := none }) rfl (fun K hK => ?_) AllReadyH.nil)
                  · go_simp
                    refine (C6.out _).mono ?_
                    rintro e vv ⟨rfl, rfl⟩
                    refine hK.out _ _ ?_ (fun hHeld => ?_)
                    · exact trivial
                    clear hK K
                    (try simp only [Act.put, List.setIfInBounds_toArray, List.set_cons_zero, List.set_cons_succ])
                    refine wpAnyH_take (i := 17) (oi := { dst := some 26, op := Go.Op.convert 23 44 (Go.Operand.tmp 25), type := 44, pos := "ref.go:42", after := #[{ on := 16, ground := Go.Ground.data }], guard := none }) (v := ?_) rfl (by kernel_rfl) (by kernel_rfl) (by kernel_rfl) (fun _ _ _ h => h) (Or.inl ⟨by rfl, ?_⟩) hHeld ?_
                    rotate_left
                    · (intro w hSw; go_simp <;> with_reducible rfl)
                    simp only [Act.put, List.setIfInBounds_toArray, List.set_cons_zero, List.set_cons_succ]
                    refine wpAnyH_take (i := 18) (oi := { dst := some 27, op := Go.Op.build 81 #[(0, Go.Operand.tmp 23), (1, Go.Operand.tmp 26)], type := 81, pos := "ref.go:42", after := #[{ on := 14, ground := Go.Ground.data }, { on := 17, ground := Go.Ground.data }], guard := none }) (v := ?_) rfl (by kernel_rfl) (by kernel_rfl) (by kernel_rfl) (fun _ _ _ h => h) (Or.inl ⟨by rfl, ?_⟩) hHeld ?_
                    rotate_left
                    · (intro w hSw; go_simp <;> with_reducible rfl)
                    simp only [Act.put, List.setIfInBounds_toArray, List.set_cons_zero, List.set_cons_succ]
                    refine wpAnyH_take (i := 19) (oi := { dst := some 28, op := Go.Op.build 83 #[(0, Go.Operand.tmp 10), (1, Go.Operand.tmp 12), (2, Go.Operand.tmp 14), (3, Go.Operand.tmp 17), (4, Go.Operand.tmp 20), (5, Go.Operand.tmp 27)], type := 83, pos := "ref.go:42", after := #[{ on := 1, ground := Go.Ground.data }, { on := 3, ground := Go.Ground.data }, { on := 5, ground := Go.Ground.data }, { on := 8, ground := Go.Ground.data }, { on := 11, ground := Go.Ground.data }, { on := 18, ground := Go.Ground.data }], guard := none }) (v := ?_) rfl (by kernel_rfl) (by kernel_rfl) (by kernel_rfl) (fun _ _ _ h => h) (Or.inl ⟨by rfl, ?_⟩) hHeld ?_
                    rotate_left
                    · (intro w hSw; go_simp <;> with_reducible rfl)
                    simp only [Act.put, List.setIfInBounds_toArray, List.set_cons_zero, List.set_cons_succ]
                    refine wpAnyH_ready (rs := [21]) (by kernel_rfl) (by simp) (AllReadyH.cons (o := { dst := none, op := Go.Op.store 83 (Go.Operand.tmp 4) (Go.Operand.tmp 28), type := 0, pos := "ref.go:42", after := #[{ on := 20, ground := Go.Ground.data }, { on := 19, ground := Go.Ground.data }, { on := 16, ground := Go.Ground.chain }, { on := 0, ground := Go.Ground.phase }, { on := 1, ground := Go.Ground.phase }, { on := 2, ground := Go.Ground.phase }, { on := 3, ground := Go.Ground.phase }, { on := 4, ground := Go.Ground.phase }, { on := 5, ground := Go.Ground.phase }, { on := 6, ground := Go.Ground.phase }, { on := 7, ground := Go.Ground.phase }, { on := 8, ground := Go.Ground.phase }, { on := 9, ground := Go.Ground.phase }, { on := 10, ground := Go.Ground.phase }, { on := 11, ground := Go.Ground.phase }, { on := 12, ground := Go.Ground.phase }, { on := 13, ground := Go.Ground.phase }, { on := 14, ground := Go.Ground.phase }, { on := 15, ground := Go.Ground.phase }, { on := 16, ground := Go.Ground.phase }, { on := 17, ground := Go.Ground.phase }, { on := 18, ground := Go.Ground.phase }, { on := 19, ground := Go.Ground.phase }, { on := 20, ground := Go.Ground.phase }], guard := none }) rfl (fun K hK => ?_) AllReadyH.nil)
                    · refine step_store_sg rfl (.tmp 4) (.tmp 28) rfl Z1.out ⟨n0, n1, n2, n3, n4, n5, n6⟩ (by rfl) (by simp only [← HQ1.out]; rfl) ?_
                      intro v2 hP hKq
                      have Z2 := Lib.hid hP
                      have K2 := Lib.hid hKq
                      clear hP hKq
                      refine hK.out _ _ ?_ (fun hHeld => ?_)
                      · exact trivial
                      clear hK K
                      (try simp only [Act.put, List.setIfInBounds_toArray, List.set_cons_zero, List.set_cons_succ])
                      refine wpAnyH_done (by kernel_rfl) ?_ _
                      go_wp2_with fail
                      go_meet
                      exact ⟨X, rfl, hX0, Z2, Lib.hid (HB1.out.kept K2.out (by omega)), Lib.hid (OthersKept.below B1.out K2.out (fun k hk e => by omega))⟩
          · go_simp
            have Z1 : Hid (SgBox (v0.alloc (.cells #[.int .u64 0, .int .u8 0, .int .u64 0, .int .u32 0, .int .u32 0, .int .u32 0, .int .u16 0] 83)) v0.heap.size Sg.zero) := heap_alloc_new v0 _
            have B1 := Lib.hid (B0.out.alloc B0.out.size (.cells #[.int .u64 0, .int .u8 0, .int .u64 0, .int .u32 0, .int .u32 0, .int .u32 0, .int .u16 0] 83))
            have HB1 := Lib.hid (HB.out.keep (.cells #[.int .u64 0, .int .u8 0, .int .u64 0, .int .u32 0, .int .u32 0, .int .u32 0, .int .u16 0] 83))
            have hX0 : w.heap.size < v0.heap.size := HB.out.lt
            obtain ⟨X, hX⟩ : ∃ X, X = v0.heap.size := ⟨_, rfl⟩
            rw [← hX] at Z1 hX0 ⊢
            generalize v0.alloc (.cells #[.int .u64 0, .int .u8 0, .int .u64 0, .int .u32 0, .int .u32 0, .int .u32 0, .int .u16 0] 83) = v1 at *
            clear hX B0 HB
            refine hK.out _ _ ?_ (fun hHeld => ?_)
            · exact trivial
            clear hK K
            (try simp only [Act.put, List.setIfInBounds_toArray, List.set_cons_zero, List.set_cons_succ])
            refine wpAnyH_ready (rs := [7]) (by kernel_rfl) (by simp) (AllReadyH.cons (o := { dst := some 16, op := Go.Op.call { callee := Go.Callee.value (Go.Operand.func 122), args := #[Go.Operand.tmp 15, Go.Operand.const (Go.Value.int Go.IntKind.i64 17), Go.Operand.const (Go.Value.int Go.IntKind.i64 4)], argTypes := #[9, 3, 3] }, type := 23, pos := "ref.go:42", after := #[{ on := 6, ground := Go.Ground.data }, { on := 5, ground := Go.Ground.chain }], guard := none }) rfl (fun K hK => ?_) AllReadyH.nil)
            · go_simp
              refine (C3.out _).mono ?_
              rintro e vv ⟨rfl, rfl⟩
              refine hK.out _ _ ?_ (fun hHeld => ?_)
              · exact trivial
              clear hK K
              (try simp only [Act.put, List.setIfInBounds_toArray, List.set_cons_zero, List.set_cons_succ])
              refine wpAnyH_take (i := 8) (oi := { dst := some 17, op := Go.Op.convert 23 22 (Go.Operand.tmp 16), type := 22, pos := "ref.go:42", after := #[{ on := 7, ground := Go.Ground.data }], guard := none }) (v := ?_) rfl (by kernel_rfl) (by kernel_rfl) (by kernel_rfl) (fun _ _ _ h => h) (Or.inl ⟨by rfl, ?_⟩) hHeld ?_
              rotate_left
              · (intro w hSw; go_simp <;> with_reducible rfl)
              simp only [Act.put, List.setIfInBounds_toArray, List.set_cons_zero, List.set_cons_succ]
              refine wpAnyH_ready (rs := [10]) (by kernel_rfl) (by simp) (AllReadyH.cons (o := { dst := some 19, op := Go.Op.call { callee := Go.Callee.value (Go.Operand.func 122), args := #[Go.Operand.tmp 18, Go.Operand.const (Go.Value.int Go.IntKind.i64 21), Go.Operand.const (Go.Value.int Go.IntKind.i64 4)], argTypes := #[9, 3, 3] }, type := 23, pos := "ref.go:42", after := #[{ on := 9, ground := Go.Ground.data }, { on := 7, ground := Go.Ground.chain }], guard := none }) rfl (fun K hK => ?_) AllReadyH.nil)
              · go_simp
                refine (C4.out _).mono ?_
                rintro e vv ⟨rfl, rfl⟩
                refine hK.out _ _ ?_ (fun hHeld => ?_)
                · exact trivial
                clear hK K
                (try simp only [Act.put, List.setIfInBounds_toArray, List.set_cons_zero, List.set_cons_succ])
                refine wpAnyH_take (i := 11) (oi := { dst := some 20, op := Go.Op.convert 23 22 (Go.Operand.tmp 19), type := 22, pos := "ref.go:42", after := #[{ on := 10, ground := Go.Ground.data }], guard := none }) (v := ?_) rfl (by kernel_rfl) (by kernel_rfl) (by kernel_rfl) (fun _ _ _ h => h) (Or.inl ⟨by rfl, ?_⟩) hHeld ?_
                rotate_left
                · (intro w hSw; go_simp <;> with_reducible rfl)
                simp only [Act.put, List.setIfInBounds_toArray, List.set_cons_zero, List.set_cons_succ]
                refine wpAnyH_ready (rs := [13]) (by kernel_rfl) (by simp) (AllReadyH.cons (o := { dst := some 22, op := Go.Op.call { callee := Go.Callee.value (Go.Operand.func 122), args := #[Go.Operand.tmp 21, Go.Operand.const (Go.Value.int Go.IntKind.i64 25), Go.Operand.const (Go.Value.int Go.IntKind.i64 4)], argTypes := #[9, 3, 3] }, type := 23, pos := "ref.go:42", after := #[{ on := 12, ground := Go.Ground.data }, { on := 10, ground := Go.Ground.chain }], guard := none }) rfl (fun K hK => ?_) AllReadyH.nil)
                · go_simp
                  refine (C5.out _).mono ?_
                  rintro e vv ⟨rfl, rfl⟩
                  refine hK.out _ _ ?_ (fun hHeld => ?_)
                  · exact trivial
                  clear hK K
                  (try simp only [Act.put, List.setIfInBounds_toArray, List.set_cons_zero, List.set_cons_succ])
                  refine wpAnyH_take (i := 14) (oi := { dst := some 23, op := Go.Op.convert 23 22 (Go.Operand.tmp 22), type := 22, pos := "ref.go:42", after := #[{ on := 13, ground := Go.Ground.data }], guard := none }) (v := ?_) rfl (by kernel_rfl) (by kernel_rfl) (by kernel_rfl) (fun _ _ _ h => h) (Or.inl ⟨by rfl, ?_⟩) hHeld ?_
                  rotate_left
                  · (intro w hSw; go_simp <;> with_reducible rfl)
                  simp only [Act.put, List.setIfInBounds_toArray, List.set_cons_zero, List.set_cons_succ]
                  refine wpAnyH_ready (rs := [16]) (by kernel_rfl) (by simp) (AllReadyH.cons (o := { dst := some 25, op := Go.Op.call { callee := Go.Callee.value (Go.Operand.func 122), args := #[Go.Operand.tmp 24, Go.Operand.const (Go.Value.int Go.IntKind.i64 29), Go.Operand.const (Go.Value.int Go.IntKind.i64 2)], argTypes := #[9, 3, 3] }, type := 23, pos := "ref.go:42", after := #[{ on := 15, ground := Go.Ground.data }, { on := 13, ground := Go.Ground.chain }], guard := none }) rfl (fun K hK => ?_) AllReadyH.nil)
                  · go_simp
                    refine (C6.out _).mono ?_
                    rintro e vv ⟨rfl, rfl⟩
                    refine hK.out _ _ ?_ (fun hHeld => ?_)
                    · exact trivial
                    clear hK K
                    (try simp only [Act.put, List.setIfInBounds_toArray, List.set_cons_zero, List.set_cons_succ])
                    refine wpAnyH_take (i := 17) (oi := { dst := some 26, op := Go.Op.convert 23 44 (Go.Operand.tmp 25), type := 44, pos := "ref.go:42", after := #[{ on := 16, ground := Go.Ground.data }], guard := none }) (v := ?_) rfl (by kernel_rfl) (by kernel_rfl) (by kernel_rfl) (fun _ _ _ h => h) (Or.inl ⟨by rfl, ?_⟩) hHeld ?_
                    rotate_left
                    · (intro w hSw; go_simp <;> with_reducible rfl)
                    simp only [Act.put, List.setIfInBounds_toArray, List.set_cons_zero, List.set_cons_succ]
                    refine wpAnyH_take (i := 18) (oi := { dst := some 27, op := Go.Op.build 81 #[(0, Go.Operand.tmp 23), (1, Go.Operand.tmp 26)], type := 81, pos := "ref.go:42", after := #[{ on := 14, ground := Go.Ground.data }, { on := 17, ground := Go.Ground.data }], guard := none }) (v := ?_) rfl (by kernel_rfl) (by kernel_rfl) (by kernel_rfl) (fun _ _ _ h => h) (Or.inl ⟨by rfl, ?_⟩) hHeld ?_
                    rotate_left
                    · (intro w hSw; go_simp <;> with_reducible rfl)
                    simp only [Act.put, List.setIfInBounds_toArray, List.set_cons_zero, List.set_cons_succ]
                    refine wpAnyH_take (i := 19) (oi := { dst := some 28, op := Go.Op.build 83 #[(0, Go.Operand.tmp 10), (1, Go.Operand.tmp 12), (2, Go.Operand.tmp 14), (3, Go.Operand.tmp 17), (4, Go.Operand.tmp 20), (5, Go.Operand.tmp 27)], type := 83, pos := "ref.go:42", after := #[{ on := 1, ground := Go.Ground.data }, { on := 3, ground := Go.Ground.data }, { on := 5, ground := Go.Ground.data }, { on := 8, ground := Go.Ground.data }, { on := 11, ground := Go.Ground.data }, { on := 18, ground := Go.Ground.data }], guard := none }) (v := ?_) rfl (by kernel_rfl) (by kernel_rfl) (by kernel_rfl) (fun _ _ _ h => h) (Or.inl ⟨by rfl, ?_⟩) hHeld ?_
                    rotate_left
                    · (intro w hSw; go_simp <;> with_reducible rfl)
                    simp only [Act.put, List.setIfInBounds_toArray, List.set_cons_zero, List.set_cons_succ]
                    refine wpAnyH_ready (rs := [21]) (by kernel_rfl) (by simp) (AllReadyH.cons (o := { dst := none, op := Go.Op.store 83 (Go.Operand.tmp 4) (Go.Operand.tmp 28), type := 0, pos := "ref.go:42", after := #[{ on := 20, ground := Go.Ground.data }, { on := 19, ground := Go.Ground.data }, { on := 16, ground := Go.Ground.chain }, { on := 0, ground := Go.Ground.phase }, { on := 1, ground := Go.Ground.phase }, { on := 2, ground := Go.Ground.phase }, { on := 3, ground := Go.Ground.phase }, { on := 4, ground := Go.Ground.phase }, { on := 5, ground := Go.Ground.phase }, { on := 6, ground := Go.Ground.phase }, { on := 7, ground := Go.Ground.phase }, { on := 8, ground := Go.Ground.phase }, { on := 9, ground := Go.Ground.phase }, { on := 10, ground := Go.Ground.phase }, { on := 11, ground := Go.Ground.phase }, { on := 12, ground := Go.Ground.phase }, { on := 13, ground := Go.Ground.phase }, { on := 14, ground := Go.Ground.phase }, { on := 15, ground := Go.Ground.phase }, { on := 16, ground := Go.Ground.phase }, { on := 17, ground := Go.Ground.phase }, { on := 18, ground := Go.Ground.phase }, { on := 19, ground := Go.Ground.phase }, { on := 20, ground := Go.Ground.phase }], guard := none }) rfl (fun K hK => ?_) AllReadyH.nil)
                    · refine step_store_sg rfl (.tmp 4) (.tmp 28) rfl Z1.out ⟨n0, n1, n2, n3, n4, n5, n6⟩ (by rfl) (by simp only [← HQ1.out]; rfl) ?_
                      intro v2 hP hKq
                      have Z2 := Lib.hid hP
                      have K2 := Lib.hid hKq
                      clear hP hKq
                      refine hK.out _ _ ?_ (fun hHeld => ?_)
                      · exact trivial
                      clear hK K
                      (try simp only [Act.put, List.setIfInBounds_toArray, List.set_cons_zero, List.set_cons_succ])
                      refine wpAnyH_done (by kernel_rfl) ?_ _
                      go_wp2_with fail
                      go_meet
                      exact ⟨X, rfl, hX0, Z2, Lib.hid (HB1.out.kept K2.out (by omega)), Lib.hid (OthersKept.below B1.out K2.out (fun k hk e => by omega))⟩
        · go_simp
          have Z1 : Hid (SgBox (v0.alloc (.cells #[.int .u64 0, .int .u8 0, .int .u64 0, .int .u32 0, .int .u32 0, .int .u32 0, .int .u16 0] 83)) v0.heap.size Sg.zero) := heap_alloc_new v0 _
          have B1 := Lib.hid (B0.out.alloc B0.out.size (.cells #[.int .u64 0, .int .u8 0, .int .u64 0, .int .u32 0, .int .u32 0, .int .u32 0, .int .u16 0] 83))
          have HB1 := Lib.hid (HB.out.keep (.cells #[.int .u64 0, .int .u8 0, .int .u64 0, .int .u32 0, .int .u32 0, .int .u32 0, .int .u16 0] 83))
          have hX0 : w.heap.size < v0.heap.size := HB.out.lt
          obtain ⟨X, hX⟩ : ∃ X, X = v0.heap.size := ⟨_, rfl⟩
          rw [← hX] at Z1 hX0 ⊢
          generalize v0.alloc (.cells #[.int .u64 0, .int .u8 0, .int .u64 0, .int .u32 0, .int .u32 0, .int .u32 0, .int .u16 0] 83) = v1 at *
          clear hX B0 HB
          refine hK.out _ _ ?_ (fun hHeld => ?_)
          · exact trivial
          clear hK K
          (try simp only [Act.put, List.setIfInBounds_toArray, List.set_cons_zero, List.set_cons_succ])
          refine wpAnyH_ready (rs := [5]) (by kernel_rfl) (by simp) (AllReadyH.cons (o := { dst := some 14, op := Go.Op.call { callee := Go.Callee.value (Go.Operand.func 122), args := #[Go.Operand.tmp 13, Go.Operand.const (Go.Value.int Go.IntKind.i64 9), Go.Operand.const (Go.Value.int Go.IntKind.i64 8)], argTypes := #[9, 3, 3] }, type := 23, pos := "ref.go:42", after := #[{ on := 4, ground := Go.Ground.data }, { on := 1, ground := Go.Ground.chain }], guard := none }) rfl (fun K hK => ?_) AllReadyH.nil)
          · go_simp
            refine (C2.out _).mono ?_
            rintro e vv ⟨rfl, rfl⟩
            refine hK.out _ _ ?_ (fun hHeld => ?_)
            · exact trivial
            clear hK K
            (try simp only [Act.put, List.setIfInBounds_toArray, List.set_cons_zero, List.set_cons_succ])
            refine wpAnyH_ready (rs := [7]) (by kernel_rfl) (by simp) (AllReadyH.cons (o := { dst := some 16, op := Go.Op.call { callee := Go.Callee.value (Go.Operand.func 122), args := #[Go.Operand.tmp 15, Go.Operand.const (Go.Value.int Go.IntKind.i64 17), Go.Operand.const (Go.Value.int Go.IntKind.i64 4)], argTypes := #[9, 3, 3] }, type := 23, pos := "ref.go:42", after := #[{ on := 6, ground := Go.Ground.data }, { on := 5, ground := Go.Ground.chain }], guard := none }) rfl (fun K hK => ?_) AllReadyH.nil)
            · go_simp
              refine (C3.out _).mono ?_
              rintro e vv ⟨rfl, rfl⟩
              refine hK.out _ _ ?_ (fun hHeld => ?_)
              · exact trivial
              clear hK K
              (try simp only [Act.put, List.setIfInBounds_toArray, List.set_cons_zero, List.set_cons_succ])
              refine wpAnyH_take (i := 8) (oi := { dst := some 17, op := Go.Op.convert 23 22 (Go.Operand.tmp 16), type := 22, pos := "ref.go:42", after := #[{ on := 7, ground := Go.Ground.data }], guard := none }) (v := ?_) rfl (by kernel_rfl) (by kernel_rfl) (by kernel_rfl) (fun _ _ _ h => h) (Or.inl ⟨by rfl, ?_⟩) hHeld ?_
              rotate_left
              · (intro w hSw; go_simp <;> with_reducible rfl)
              simp only [Act.put, List.setIfInBounds_toArray, List.set_cons_zero, List.set_cons_succ]
              refine wpAnyH_ready (rs := [10]) (by kernel_rfl) (by simp) (AllReadyH.cons (o := { dst := some 19, op := Go.Op.call { callee := Go.Callee.value (Go.Operand.func 122), args := #[Go.Operand.tmp 18, Go.Operand.const (Go.Value.int Go.IntKind.i64 21), Go.Operand.const (Go.Value.int Go.IntKind.i64 4)], argTypes := #[9, 3, 3] }, type := 23, pos := "ref.go:42", after := #[{ on := 9, ground := Go.Ground.data }, { on := 7, ground := Go.Ground.chain }], guard := none }) rfl (fun K hK => ?_) AllReadyH.nil)
              · go_simp
                refine (C4.out _).mono ?_
                rintro e vv ⟨rfl, rfl⟩
                refine hK.out _ _ ?_ (fun hHeld => ?_)
                · exact trivial
                clear hK K
                (try simp only [Act.put, List.setIfInBounds_toArray, List.set_cons_zero, List.set_cons_succ])
                refine wpAnyH_take (i := 11) (oi := { dst := some 20, op := Go.Op.convert 23 22 (Go.Operand.tmp 19), type := 22, pos := "ref.go:42", after := #[{ on := 10, ground := Go.Ground.data }], guard := none }) (v := ?_) rfl (by kernel_rfl) (by kernel_rfl) (by kernel_rfl) (fun _ _ _ h => h) (Or.inl ⟨by rfl, ?_⟩) hHeld ?_
                rotate_left
                · (intro w hSw; go_simp <;> with_reducible rfl)
                simp only [Act.put, List.setIfInBounds_toArray, List.set_cons_zero, List.set_cons_succ]
                refine wpAnyH_ready (rs := [13]) (by kernel_rfl) (by simp) (AllReadyH.cons (o := { dst := some 22, op := Go.Op.call { callee := Go.Callee.value (Go.Operand.func 122), args := #[Go.Operand.tmp 21, Go.Operand.const (Go.Value.int Go.IntKind.i64 25), Go.Operand.const (Go.Value.int Go.IntKind.i64 4)], argTypes := #[9, 3, 3] }, type := 23, pos := "ref.go:42", after := #[{ on := 12, ground := Go.Ground.data }, { on := 10, ground := Go.Ground.chain }], guard := none }) rfl (fun K hK => ?_) AllReadyH.nil)
                · go_simp
                  refine (C5.out _).mono ?_
                  rintro e vv ⟨rfl, rfl⟩
                  refine hK.out _ _ ?_ (fun hHeld => ?_)
                  · exact trivial
                  clear hK K
                  (try simp only [Act.put, List.setIfInBounds_toArray, List.set_cons_zero, List.set_cons_succ])
                  refine wpAnyH_take (i := 14) (oi := { dst := some 23, op := Go.Op.convert 23 22 (Go.Operand.tmp 22), type := 22, pos := "ref.go:42", after := #[{ on := 13, ground := Go.Ground.data }], guard := none }) (v := ?_) rfl (by kernel_rfl) (by kernel_rfl) (by kernel_rfl) (fun _ _ _ h => h) (Or.inl ⟨by rfl, ?_⟩) hHeld ?_
                  rotate_left
                  · (intro w hSw; go_simp <;> with_reducible rfl)
                  simp only [Act.put, List.setIfInBounds_toArray, List.set_cons_zero, List.set_cons_succ]
                  refine wpAnyH_ready (rs := [16]) (by kernel_rfl) (by simp) (AllReadyH.cons (o := { dst := some 25, op := Go.Op.call { callee := Go.Callee.value (Go.Operand.func 122), args := #[Go.Operand.tmp 24, Go.Operand.const (Go.Value.int Go.IntKind.i64 29), Go.Operand.const (Go.Value.int Go.IntKind.i64 2)], argTypes := #[9, 3, 3] }, type := 23, pos := "ref.go:42", after := #[{ on := 15, ground := Go.Ground.data }, { on := 13, ground := Go.Ground.chain }], guard := none }) rfl (fun K hK => ?_) AllReadyH.nil)
                  · go_simp
                    refine (C6.out _).mono ?_
                    rintro e vv ⟨rfl, rfl⟩
                    refine hK.out _ _ ?_ (fun hHeld => ?_)
                    · exact trivial
                    clear hK K
                    (try simp only [Act.put, List.setIfInBounds_toArray, List.set_cons_zero, List.set_cons_succ])
                    refine wpAnyH_take (i := 17) (oi := { dst := some 26, op := Go.Op.convert 23 44 (Go.Operand.tmp 25), type := 44, pos := "ref.go:42", after := #[{ on := 16, ground := Go.Ground.data }], guard := none }) (v := ?_) rfl (by kernel_rfl) (by kernel_rfl) (by kernel_rfl) (fun _ _ _ h => h) (Or.inl ⟨by rfl, ?_⟩) hHeld ?_
                    rotate_left
                    · (intro w hSw; go_simp <;> with_reducible rfl)
                    simp only [Act.put, List.setIfInBounds_toArray, List.set_cons_zero, List.set_cons_succ]
                    refine wpAnyH_take (i := 18) (oi := { dst := some 27, op := Go.Op.build 81 #[(0, Go.Operand.tmp 23), (1, Go.Operand.tmp 26)], type := 81, pos := "ref.go:42", after := #[{ on := 14, ground := Go.Ground.data }, { on := 17, ground := Go.Ground.data }], guard := none }) (v := ?_) rfl (by kernel_rfl) (by kernel_rfl) (by kernel_rfl) (fun _ _ _ h => h) (Or.inl ⟨by rfl, ?_⟩) hHeld ?_
                    rotate_left
                    · (intro w hSw; go_simp <;> with_reducible rfl)
                    simp only [Act.put, List.setIfInBounds_toArray, List.set_cons_zero, List.set_cons_succ]
                    refine wpAnyH_take (i := 19) (oi := { dst := some 28, op := Go.Op.build 83 #[(0, Go.Operand.tmp 10), (1, Go.Operand.tmp 12), (2, Go.Operand.tmp 14), (3, Go.Operand.tmp 17), (4, Go.Operand.tmp 20), (5, Go.Operand.tmp 27)], type := 83, pos := "ref.go:42", after := #[{ on := 1, ground := Go.Ground.data }, { on := 3, ground := Go.Ground.data }, { on := 5, ground := Go.Ground.data }, { on := 8, ground := Go.Ground.data }, { on := 11, ground := Go.Ground.data }, { on := 18, ground := Go.Ground.data }], guard := none }) (v := ?_) rfl (by kernel_rfl) (by kernel_rfl) (by kernel_rfl) (fun _ _ _ h => h) (Or.inl ⟨by rfl, ?_⟩) hHeld ?_
                    rotate_left
                    · (intro w hSw; go_simp <;> with_reducible rfl)
                    simp only [Act.put, List.setIfInBounds_toArray, List.set_cons_zero, List.set_cons_succ]
                    refine wpAnyH_ready (rs := [21]) (by kernel_rfl) (by simp) (AllReadyH.cons (o := { dst := none, op := Go.Op.store 83 (Go.Operand.tmp 4) (Go.Operand.tmp 28), type := 0, pos := "ref.go:42", after := #[{ on := 20, ground := Go.Ground.data }, { on := 19, ground := Go.Ground.data }, { on := 16, ground := Go.Ground.chain }, { on := 0, ground := Go.Ground.phase }, { on := 1, ground := Go.Ground.phase }, { on := 2, ground := Go.Ground.phase }, { on := 3, ground := Go.Ground.phase }, { on := 4, ground := Go.Ground.phase }, { on := 5, ground := Go.Ground.phase }, { on := 6, ground := Go.Ground.phase }, { on := 7, ground := Go.Ground.phase }, { on := 8, ground := Go.Ground.phase }, { on := 9, ground := Go.Ground.phase }, { on := 10, ground := Go.Ground.phase }, { on := 11, ground := Go.Ground.phase }, { on := 12, ground := Go.Ground.phase }, { on := 13, ground := Go.Ground.phase }, { on := 14, ground := Go.Ground.phase }, { on := 15, ground := Go.Ground.phase }, { on := 16, ground := Go.Ground.phase }, { on := 17, ground := Go.Ground.phase }, { on := 18, ground := Go.Ground.phase }, { on := 19, ground := Go.Ground.phase }, { on := 20, ground := Go.Ground.phase }], guard := none }) rfl (fun K hK => ?_) AllReadyH.nil)
                    · refine step_store_sg rfl (.tmp 4) (.tmp 28) rfl Z1.out ⟨n0, n1, n2, n3, n4, n5, n6⟩ (by rfl) (by simp only [← HQ1.out]; rfl) ?_
                      intro v2 hP hKq
                      have Z2 := Lib.hid hP
                      have K2 := Lib.hid hKq
                      clear hP hKq
                      refine hK.out _ _ ?_ (fun hHeld => ?_)
                      · exact trivial
                      clear hK K
                      (try simp only [Act.put, List.setIfInBounds_toArray, List.set_cons_zero, List.set_cons_succ])
                      refine wpAnyH_done (by kernel_rfl) ?_ _
                      go_wp2_with fail
                      go_meet
                      exact ⟨X, rfl, hX0, Z2, Lib.hid (HB1.out.kept K2.out (by omega)), Lib.hid (OthersKept.below B1.out K2.out (fun k hk e => by omega))⟩
      · go_simp
        have Z1 : Hid (SgBox (v0.alloc (.cells #[.int .u64 0, .int .u8 0, .int .u64 0, .int .u32 0, .int .u32 0, .int .u32 0, .int .u16 0] 83)) v0.heap.size Sg.zero) := heap_alloc_new v0 _
        have B1 := Lib.hid (B0.out.alloc B0.out.size (.cells #[.int .u64 0, .int .u8 0, .int .u64 0, .int .u32 0, .int .u32 0, .int .u32 0, .int .u16 0] 83))
        have HB1 := Lib.hid (HB.out.keep (.cells #[.int .u64 0, .int .u8 0, .int .u64 0, .int .u32 0, .int .u32 0, .int .u32 0, .int .u16 0] 83))
        have hX0 : w.heap.size < v0.heap.size := HB.out.lt
        obtain ⟨X, hX⟩ : ∃ X, X = v0.heap.size := ⟨_, rfl⟩
        rw [← hX] at Z1 hX0 ⊢
        generalize v0.alloc (.cells #[.int .u64 0, .int .u8 0, .int .u64 0, .int .u32 0, .int .u32 0, .int .u32 0, .int .u16 0] 83) = v1 at *
        clear hX B0 HB
        refine hK.out _ _ ?_ (fun hHeld => ?_)
        · exact trivial
        clear hK K
        (try simp only [Act.put, List.setIfInBounds_toArray, List.set_cons_zero, List.set_cons_succ])
        refine wpAnyH_ready (rs := [1]) (by kernel_rfl) (by simp) (AllReadyH.cons (o := { dst := some 10, op := Go.Op.call { callee := Go.Callee.value (Go.Operand.func 122), args := #[Go.Operand.tmp 9, Go.Operand.const (Go.Value.int Go.IntKind.i64 0), Go.Operand.const (Go.Value.int Go.IntKind.i64 8)], argTypes := #[9, 3, 3] }, type := 23, pos := "ref.go:42", after := #[{ on := 0, ground := Go.Ground.data }], guard := none }) rfl (fun K hK => ?_) AllReadyH.nil)
        · go_simp
          refine (C0.out _).mono ?_
          rintro e vv ⟨rfl, rfl⟩
          refine hK.out _ _ ?_ (fun hHeld => ?_)
          · exact trivial
          clear hK K
          (try simp only [Act.put, List.setIfInBounds_toArray, List.set_cons_zero, List.set_cons_succ])
          refine wpAnyH_ready (rs := [5]) (by kernel_rfl) (by simp) (AllReadyH.cons (o := { dst := some 14, op := Go.Op.call { callee := Go.Callee.value (Go.Operand.func 122), args := #[Go.Operand.tmp 13, Go.Operand.const (Go.Value.int Go.IntKind.i64 9), Go.Operand.const (Go.Value.int Go.IntKind.i64 8)], argTypes := #[9, 3, 3] }, type := 23, pos := "ref.go:42", after := #[{ on := 4, ground := Go.Ground.data }, { on := 1, ground := Go.Ground.chain }], guard := none }) rfl (fun K hK => ?_) AllReadyH.nil)
          · go_simp
            refine (C2.out _).mono ?_
            rintro e vv ⟨rfl, rfl⟩
            refine hK.out _ _ ?_ (fun hHeld => ?_)
            · exact trivial
            clear hK K
            (try simp only [Act.put, List.setIfInBounds_toArray, List.set_cons_zero, List.set_cons_succ])
            refine wpAnyH_ready (rs := [7]) (by kernel_rfl) (by simp) (AllReadyH.cons (o := { dst := some 16, op := Go.Op.call { callee := Go.Callee.value (Go.Operand.func 122), args := #[Go.Operand.tmp 15, Go.Operand.const (Go.Value.int Go.IntKind.i64 17), Go.Operand.const (Go.Value.int Go.IntKind.i64 4)], argTypes := #[9, 3, 3] }, type := 23, pos := "ref.go:42", after := #[{ on := 6, ground := Go.Ground.data }, { on := 5, ground := Go.Ground.chain }], guard := none }) rfl (fun K hK => ?_) AllReadyH.nil)
            · go_simp
              refine (C3.out _).mono ?_
              rintro e vv ⟨rfl, rfl⟩
              refine hK.out _ _ ?_ (fun hHeld => ?_)
              · exact trivial
              clear hK K
              (try simp only [Act.put, List.setIfInBounds_toArray, List.set_cons_zero, List.set_cons_succ])
              refine wpAnyH_take (i := 8) (oi := { dst := some 17, op := Go.Op.convert 23 22 (Go.Operand.tmp 16), type := 22, pos := "ref.go:42", after := #[{ on := 7, ground := Go.Ground.data }], guard := none }) (v := ?_) rfl (by kernel_rfl) (by kernel_rfl) (by kernel_rfl) (fun _ _ _ h => h) (Or.inl ⟨by rfl, ?_⟩) hHeld ?_
              rotate_left
              · (intro w hSw; go_simp <;> with_reducible rfl)
              simp only [Act.put, List.setIfInBounds_toArray, List.set_cons_zero, List.set_cons_succ]
              refine wpAnyH_ready (rs := [10]) (by kernel_rfl) (by simp) (AllReadyH.cons (o := { dst := some 19, op := Go.Op.call { callee := Go.Callee.value (Go.Operand.func 122), args := #[Go.Operand.tmp 18, Go.Operand.const (Go.Value.int Go.IntKind.i64 21), Go.Operand.const (Go.Value.int Go.IntKind.i64 4)], argTypes := #[9, 3, 3] }, type := 23, pos := "ref.go:42", after := #[{ on := 9, ground := Go.Ground.data }, { on := 7, ground := Go.Ground.chain }], guard := none }) rfl (fun K hK => ?_) AllReadyH.nil)
              · go_simp
                refine (C4.out _).mono ?_
                rintro e vv ⟨rfl, rfl⟩
                refine hK.out _ _ ?_ (fun hHeld => ?_)
                · exact trivial
                clear hK K
                (try simp only [Act.put, List.setIfInBounds_toArray, List.set_cons_zero, List.set_cons_succ])
                refine wpAnyH_take (i := 11) (oi := { dst := some 20, op := Go.Op.convert 23 22 (Go.Operand.tmp 19), type := 22, pos := "ref.go:42", after := #[{ on := 10, ground := Go.Ground.data }], guard := none }) (v := ?_) rfl (by kernel_rfl) (by kernel_rfl) (by kernel_rfl) (fun _ _ _ h => h) (Or.inl ⟨by rfl, ?_⟩) hHeld ?_
                rotate_left
                · (intro w hSw; go_simp <;> with_reducible rfl)
                simp only [Act.put, List.setIfInBounds_toArray, List.set_cons_zero, List.set_cons_succ]
                refine wpAnyH_ready (rs := [13]) (by kernel_rfl) (by simp) (AllReadyH.cons (o := { dst := some 22, op := Go.Op.call { callee := Go.Callee.value (Go.Operand.func 122), args := #[Go.Operand.tmp 21, Go.Operand.const (Go.Value.int Go.IntKind.i64 25), Go.Operand.const (Go.Value.int Go.IntKind.i64 4)], argTypes := #[9, 3, 3] }, type := 23, pos := "ref.go:42", after := #[{ on := 12, ground := Go.Ground.data }, { on := 10, ground := Go.Ground.chain }], guard := none }) rfl (fun K hK => ?_) AllReadyH.nil)
                · go_simp
                  refine (C5.out _).mono ?_
                  rintro e vv ⟨rfl, rfl⟩
                  refine hK.out _ _ ?_ (fun hHeld => ?_)
                  · exact trivial
                  clear hK K
                  (try simp only [Act.put, List.setIfInBounds_toArray, List.set_cons_zero, List.set_cons_succ])
                  refine wpAnyH_take (i := 14) (oi := { dst := some 23, op := Go.Op.convert 23 22 (Go.Operand.tmp 22), type := 22, pos := "ref.go:42", after := #[{ on := 13, ground := Go.Ground.data }], guard := none }) (v := ?_) rfl (by kernel_rfl) (by kernel_rfl) (by kernel_rfl) (fun _ _ _ h => h) (Or.inl ⟨by rfl, ?_⟩) hHeld ?_
                  rotate_left
                  · (intro w hSw; go_simp <;> with_reducible rfl)
                  simp only [Act.put, List.setIfInBounds_toArray, List.set_cons_zero, List.set_cons_succ]
                  refine wpAnyH_ready (rs := [16]) (by kernel_rfl) (by simp) (AllReadyH.cons (o := { dst := some 25, op := Go.Op.call { callee := Go.Callee.value (Go.Operand.func 122), args := #[Go.Operand.tmp 24, Go.Operand.const (Go.Value.int Go.IntKind.i64 29), Go.Operand.const (Go.Value.int Go.IntKind.i64 2)], argTypes := #[9, 3, 3] }, type := 23, pos := "ref.go:42", after := #[{ on := 15, ground := Go.Ground.data }, { on := 13, ground := Go.Ground.chain }], guard := none }) rfl (fun K hK => ?_) AllReadyH.nil)
                  · go_simp
                    refine (C6.out _).mono ?_
                    rintro e vv ⟨rfl, rfl⟩
                    refine hK.out _ _ ?_ (fun hHeld => ?_)
                    · exact trivial
                    clear hK K
                    (try simp only [Act.put, List.setIfInBounds_toArray, List.set_cons_zero, List.set_cons_succ])
                    refine wpAnyH_take (i := 17) (oi := { dst := some 26, op := Go.Op.convert 23 44 (Go.Operand.tmp 25), type := 44, pos := "ref.go:42", after := #[{ on := 16, ground := Go.Ground.data }], guard := none }) (v := ?_) rfl (by kernel_rfl) (by kernel_rfl) (by kernel_rfl) (fun _ _ _ h => h) (Or.inl ⟨by rfl, ?_⟩) hHeld ?_
                    rotate_left
                    · (intro w hSw; go_simp <;> with_reducible rfl)
                    simp only [Act.put, List.setIfInBounds_toArray, List.set_cons_zero, List.set_cons_succ]
                    refine wpAnyH_take (i := 18) (oi := { dst := some 27, op := Go.Op.build 81 #[(0, Go.Operand.tmp 23), (1, Go.Operand.tmp 26)], type := 81, pos := "ref.go:42", after := #[{ on := 14, ground := Go.Ground.data }, { on := 17, ground := Go.Ground.data }], guard := none }) (v := ?_) rfl (by kernel_rfl) (by kernel_rfl) (by kernel_rfl) (fun _ _ _ h => h) (Or.inl ⟨by rfl, ?_⟩) hHeld ?_
                    rotate_left
                    · (intro w hSw; go_simp <;> with_reducible rfl)
                    simp only [Act.put, List.setIfInBounds_toArray, List.set_cons_zero, List.set_cons_succ]
                    refine wpAnyH_take (i := 19) (oi := { dst := some 28, op := Go.Op.build 83 #[(0, Go.Operand.tmp 10), (1, Go.Operand.tmp 12), (2, Go.Operand.tmp 14), (3, Go.Operand.tmp 17), (4, Go.Operand.tmp 20), (5, Go.Operand.tmp 27)], type := 83, pos := "ref.go:42", after := #[{ on := 1, ground := Go.Ground.data }, { on := 3, ground := Go.Ground.data }, { on := 5, ground := Go.Ground.data }, { on := 8, ground := Go.Ground.data }, { on := 11, ground := Go.Ground.data }, { on := 18, ground := Go.Ground.data }], guard := none }) (v := ?_) rfl (by kernel_rfl) (by kernel_rfl) (by kernel_rfl) (fun _ _ _ h => h) (Or.inl ⟨by rfl, ?_⟩) hHeld ?_
                    rotate_left
                    · (intro w hSw; go_simp <;> with_reducible rfl)
                    simp only [Act.put, List.setIfInBounds_toArray, List.set_cons_zero, List.set_cons_succ]
                    refine wpAnyH_ready (rs := [21]) (by kernel_rfl) (by simp) (AllReadyH.cons (o := { dst := none, op := Go.Op.store 83 (Go.Operand.tmp 4) (Go.Operand.tmp 28), type := 0, pos := "ref.go:42", after := #[{ on := 20, ground := Go.Ground.data }, { on := 19, ground := Go.Ground.data }, { on := 16, ground := Go.Ground.chain }, { on := 0, ground := Go.Ground.phase }, { on := 1, ground := Go.Ground.phase }, { on := 2, ground := Go.Ground.phase }, { on := 3, ground := Go.Ground.phase }, { on := 4, ground := Go.Ground.phase }, { on := 5, ground := Go.Ground.phase }, { on := 6, ground := Go.Ground.phase }, { on := 7, ground := Go.Ground.phase }, { on := 8, ground := Go.Ground.phase }, { on := 9, ground := Go.Ground.phase }, { on := 10, ground := Go.Ground.phase }, { on := 11, ground := Go.Ground.phase }, { on := 12, ground := Go.Ground.phase }, { on := 13, ground := Go.Ground.phase }, { on := 14, ground := Go.Ground.phase }, { on := 15, ground := Go.Ground.phase }, { on := 16, ground := Go.Ground.phase }, { on := 17, ground := Go.Ground.phase }, { on := 18, ground := Go.Ground.phase }, { on := 19, ground := Go.Ground.phase }, { on := 20, ground := Go.Ground.phase }], guard := none }) rfl (fun K hK => ?_) AllReadyH.nil)
                    · refine step_store_sg rfl (.tmp 4) (.tmp 28) rfl Z1.out ⟨n0, n1, n2, n3, n4, n5, n6⟩ (by rfl) (by simp only [← HQ1.out]; rfl) ?_
                      intro v2 hP hKq
                      have Z2 := Lib.hid hP
                      have K2 := Lib.hid hKq
                      clear hP hKq
                      refine hK.out _ _ ?_ (fun hHeld => ?_)
                      · exact trivial
                      clear hK K
                      (try simp only [Act.put, List.setIfInBounds_toArray, List.set_cons_zero, List.set_cons_succ])
                      refine wpAnyH_done (by kernel_rfl) ?_ _
                      go_wp2_with fail
                      go_meet
                      exact ⟨X, rfl, hX0, Z2, Lib.hid (HB1.out.kept K2.out (by omega)), Lib.hid (OthersKept.below B1.out K2.out (fun k hk e => by omega))⟩
    case rest =>
      obtain ⟨X, rfl, hXs, XA, HBc, Bc⟩ := hcut
      clear C0 C2 C3 C4 C5 C6 HB B0
      obtain ⟨xl, x0, x1, x2, x3, x4, x5, x6⟩ := XA.out.cells
      simp only at x0 x1 x2 x3 x4 x5 x6
      have MM := Lib.hid fun W => M.out ⟨n0, n1, n2, n3, n4, n5, n6⟩ W
      unfold sgV at MM
      simp only at MM
      obtain ⟨b, hb0⟩ : ∃ b, b = Sg.may ⟨n0, n1, n2, n3, n4, n5, n6⟩ := ⟨_, rfl⟩
      rw [← hb0] at MM
      have HB0 := Lib.hid hb0
      clear hb0 M
      go_wp2_with fail
      refine (MM.out _).mono ?_
      rintro e wB ⟨rfl, hb⟩
      have BB := Lib.hid (Bc.out.trans (hb.mono Bc.out.size))
      have HBB := Lib.hid (HBc.out.below hb)
      have XB := Lib.hid (XA.out.below hb)
      clear hb Bc HBc XA x0 x1 x2 x3 x4 x5 x6 xl MM
      obtain ⟨xl, x0, x1, x2, x3, x4, x5, x6⟩ := XB.out.cells
      simp only at x0 x1 x2 x3 x4 x5 x6
      cases b with
      | false =>
        go_wp2_with (refine wpList_store_sg rfl (.tmp 2) (.tmp 32) rfl HBB.out Sg.zero (by rfl) (by rfl) ?_; intro wS hP hK; have PF := Lib.hid hP; have KF := Lib.hid hK; clear hP hK)
        refine bodyPost_ret (results_sg rfl _ _ rfl PF.out) rfl ⟨?_, OthersKept.below BB.out KF.out (fun k hk e => by omega)⟩
        exact congrArg Ending.returned (by rw [HV.out, HDM.out, ← HB0.out]; rfl)
      | true =>
        go_wp2_with (refine wpList_store_sg rfl (.tmp 2) (.tmp 33) rfl HBB.out ⟨n0, n1, n2, n3, n4, n5, n6⟩ (by rfl) (by rfl) ?_; intro wS hP hK; have PF := Lib.hid hP; have KF := Lib.hid hK; clear hP hK)
        refine bodyPost_ret (results_sg rfl _ _ rfl PF.out) rfl ⟨?_, OthersKept.below BB.out KF.out (fun k hk e => by omega)⟩
        exact congrArg Ending.returned (by rw [HV.out, HDM.out, ← HB0.out]; rfl)
end Go.Proofs.Ytienlhnbmobinaa
end
