/- page.Decode by pgDec -/
import Derived.Test.YtienlhnbmobinaaRows
import Derived.Test.YtienlhnbmobinaaPageEncode
import Derived.Test.YtienlhnbmobinaaPageAll
import Derived.Test.YtienlhnbmobinaaPageHead
import Derived.Test.YtienlhnbmobinaaPageNum
import Derived.Test.YtienlhnbmobinaaPagePlain
import Derived.Test.YtienlhnbmobinaaSum
import Derived.Test.YtienlhnbmobinaaSlotAlive
import Derived.Test.YtienlhnbmobinaaSlotLoad
import Derived.Test.YtienlhnbmobinaaSlotPut
import Derived.Test.YtienlhnbmobinaaSlotRoot
import Derived.Test.YtienlhnbmobinaaPgStore
import Derived.Test.YtienlhnbmobinaaOpWord
import Derived.Test.YtienlhnbmobinaaBase
import Derived.Test.YtienlhnbmobinaaPlains
import Derived.Test.YtienlhnbmobinaaTextsP
import Derived.Test.YtienlhnbmobinaaTextsMove
import Derived.Test.YtienlhnbmobinaaTextsBack
import Derived.Test.YtienlhnbmobinaaWordWalks
import Derived.Deep.CutBlock
import Derived.WalkKit
import Derived.WalkLawsBesides
import Derived.WalkSpells
import Derived.LoopTactic
import Derived.WalkMore
import Derived.LoopN
import Derived.Laws.BitsAllLaws
import Derived.Laws.IdiomStrings
import Derived.BigQuiet
import Derived.Deep.QuietTactic
import Derived.Deep.DeepCutAuto
import Derived.Deep.RegionHeld3
import Derived.Deep.DrawnRows
import Derived.Lib.Hide
import Derived.Outline
import Derived.Deep.DeepMust
import Derived.Handy
namespace Go.Proofs.Ytienlhnbmobinaa
open Go.RowKit
set_option linter.unusedVariables false
set_option linter.unusedSimpArgs false

theorem rdNum_take (l : List UInt8) (i k m : Nat) (h : i + k ≤ m) (hm : m ≤ l.length) : rdNum (l.take m) i k = rdNum l i k := by
  unfold rdNum
  rw [if_pos (by rw [List.length_take]; omega), if_pos (by omega), List.drop_take, List.take_take, Nat.min_eq_left (by omega)]
theorem body_take (l : List UInt8) (h : l.length = 512) : rdText (l.take 508) 20 488 = bodyB l := by
  unfold rdText bodyB
  rw [if_pos (by rw [List.length_take]; omega), List.drop_take, List.take_take, Nat.min_eq_left (by omega)]
theorem bodyB_length {l : List UInt8} (h : l.length = 512) : (bodyB l).length = 488 := by
  unfold bodyB; rw [List.length_take, List.length_drop]; omega
/-- How heavy an area's texts are. -/
theorem good_weight {a : Ar} (h : a.Good) : weightB a.texts ≤ a.B.length := by
  rw [sum_weight]
  have h1 := h.texts_fit
  have h2 : a.texts.length = a.L.length := by unfold Ar.texts; simp
  unfold Ar.fin at h1
  omega
theorem HdAt.put5 {w : World} {g kind level id lsn next at_ : Nat} {sv : Value} {s : List UInt8} {rd bad : Bool} (h : HdAt w g kind level id lsn next sv s at_ rd bad) (sv' : Value) : HdAt (w.setCell ⟨g, 5, none⟩ sv') g kind level id lsn next sv' s at_ rd bad := by
  unfold HdAt at *
  have h2 := blk_set h 5 sv'
  simpa using h2
theorem ArAt.kept {w w' : World} {gA gB cap : Nat} {a : Ar} {q : Nat → Prop} (h : ArAt w gA gB cap a) (hk : OthersKept w w' q) (h1 : ¬ q gA) (h2 : ¬ q gB) : ArAt w' gA gB cap a :=
  ⟨⟨hk.heap h.area.own h1, h.area.row.of_eq (hk.block _ h.area.row.lt h2), h.area.ne⟩, h.room⟩
theorem texts_page6 {w w' : World} {g kind level id lsn next : Nat} {s v : Value} {ts : List (List UInt8)} (h : PgBox w g kind level id lsn next s) (ht : TextsAt w v ts) (hk : OthersKept w w' (fun x => x = g)) (hs : True → ∀ x : ByteArray, s ≠ .string x) : TextsAt w' v ts := by
  obtain ⟨A, cp, h1, h2, h3, h4, h5⟩ := ht
  refine ⟨A, cp, h1, h2, h3, h4, fun h0 => ?_⟩
  obtain ⟨b, o, e1, e2, e3⟩ := h5 h0
  refine ⟨b, o, e1, Nat.lt_of_lt_of_le e2 hk.size, fun j hj => ?_⟩
  have h6 := e3 j hj
  refine hk.cell h6 (fun e => ?_)
  simp only at e
  subst e
  have hc := blk_cell h (o + j)
  rw [h6] at hc
  have hlt : o + j < 6 := by
    rcases Nat.lt_or_ge (o + j) 6 with h | h
    · exact h
    · rw [Array.getElem?_eq_none (by simpa using h)] at hc
      cases hc
  have h7 : o + j = 0 ∨ o + j = 1 ∨ o + j = 2 ∨ o + j = 3 ∨ o + j = 4 ∨ o + j = 5 := by omega
  rcases h7 with h7 | h7 | h7 | h7 | h7 | h7 <;> rw [h7] at hc <;> simp at hc
  exact hs trivial _ hc.symm
theorem pgOf_wf (l : List UInt8) : (pgOf l).wf := ⟨rdN_lt l 0 1, rdN_lt l 1 1, rdN_lt l 2 4, rdN_lt l 6 8, rdN_lt l 14 4⟩
theorem grownK {w w' : World} {base n size : Nat} {e : TypeId} {v : Value} {xs : List Value} {p : Nat → Prop} (ho : w.ownsRow base e size v n xs) (hg : w.grownBy w' v.ownBlock) (hp : ∀ k, base ≤ k → p k) : OthersKept w w' p :=
  ⟨hg.os, hg.tape, hg.output, hg.size, fun k hk hn => hg.block k hk (fun e => hn (hp k (ho.lt k e.symm).1))⟩
set_option maxHeartbeats 8000000 in
set_option maxRecDepth 100000 in
theorem pageDecode_any (l : List UInt8) (w : World) (hl : l.length ≤ 100000) :
    Calls Try.prog 51 #[.string ⟨l.toArray⟩] w (PgPost w (pgDec l)) := by
  have hsz : (⟨l.toArray⟩ : ByteArray).size = l.length := rfl
  have OP := Lib.hid fun W => open_any l W (by omega)
  obtain ⟨R, hR⟩ : ∃ R, R = pgDec l := ⟨_, rfl⟩
  rw [← hR]
  have HR := Lib.hid hR
  obtain ⟨ok, hok⟩ : ∃ b, b = openOk l := ⟨_, rfl⟩
  rw [← hok] at OP
  have HOK := Lib.hid hok
  have Z0 : PgBox (w.alloc (.cells #[.int .u8 0, .int .u8 0, .int .u32 0, .int .u64 0, .int .u32 0, .slice none 0 0] 26)) w.heap.size 0 0 0 0 0 (.slice none 0 0) := PgBox.new w 0 0 0 0 0 (.slice none 0 0)
  have Z0 := Lib.hid Z0
  have B0 := Lib.hid (alloc_below w (.cells #[.int .u8 0, .int .u8 0, .int .u32 0, .int .u64 0, .int .u32 0, .slice none 0 0] 26))
  clear hR hok
  go_enter Try.func51, Try.ntmps51
  go_upto_region 1 with fail
  generalize w.alloc (.cells #[.int .u8 0, .int .u8 0, .int .u32 0, .int .u64 0, .int .u32 0, .slice none 0 0] 26) = w0 at *
  go_wp2_with fail
  refine (OP.out _).mono ?_
  rintro e w1 ⟨rfl, hb⟩
  have Z1 := Lib.hid (Z0.out.below hb)
  have B1 := Lib.hid (below_then B0.out hb)
  clear hb OP Z0 B0
  by_cases h1 : ok = true ∧ l.length = 512
  case neg =>
    have HX : Hid (R = (Pg.zero, 60)) := by
      show _ = _
      rw [HR.out]
      refine pgDec_no fun h => h1 ?_
      obtain ⟨h2, h3, _⟩ := dec_steps.1 h
      exact ⟨by rw [HOK.out]; unfold openOk; exact decide_eq_true h2, h3⟩
    obtain ⟨zl, z0, z1, z2, z3, z4, z5⟩ := Z1.out.cells
    obtain ⟨f0, f1, f2, f3, f4, f5⟩ := Z1.out.fr
    have XB := Lib.hid (Z1.out.put 0 0 0 0 0 (.slice none 0 0))
    have XK := Lib.hid (OthersKept.below B1.out (setPg_kept w1 w.heap.size 0 0 0 0 0 (.slice none 0 0)) (fun k hk e => by omega))
    generalize (if ok = true then List.take (l.length - 4) l else []) = t at *
    cases hk : ok with
    | false =>
      clear h1 HOK HR hk
      go_wp2_with fail
      refine bodyPost_ret (v := .tuple #[.agg #[.int .u8 (0 : Nat), .int .u8 (0 : Nat), .int .u32 (0 : Nat), .int .u64 (0 : Nat), .int .u32 (0 : Nat), .slice none 0 0], .int .i64 60]) (results_pg (p := 2) (u := 3) (by kernel_rfl) _ _ rfl XB.out) rfl ?_
      exact PgPost.no HX.out XK.out
    | true =>
      have hne : ((l.length : Int) != 512) = true := by simp; intro e; exact h1 ⟨hk, by omega⟩
      clear h1 HOK HR hk
      go_wp2_with fail
      refine bodyPost_ret (v := .tuple #[.agg #[.int .u8 (0 : Nat), .int .u8 (0 : Nat), .int .u32 (0 : Nat), .int .u64 (0 : Nat), .int .u32 (0 : Nat), .slice none 0 0], .int .i64 60]) (results_pg (p := 2) (u := 3) (by kernel_rfl) _ _ rfl XB.out) rfl ?_
      exact PgPost.no HX.out XK.out
  obtain ⟨hk, h512⟩ := h1
  have hni : ((l.length : Int) != 512) = false := by simp; omega
  subst hk
  simp only [if_true]
  obtain ⟨t, ht⟩ : ∃ t, t = l.take 508 := ⟨_, rfl⟩
  have ht2 : List.take (l.length - 4) l = t := by rw [ht, h512]
  rw [ht2]
  have htl : t.length = 508 := by rw [ht, List.length_take]; omega
  have HTT := Lib.hid ht
  clear ht ht2
  have hbA := alloc_below w1 (.cells #[.int .u8 0, .int .u8 0, .int .u32 0, .int .u64 0, .int .u32 0, .slice none 0 0, .string ⟨t.toArray⟩, .int .i64 0, .bool true, .bool false] 130)
  have D2 : Hid (HdAt (w1.alloc (.cells #[.int .u8 0, .int .u8 0, .int .u32 0, .int .u64 0, .int .u32 0, .slice none 0 0, .string ⟨t.toArray⟩, .int .i64 0, .bool true, .bool false] 130)) w1.heap.size 0 0 0 0 0 (.slice none 0 0) t 0 true false) := Lib.hid (heap_alloc_new w1 _)
  have Z2 := Lib.hid (Z1.out.below hbA)
  have B2 := Lib.hid (below_then B1.out hbA)
  have hz1 := Z1.out.lt
  go_upto_region 5 with fail
  generalize hw2 : w1.alloc (.cells #[.int .u8 0, .int .u8 0, .int .u32 0, .int .u64 0, .int .u32 0, .slice none 0 0, .string ⟨t.toArray⟩, .int .i64 0, .bool true, .bool false] 130) = w2 at *
  have hs2 : w1.heap.size < w2.heap.size := by rw [← hw2]; simp
  have HDC := Lib.hid (headR_any w2 w1.heap.size (.slice none 0 0) t (by omega) (by omega) D2.out)
  clear hbA hw2 Z1 B1
  go_wp2_with fail
  refine HDC.out.mono ?_
  rintro e w3 ⟨rfl, k1, k2⟩
  have D3 := Lib.hid k1
  have Z3 := Lib.hid (Z2.out.kept k2 (by omega))
  have B3 := Lib.hid (OthersKept.below B2.out k2 (fun k hk e => by have e2 : k = w1.heap.size := e; omega))
  have hs3 : w1.heap.size < w3.heap.size := k1.lt
  clear k1 k2 HDC D2 Z2 B2
  have n0 : rdNum t 0 1 = rdNum l 0 1 := by rw [HTT.out]; exact rdNum_take l 0 1 508 (by omega) (by omega)
  have n1 : rdNum t 1 1 = rdNum l 1 1 := by rw [HTT.out]; exact rdNum_take l 1 1 508 (by omega) (by omega)
  have n2 : rdNum t 2 4 = rdNum l 2 4 := by rw [HTT.out]; exact rdNum_take l 2 4 508 (by omega) (by omega)
  have n3 : rdNum t 6 8 = rdNum l 6 8 := by rw [HTT.out]; exact rdNum_take l 6 8 508 (by omega) (by omega)
  have n4 : rdNum t 14 4 = rdNum l 14 4 := by rw [HTT.out]; exact rdNum_take l 14 4 508 (by omega) (by omega)
  have n5 : rdNum t 18 2 = rdNum l 18 2 := by rw [HTT.out]; exact rdNum_take l 18 2 508 (by omega) (by omega)
  rw [n0, n1, n2, n3, n4, n5] at D3
  clear n0 n1 n2 n3 n4 n5
  have hbody : rdText t 20 488 = bodyB l := by rw [HTT.out]; exact body_take l h512
  have HLB := Lib.hid (bodyB_length h512)
  have CT := Lib.hid fun W => wCut t 20 488 W (by omega) (by omega) (by omega)
  rw [hbody, decide_eq_true (by omega : 20 + 488 ≤ t.length)] at CT
  clear hbody
  obtain ⟨d0, d1, d2, d3, d4, d5, d6, d7, d8, d9⟩ := D3.out.cells
  have hsum : IntKind.i64.wrap ((t.length : Int) - 20) = 488 := by rw [htl]; rfl
  have hsum2 : ((t.length : Int) - 20) = 488 := by omega
  have x7 := ext_cell d7 D3.out.lt
  obtain ⟨bd, hbd⟩ : ∃ b, b = bodyB l := ⟨_, rfl⟩
  rw [← hbd] at CT HLB
  have HBD := Lib.hid hbd
  clear hbd
  go_upto_region 6 with fail
  refine wp_region_ext w3.heap.size (by kernel_rfl) (by kernel_rfl) ?_
  repeat (go_big_quiet_step (first
    | (go_at_call 108; exact ext_same _ (CT.out _))))
  refine wpQuiet_nil ?_
  rintro _ ⟨X, rfl⟩
  have hbX := X.below
  generalize X.val = w4 at *
  have D4 := Lib.hid (D3.out.below hbX)
  have Z4 := Lib.hid (Z3.out.below hbX)
  have B4 := Lib.hid (below_then B3.out hbX)
  have hs4 : w1.heap.size < w4.heap.size := D4.out.lt
  clear hbX d0 d1 d2 d3 d4 d5 d6 d7 d8 d9 x7 CT D3 Z3 B3 hsum hsum2
  obtain ⟨bad, hbad⟩ : ∃ b, b = decide (rdNum l 18 2 ≠ 0) := ⟨_, rfl⟩
  rw [← hbad] at D4
  have HBAD := Lib.hid hbad
  obtain ⟨P, hP⟩ : ∃ P, P = pgOf l := ⟨_, rfl⟩
  have HPR := Lib.hid (show P.rows = (parse bd).texts by rw [hP, HBD.out]; rfl)
  have D4 : Hid (HdAt w4 w1.heap.size P.kind P.level P.id P.lsn P.next (.slice none 0 0) t 20 true bad) := Lib.hid (by rw [hP]; exact D4.out)
  have HP := Lib.hid hP
  have HPW := Lib.hid (show P.wf by rw [hP]; exact pgOf_wf l)
  have HOPEN := Lib.hid (show 4 ≤ l.length ∧ sealed (l.take (l.length - 4)) = l by
    have h := HOK.out
    unfold openOk at h
    simpa using h.symm)
  clear hbad hP
  by_cases hgd : (parse bd).Good
  case neg =>
    have HX : Hid (R = (Pg.zero, 60)) := by
      show _ = _
      rw [HR.out]
      exact pgDec_no fun h => hgd (by rw [HBD.out]; exact h.2.1)
    have LN := Lib.hid fun W => loadA_no ⟨bd.toArray⟩ W (by show bd.length ≤ _; have := HLB.out; omega) hgd
    go_wp2_with fail
    refine (LN.out _).mono ?_
    rintro e w5 ⟨rfl, hb⟩
    have D5 := Lib.hid (D4.out.below hb)
    have Z5 := Lib.hid (Z4.out.below hb)
    have B5 := Lib.hid (below_then B4.out hb)
    clear hb D4 Z4 B4 LN
    obtain ⟨d0, d1, d2, d3, d4, d5, d6, d7, d8, d9⟩ := D5.out.cells
    cases bad
    all_goals
      obtain ⟨zl, z0, z1, z2, z3, z4, z5⟩ := Z5.out.cells
      obtain ⟨f0, f1, f2, f3, f4, f5⟩ := Z5.out.fr
      have XB := Lib.hid (Z5.out.put 0 0 0 0 0 (.slice none 0 0))
      have XK := Lib.hid (OthersKept.below B5.out (setPg_kept w5 w.heap.size 0 0 0 0 0 (.slice none 0 0)) (fun k hk e => by omega))
      go_wp2_with fail
      refine bodyPost_ret (v := .tuple #[.agg #[.int .u8 (0 : Nat), .int .u8 (0 : Nat), .int .u32 (0 : Nat), .int .u64 (0 : Nat), .int .u32 (0 : Nat), .slice none 0 0], .int .i64 60]) (results_pg (p := 2) (u := 3) (by kernel_rfl) _ _ rfl XB.out) rfl ?_
      exact PgPost.no HX.out XK.out
  have LY := Lib.hid fun W => loadA_yes ⟨bd.toArray⟩ W hgd
  go_wp2_with fail
  refine (LY.out _).mono ?_
  rintro e w5 ⟨gA, gB, cap, rfl, hgA, hgB, hA5, hb⟩
  have A5 := Lib.hid (show ArAt w5 gA gB cap (parse bd) from hA5)
  have D5 := Lib.hid (D4.out.below hb)
  have Z5 := Lib.hid (Z4.out.below hb)
  have B5 := Lib.hid (below_then B4.out hb)
  clear hb hA5 D4 Z4 B4 LY
  obtain ⟨d0, d1, d2, d3, d4, d5, d6, d7, d8, d9⟩ := D5.out.cells
  cases hb5 : bad with
  | true =>
    have HX : Hid (R = (Pg.zero, 60)) := by
      show _ = _
      rw [HR.out]
      refine pgDec_no fun h => ?_
      have h2 := (dec_steps.1 h).2.2.1
      have h3 := HBAD.out
      rw [hb5, h2] at h3
      cases h3
    rw [hb5] at d9
    obtain ⟨zl, z0, z1, z2, z3, z4, z5⟩ := Z5.out.cells
    obtain ⟨f0, f1, f2, f3, f4, f5⟩ := Z5.out.fr
    have XB := Lib.hid (Z5.out.put 0 0 0 0 0 (.slice none 0 0))
    have XK := Lib.hid (OthersKept.below B5.out (setPg_kept w5 w.heap.size 0 0 0 0 0 (.slice none 0 0)) (fun k hk e => by omega))
    go_wp2_with fail
    refine bodyPost_ret (v := .tuple #[.agg #[.int .u8 (0 : Nat), .int .u8 (0 : Nat), .int .u32 (0 : Nat), .int .u64 (0 : Nat), .int .u32 (0 : Nat), .slice none 0 0], .int .i64 60]) (results_pg (p := 2) (u := 3) (by kernel_rfl) _ _ rfl XB.out) rfl ?_
    exact PgPost.no HX.out XK.out
  | false =>
  rw [hb5] at d9 D5
  clear hb5
  have hfit := hgd.fit
  have LN := Lib.hid fun W (hW : ArAt W gA gB cap (parse bd)) => lenA gA gB cap (parse bd) W hfit hW
  obtain ⟨n, hn⟩ : ∃ n, n = (parse bd).L.length := ⟨_, rfl⟩
  have hnt : n = (parse bd).texts.length := by rw [hn]; unfold Ar.texts; simp
  have hwt := good_weight hgd
  have hwl := weightB_length (parse bd).texts
  have hpl : (parse bd).B.length = 488 := HLB.out
  have hn122 : n ≤ 122 := by omega
  rw [← hn] at LN
  have HN := Lib.hid hn
  have HNT := Lib.hid hnt
  have HWT := Lib.hid (show weightB (parse bd).texts ≤ 488 by omega)
  clear hn hnt hwt hwl hpl hfit
  go_wp2_with fail
  refine (LN.out _ A5.out).mono ?_
  rintro e w6 ⟨rfl, hb⟩
  have A6 := Lib.hid (A5.out.below hb)
  have D6 := Lib.hid (D5.out.below hb)
  have Z6 := Lib.hid (Z5.out.below hb)
  have B6 := Lib.hid (below_then B5.out hb)
  have hg6 : gA < w6.heap.size ∧ gB < w6.heap.size := ⟨blk_lt A6.out.area.own, A6.out.area.row.lt⟩
  have hs6 : w1.heap.size < w6.heap.size := D6.out.lt
  clear hb d0 d1 d2 d3 d4 d5 d6 d7 d8 d9 A5 D5 Z5 B5 LN
  obtain ⟨i0, hif, hy0, hy1, hy2⟩ := info_parts Try.infoStrM
  have HI := Lib.hid hif
  have HI0 := Lib.hid hy0
  have HI1 := Lib.hid hy1
  have HI2 := Lib.hid hy2
  clear hif hy0 hy1 hy2
  go_wp2_with fail
  go_loopw [10, 11, 12, 69] (fun s10 s11 s12 s69 wr => ∃ (k : Nat) (b : Option Addr) (c : Nat), s69 = .int .i64 k ∧ k ≤ n ∧ Hid (ArAt wr gA gB cap (parse bd)) ∧ Hid (HdAt wr w1.heap.size P.kind P.level P.id P.lsn P.next (.slice b k c) t 20 true false) ∧ Hid (wr.ownsRow w6.heap.size 9 1 (.slice b k c) k (strs ((parse bd).texts.take k))) ∧ Hid (PgBox wr w.heap.size 0 0 0 0 0 (.slice none 0 0)) ∧ Hid (Below w.heap.size w wr) ∧ w6.heap.size ≤ wr.heap.size) (fun _ _ _ v _ => n - (intOf v).toNat)
  case atStart => exact ⟨0, none, 0, rfl, Nat.zero_le _, A6, D6, Lib.hid (World.ownsRow_nil _ _ _ _), Z6, B6, Nat.le_refl _⟩
  case round =>
    obtain ⟨k, b, c, rfl, hk, HA, HD, HO, HZ, HB, hsz6⟩ := hrel
    clear A6 D6 Z6 B6
    by_cases hkn : k < n
    · have hki : (k : Int) < (n : Int) := by omega
      have hk0 : (0 : Int) ≤ (k : Int) := by omega
      have hkL : k < (parse bd).L.length := by rw [← HN.out]; exact hkn
      have hkT : k < (parse bd).texts.length := by rw [← HNT.out]; exact hkn
      have GT := Lib.hid fun W (hW : ArAt W gA gB cap (parse bd)) => getA_yes gA gB cap k (parse bd) W hgd hkL hW
      have hrt : (parse bd).text (parse bd).L[k] = (parse bd).texts[k] := (List.getElem_map (parse bd).text (h := hkT)).symm
      rw [hrt] at GT
      have HTS := Lib.hid (List.take_succ_eq_append_getElem hkT)
      clear hrt
      generalize (parse bd).texts[k] = r at *
      go_wp2_with fail
      refine (GT.out _ HA.out).mono ?_
      rintro e w7 ⟨rfl, hb⟩
      have A7 := Lib.hid (HA.out.below hb)
      have D7 := Lib.hid (HD.out.below hb)
      have Z7 := Lib.hid (HZ.out.below hb)
      have O7 := Lib.hid (own_below HO.out hb)
      have B7 := Lib.hid (below_then HB.out hb)
      have hsz7 : w6.heap.size ≤ w7.heap.size := Nat.le_trans hsz6 hb.size
      clear hb GT HA HD HZ HO HB
      obtain ⟨d0, d1, d2, d3, d4, d5, d6, d7, d8, d9⟩ := D7.out.cells
      have f5 := D7.out.fr 5
      have hgl := D7.out.lt
      have RD := Lib.hid (reads_one (heap_alloc_new w7 (.cells #[.string ⟨r.toArray⟩] 9)))
      have O8 := Lib.hid (O7.out.alloc (.cells #[.string ⟨r.toArray⟩] 9))
      have hs8 : w6.heap.size ≤ (w7.alloc (.cells #[.string ⟨r.toArray⟩] 9)).heap.size := by simp; omega
      have hb8 := Lib.hid (alloc_below w7 (.cells #[.string ⟨r.toArray⟩] 9))
      clear d0 d1 d2 d3 d4 d6 d7 d8 d9
      go_wp2_with (at_builtin; go_must (refine wpList_append_any _ rfl _ _ 24 rfl w6.heap.size 9 i0 (.string ⟨#[]⟩) 1 16 Try.underlying24 HI.out HI0.out HI1.out HI2.out rfl (by decide) (.slice b k c) k (strs ((parse bd).texts.take k)) (by rfl) O8.out (.slice (some ⟨w7.heap.size, 0, none⟩) 1 1) 1 (strs [r]) (by rfl) RD.out (strs_oneCell _) (by unfold maxLen; omega) (by omega) hs8 ?_; intro v9 w9 ho9 hg9; have KG := Lib.hid (OthersKept.trans (OthersKept.of_below (p := fun x => w6.heap.size ≤ x ∨ x = w1.heap.size) hb8.out) (grownK (p := fun x => w6.heap.size ≤ x) O8.out hg9 (fun k hk => hk)) (fun _ _ h => .inl h)); rw [← strs_append, ← HTS.out] at ho9; have HO9 := Lib.hid ho9; obtain ⟨b9, c9, hv9, _, _, _⟩ := own_form ho9; subst hv9; have D9 := Lib.hid (show HdAt w9 w1.heap.size P.kind P.level P.id P.lsn P.next (.slice b k c) t 20 true false from ((grownK (p := fun x => w6.heap.size ≤ x) O8.out hg9 (fun k hk => hk)).heap (hb8.out.block _ D7.out.lt |>.trans D7.out) (by omega))); have d5 := D9.out.cells.2.2.2.2.2.1; have f5 := D9.out.fr 5; have hgl := D9.out.lt; clear ho9 hg9))
      have hk5 := one_kept w9 w1.heap.size 5 (.slice b9 (k + 1) c9)
      have KQ := Lib.hid (KG.out.trans hk5 (fun _ _ h => .inr h))
      have D10 := Lib.hid (D9.out.put5 (.slice b9 (k + 1) c9))
      have O10 := Lib.hid (own_set_far (i := 5) (u := .slice b9 (k + 1) c9) HO9.out (fun j hj e => by have := (HO9.out.lt j hj).1; have e2 : j = w1.heap.size := e; omega))
      have A10 := Lib.hid (A7.out.kept KQ.out (by omega) (by omega))
      have Z10 := Lib.hid (Z7.out.kept KQ.out (by omega))
      have B10 := Lib.hid (OthersKept.below B7.out KQ.out (fun j hj => by omega))
      have hs10 : w6.heap.size ≤ (w9.setCell ⟨w1.heap.size, 5, none⟩ (.slice b9 (k + 1) c9)).heap.size := Nat.le_trans hsz7 KQ.out.size
      exact ⟨⟨k + 1, b9, c9, by go_num, by omega, A10, D10, O10, Z10, B10, hs10⟩, by simp [intOf]; omega⟩
    · obtain rfl : k = n := by omega
      have hall : (parse bd).texts.take k = P.rows := by rw [HPR.out, List.take_of_length_le (by rw [← HNT.out]; exact Nat.le_refl _)]
      rw [hall] at HO
      have TX := texts_own HO.out
      have hpw : weightB P.rows ≤ 488 := by rw [HPR.out]; exact HWT.out
      have EC := Lib.hid fun W (hW : TextsAt W (.slice b k c) P.rows) => pageEncode_any P (.slice b k c) W HPW.out hW (by omega)
      have TXH := Lib.hid TX.1
      obtain ⟨E, hE⟩ : ∃ E, E = pgEnc P := ⟨_, rfl⟩
      rw [← hE] at EC
      have HE := Lib.hid hE
      unfold pgV at EC
      obtain ⟨d0, d1, d2, d3, d4, d5, d6, d7, d8, d9⟩ := HD.out.cells
      clear TX hall hE HN HNT HI HI0 HI1 HI2
      obtain ⟨back, er⟩ := E
      simp only at EC
      go_wp2_with fail
      refine (EC.out _ TXH.out).mono ?_
      rintro e w8 ⟨rfl, hb⟩
      have D8 := Lib.hid (HD.out.below hb)
      have Z8 := Lib.hid (HZ.out.below hb)
      have T8 := Lib.hid (TXH.out.below hb)
      have B8 := Lib.hid (below_then HB.out hb)
      clear hb d0 d1 d2 d3 d4 d5 d6 d7 d8 d9 EC HA HD HO HZ HB TXH
      obtain ⟨d0, d1, d2, d3, d4, d5, d6, d7, d8, d9⟩ := D8.out.cells
      by_cases hmay : P.may = true
      case neg =>
        have HX : Hid (R = (Pg.zero, 60)) := by
          show _ = _
          rw [HR.out]
          exact pgDec_no fun h => hmay (by rw [HP.out]; exact h.2.2.1)
        have he : er = 2 := by have h := HE.out; unfold pgEnc at h; rw [if_neg hmay] at h; exact (Prod.mk.inj h).2
        subst he
        have e2 : ((2 : Int) != 0) = true := rfl
        obtain ⟨zl, z0, z1, z2, z3, z4, z5⟩ := Z8.out.cells
        obtain ⟨f0, f1, f2, f3, f4, f5⟩ := Z8.out.fr
        have XB := Lib.hid (Z8.out.put 0 0 0 0 0 (.slice none 0 0))
        have XK := Lib.hid (OthersKept.below B8.out (setPg_kept w8 w.heap.size 0 0 0 0 0 (.slice none 0 0)) (fun k hk e => by omega))
        go_wp2_with fail
        refine bodyPost_ret (v := .tuple #[.agg #[.int .u8 (0 : Nat), .int .u8 (0 : Nat), .int .u32 (0 : Nat), .int .u64 (0 : Nat), .int .u32 (0 : Nat), .slice none 0 0], .int .i64 60]) (results_pg (p := 2) (u := 3) (by kernel_rfl) _ _ rfl XB.out) rfl ?_
        exact PgPost.no HX.out XK.out
      have hee : back = encPg P ∧ er = 0 := by have h := HE.out; unfold pgEnc at h; rw [if_pos hmay] at h; exact Prod.mk.inj h
      obtain ⟨hbk, rfl⟩ := hee
      have e2 : ((0 : Int) != 0) = false := rfl
      by_cases hbl : back = l
      case neg =>
        have HX : Hid (R = (Pg.zero, 60)) := by
          show _ = _
          rw [HR.out]
          exact pgDec_no fun h => hbl (by rw [hbk, HP.out]; exact h.2.2.2)
        have r1 : (back == l) = false := by simpa using hbl
        have r2 : (!(back == l)) = true := by simpa using hbl
        clear hbl hbk
        obtain ⟨zl, z0, z1, z2, z3, z4, z5⟩ := Z8.out.cells
        obtain ⟨f0, f1, f2, f3, f4, f5⟩ := Z8.out.fr
        have XB := Lib.hid (Z8.out.put 0 0 0 0 0 (.slice none 0 0))
        have XK := Lib.hid (OthersKept.below B8.out (setPg_kept w8 w.heap.size 0 0 0 0 0 (.slice none 0 0)) (fun k hk e => by omega))
        go_wp2_with fail
        refine bodyPost_ret (v := .tuple #[.agg #[.int .u8 (0 : Nat), .int .u8 (0 : Nat), .int .u32 (0 : Nat), .int .u64 (0 : Nat), .int .u32 (0 : Nat), .slice none 0 0], .int .i64 60]) (results_pg (p := 2) (u := 3) (by kernel_rfl) _ _ rfl XB.out) rfl ?_
        exact PgPost.no HX.out XK.out
      have HX : Hid (R = (P, 0)) := by
        show _ = _
        rw [HR.out, HP.out]
        refine pgDec_ok ⟨h512, ?_, ?_, ?_⟩
        · rw [← HBD.out]; exact hgd
        · rw [← HP.out]; exact hmay
        · rw [← HP.out, ← hbk]; exact hbl
      have r1 : (back == l) = true := by simpa using hbl
      have r2 : (!(back == l)) = false := by simpa using hbl
      clear hbk hbl
      obtain ⟨zl, z0, z1, z2, z3, z4, z5⟩ := Z8.out.cells
      obtain ⟨f0, f1, f2, f3, f4, f5⟩ := Z8.out.fr
      have XB := Lib.hid (Z8.out.put P.kind P.level P.id P.lsn P.next (.slice b k c))
      have XKK := Lib.hid (setPg_kept w8 w.heap.size P.kind P.level P.id P.lsn P.next (.slice b k c))
      have XK := Lib.hid (OthersKept.below B8.out XKK.out (fun j hj e => by omega))
      go_wp2_with fail
      refine bodyPost_ret (v := .tuple #[.agg #[.int .u8 P.kind, .int .u8 P.level, .int .u32 P.id, .int .u64 P.lsn, .int .u32 P.next, .slice b k c], .int .i64 0]) (results_pg (p := 2) (u := 3) (by kernel_rfl) _ _ rfl XB.out) rfl ?_
      refine ⟨.slice b k c, by rw [HX.out]; rfl, ?_, XK.out⟩
      rw [HX.out]
      exact texts_page6 Z8.out T8.out XKK.out (fun _ x e => by cases e)

end Go.Proofs.Ytienlhnbmobinaa
