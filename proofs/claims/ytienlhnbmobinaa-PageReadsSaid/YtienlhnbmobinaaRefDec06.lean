/- ref06.Decode by pgDec -/
import Derived.Test.YtienlhnbmobinaaRows
import Derived.Test.YtienlhnbmobinaaRefEnc06
import Derived.Test.YtienlhnbmobinaaRefLoad
import Derived.Test.YtienlhnbmobinaaRefRoot
import Derived.Test.YtienlhnbmobinaaPageDecode
import Derived.Test.YtienlhnbmobinaaPageNum
import Derived.Test.YtienlhnbmobinaaPagePlain
import Derived.Test.YtienlhnbmobinaaSlotAlive
import Derived.Test.YtienlhnbmobinaaSlotLoad
import Derived.Test.YtienlhnbmobinaaSlotRoot
import Derived.Test.YtienlhnbmobinaaPgStore
import Derived.Test.YtienlhnbmobinaaOpWord
import Derived.Test.YtienlhnbmobinaaBase
import Derived.Test.YtienlhnbmobinaaPlains
import Derived.Test.YtienlhnbmobinaaTextsP
import Derived.Test.YtienlhnbmobinaaTextsMove
import Derived.Test.YtienlhnbmobinaaTextsBack
import Derived.Test.YtienlhnbmobinaaWordWalks
import Derived.Deep.CutBlock
import Derived.Deep.RegionHeld
import Derived.WalkKit
import Derived.WalkLawsBesides
import Derived.WalkSpells
import Derived.LoopTactic
import Derived.WalkMore
import Derived.LoopN
import Derived.Laws.BitsAllLaws
import Derived.Laws.IdiomStrings
import Derived.BigQuiet
import Derived.Deep.QuietTactic
import Derived.Deep.DeepCutAuto
import Derived.Deep.RegionHeld3
import Derived.Deep.DrawnRows
import Derived.Lib.Hide
import Derived.Outline
import Derived.Deep.DeepMust
import Derived.Handy
namespace Go.Proofs.Ytienlhnbmobinaa
open Go.RowKit
set_option linter.unusedVariables false
set_option linter.unusedSimpArgs false

theorem rd_first (l : List UInt8) (i : Nat) (h : i < l.length) : rdNum l i 1 = l[i].toNat := by
  unfold rdNum
  rw [if_pos (by omega), List.drop_eq_getElem_cons h]
  show un [l[i]] = _
  simp [un]
theorem ext_body (l : List UInt8) (h : l.length = 512) : (⟨l.toArray⟩ : ByteArray).extract 20 508 = ⟨(bodyB l).toArray⟩ := by
  apply bytes_ext
  unfold bodyB
  simp
theorem RefAt.kept {w w' : World} {g gB cap : Nat} {v : Value} {a : Ar} {q : Nat → Prop} (h : RefAt w g gB cap v a) (hk : OthersKept w w' q) (h1 : ¬ q g) (h2 : ¬ q gB) (h3 : ∀ x, v.ownBlock = some x → ¬ q x) : RefAt w' g gB cap v a :=
  ⟨hk.heap h.own h1, h.row.of_eq (hk.block _ h.row.lt h2), hk.owns h.dir h3, h.ne, h.far, h.room⟩
set_option maxHeartbeats 8000000 in
set_option maxRecDepth 100000 in
theorem refDecode06_any (l : List UInt8) (w : World) (hl : l.length ≤ 100000) :
    Calls Try.prog 52 #[.string ⟨l.toArray⟩] w (PgPost w (pgDec l)) := by
  have hsz : (⟨l.toArray⟩ : ByteArray).size = l.length := rfl
  obtain ⟨R, hR⟩ : ∃ R, R = pgDec l := ⟨_, rfl⟩
  rw [← hR]
  have HR := Lib.hid hR
  have Z0 : PgBox (w.alloc (.cells #[.int .u8 0, .int .u8 0, .int .u32 0, .int .u64 0, .int .u32 0, .slice none 0 0] 26)) w.heap.size 0 0 0 0 0 (.slice none 0 0) := PgBox.new w 0 0 0 0 0 (.slice none 0 0)
  have Z0 := Lib.hid Z0
  have B0 := Lib.hid (alloc_below w (.cells #[.int .u8 0, .int .u8 0, .int .u32 0, .int .u64 0, .int .u32 0, .slice none 0 0] 26))
  clear hR
  go_enter Try.func52, Try.ntmps52
  go_upto_region 1 with fail
  generalize w.alloc (.cells #[.int .u8 0, .int .u8 0, .int .u32 0, .int .u64 0, .int .u32 0, .slice none 0 0] 26) = w0 at *
  by_cases h512 : l.length = 512
  case neg =>
    have HX : Hid (R = (Pg.zero, 60)) := by
      show _ = _
      rw [HR.out]
      exact pgDec_no fun h => h512 h.1
    have hni : ((l.length : Int) != 512) = true := by simp; omega
    obtain ⟨zl, z0, z1, z2, z3, z4, z5⟩ := Z0.out.cells
    obtain ⟨f0, f1, f2, f3, f4, f5⟩ := Z0.out.fr
    have XB := Lib.hid (Z0.out.put 0 0 0 0 0 (.slice none 0 0))
    have XK := Lib.hid (OthersKept.below B0.out (setPg_kept w0 w.heap.size 0 0 0 0 0 (.slice none 0 0)) (fun k hk e => by omega))
    go_wp2_with fail
    refine bodyPost_ret (v := .tuple #[.agg #[.int .u8 (0 : Nat), .int .u8 (0 : Nat), .int .u32 (0 : Nat), .int .u64 (0 : Nat), .int .u32 (0 : Nat), .slice none 0 0], .int .i64 60]) (results_pg (p := 2) (u := 3) (by kernel_rfl) _ _ rfl XB.out) rfl ?_
    exact PgPost.no HX.out XK.out
  have hni : ((l.length : Int) != 512) = false := by simp; omega
  have e0 : (⟨l.toArray⟩ : ByteArray)[0]'(by rw [hsz]; omega) = l[0]'(by omega) := rfl
  have e1 : (⟨l.toArray⟩ : ByteArray)[1]'(by rw [hsz]; omega) = l[1]'(by omega) := rfl
  have r0 := rd_first l 0 (by omega)
  have r1 := rd_first l 1 (by omega)
  have hl0 : 0 < l.length := by omega
  have hl1 : 1 < l.length := by omega
  have hz0 := Z0.out.lt
  go_upto_region 3 with fail
  go_region
  rw [← r0, ← r1]
  have PB0 := PgBox.new w0 (rdNum l 0 1) (rdNum l 1 1) 0 0 0 (.slice none 0 0)
  have P1 := Lib.hid (show PgBox (w0.alloc (.cells #[.int .u8 (rdNum l 0 1 : Nat), .int .u8 (rdNum l 1 1 : Nat), .int .u32 0, .int .u64 0, .int .u32 0, .slice none 0 0] 26)).drew w0.heap.size (rdNum l 0 1) (rdNum l 1 1) 0 0 0 (.slice none 0 0) from PB0)
  have hbA : Below w0.heap.size w0 (w0.alloc (.cells #[.int .u8 (rdNum l 0 1 : Nat), .int .u8 (rdNum l 1 1 : Nat), .int .u32 0, .int .u64 0, .int .u32 0, .slice none 0 0] 26)).drew := (alloc_below w0 _).drew
  have Z1 := Lib.hid (Z0.out.below hbA)
  have B1 := Lib.hid (below_then B0.out hbA)
  generalize (w0.alloc (.cells #[.int .u8 (rdNum l 0 1 : Nat), .int .u8 (rdNum l 1 1 : Nat), .int .u32 0, .int .u64 0, .int .u32 0, .slice none 0 0] 26)).drew = w1 at *
  have hs1 : w0.heap.size < w1.heap.size := P1.out.lt
  clear PB0 hbA r0 r1 e0 e1 hl0 hl1 Z0 B0
  have G2 := Lib.hid fun W => rGet l 2 4 W (by omega) (by omega) (by omega) (by omega)
  have G3 := Lib.hid fun W => rGet l 6 8 W (by omega) (by omega) (by omega) (by omega)
  have G4 := Lib.hid fun W => rGet l 14 4 W (by omega) (by omega) (by omega) (by omega)
  obtain ⟨P, hP⟩ : ∃ P, P = pgOf l := ⟨_, rfl⟩
  have HPW := Lib.hid (show P.wf by rw [hP]; exact pgOf_wf l)
  have q0 : rdNum l 0 1 = P.kind := by rw [hP]; rfl
  have q1 : rdNum l 1 1 = P.level := by rw [hP]; rfl
  have q2 : rdNum l 2 4 = P.id := by rw [hP]; rfl
  have q3 : rdNum l 6 8 = P.lsn := by rw [hP]; rfl
  have q4 : rdNum l 14 4 = P.next := by rw [hP]; rfl
  rw [q0, q1] at P1
  rw [q2] at G2
  rw [q3] at G3
  rw [q4] at G4
  have HP := Lib.hid hP
  have hw2 := HPW.out.2.2.1
  have hw4 := HPW.out.2.2.2.2
  simp only [Nat.reducePow] at hw2 hw4
  have v2 : IntKind.u32.wrap (P.id : Int) = (P.id : Int) := IntWalk.u32_in _ ⟨by omega, by omega⟩
  have v4 : IntKind.u32.wrap (P.next : Int) = (P.next : Int) := IntWalk.u32_in _ ⟨by omega, by omega⟩
  clear hP q0 q1 q2 q3 q4
  go_wp2_with fail
  refine (G2.out _).mono ?_
  rintro e w1' ⟨rfl, rfl⟩
  go_wp2_with fail
  refine (G3.out _).mono ?_
  rintro e w1' ⟨rfl, rfl⟩
  go_wp2_with fail
  refine (G4.out _).mono ?_
  rintro e w1' ⟨rfl, rfl⟩
  obtain ⟨pl, p0, p1, p2, p3, p4, p5⟩ := P1.out.cells
  have g2 := P1.out.frozen 2
  have g3 := P1.out.frozen 3
  have g4 := P1.out.frozen 4
  clear G2 G3 G4
  go_upto_region 10 with fail
  have P2 := Lib.hid (show PgBox (((w1.setCell ⟨w0.heap.size, 2, none⟩ (.int .u32 (P.id : Nat))).setCell ⟨w0.heap.size, 3, none⟩ (.int .u64 (P.lsn : Nat))).setCell ⟨w0.heap.size, 4, none⟩ (.int .u32 (P.next : Nat))) w0.heap.size P.kind P.level P.id P.lsn P.next (.slice none 0 0) from by
    have h := P1.out
    unfold PgBox at *
    have h2 := blk_set (blk_set (blk_set h 2 (.int .u32 (P.id : Nat))) 3 (.int .u64 (P.lsn : Nat))) 4 (.int .u32 (P.next : Nat))
    simpa using h2)
  have hk2 : OthersKept w1 (((w1.setCell ⟨w0.heap.size, 2, none⟩ (.int .u32 (P.id : Nat))).setCell ⟨w0.heap.size, 3, none⟩ (.int .u64 (P.lsn : Nat))).setCell ⟨w0.heap.size, 4, none⟩ (.int .u32 (P.next : Nat))) (fun j => j = w0.heap.size) := ((one_kept w1 w0.heap.size 2 _).trans (one_kept _ w0.heap.size 3 _) (fun _ _ h => h)).trans (one_kept _ w0.heap.size 4 _) (fun _ _ h => h)
  have Z2 := Lib.hid (Z1.out.kept hk2 (by omega))
  have B2 := Lib.hid (OthersKept.below B1.out hk2 (fun j hj e => by have e2 : j = w0.heap.size := e; omega))
  generalize ((w1.setCell ⟨w0.heap.size, 2, none⟩ (.int .u32 (P.id : Nat))).setCell ⟨w0.heap.size, 3, none⟩ (.int .u64 (P.lsn : Nat))).setCell ⟨w0.heap.size, 4, none⟩ (.int .u32 (P.next : Nat)) = w2 at *
  have hs2 : w0.heap.size < w2.heap.size := P2.out.lt
  clear hk2 pl p0 p1 p2 p3 p4 p5 g2 g3 g4 P1 Z1 B1 v2 v4 hw2 hw4
  obtain ⟨bd, hbd⟩ : ∃ b, b = bodyB l := ⟨_, rfl⟩
  have HBD := Lib.hid hbd
  have HLB := Lib.hid (show bd.length = 488 by rw [hbd]; exact bodyB_length h512)
  have LD := Lib.hid fun W => refLoad_any ⟨bd.toArray⟩ W (by show bd.length ≤ _; have := HLB.out; omega)
  have hex : (⟨l.toArray⟩ : ByteArray).extract 20 508 = ⟨bd.toArray⟩ := by rw [hbd]; exact ext_body l h512
  have HPR := Lib.hid (show P.rows = (parse bd).texts by rw [HP.out, hbd]; rfl)
  have HEX := Lib.hid hex
  clear hbd hex
  go_wp2_with fail
  rw [HEX.out]
  refine (LD.out _).mono ?_
  rintro e w5 ⟨hb, hcase⟩
  have Z5 := Lib.hid (Z2.out.below hb)
  have P5 := Lib.hid (P2.out.below hb)
  have B5 := Lib.hid (below_then B2.out hb)
  clear hb Z2 P2 B2 LD HEX
  rcases hcase with ⟨hgd, rfl⟩ | ⟨hgd, g, gB, cap, v, rfl, hA, hgg, hgB, hv⟩
  · have HX : Hid (R = (Pg.zero, 60)) := by
      show _ = _
      rw [HR.out]
      exact pgDec_no fun h => hgd (by rw [HBD.out]; exact h.2.1)
    obtain ⟨zl, z0, z1, z2, z3, z4, z5⟩ := Z5.out.cells
    obtain ⟨f0, f1, f2, f3, f4, f5⟩ := Z5.out.fr
    have XB := Lib.hid (Z5.out.put 0 0 0 0 0 (.slice none 0 0))
    have XK := Lib.hid (OthersKept.below B5.out (setPg_kept w5 w.heap.size 0 0 0 0 0 (.slice none 0 0)) (fun k hk e => by omega))
    go_wp2_with fail
    refine bodyPost_ret (v := .tuple #[.agg #[.int .u8 (0 : Nat), .int .u8 (0 : Nat), .int .u32 (0 : Nat), .int .u64 (0 : Nat), .int .u32 (0 : Nat), .slice none 0 0], .int .i64 60]) (results_pg (p := 2) (u := 3) (by kernel_rfl) _ _ rfl XB.out) rfl ?_
    exact PgPost.no HX.out XK.out
  obtain ⟨bv, cv, rfl, hvc, hvm, hvb⟩ := dir_form hA.dir
  obtain ⟨n, hn⟩ : ∃ n, n = (parse bd).L.length := ⟨_, rfl⟩
  have hnt : n = (parse bd).texts.length := by rw [hn]; unfold Ar.texts; simp
  have hwt := good_weight hgd
  have hwl := weightB_length (parse bd).texts
  have hpl : (parse bd).B.length = 488 := HLB.out
  have hn122 : n ≤ 122 := by omega
  have A5 := Lib.hid (show RefAt w5 g gB cap (.slice bv (parse bd).L.length cv) (parse bd) from hA)
  have HV := Lib.hid (show ∀ x, (Value.slice bv (parse bd).L.length cv).ownBlock = some x → w2.heap.size ≤ x ∧ x < w5.heap.size from fun x hx => ⟨hv x hx, (A5.out.dir.lt x hx).2⟩)
  rw [← hn] at A5 HV
  have HN := Lib.hid hn
  have HNT := Lib.hid hnt
  have HWT := Lib.hid (show weightB (parse bd).texts ≤ 488 by omega)
  have hg5 : g < w5.heap.size ∧ gB < w5.heap.size := ⟨blk_lt A5.out.own, A5.out.row.lt⟩
  have hs5 : w0.heap.size < w5.heap.size := P5.out.lt
  clear hn hnt hwt hwl hpl hA hv hvc hvm hvb
  obtain ⟨i0, hif, hy0, hy1, hy2⟩ := info_parts Try.infoStrM
  have HI := Lib.hid hif
  have HI0 := Lib.hid hy0
  have HI1 := Lib.hid hy1
  have HI2 := Lib.hid hy2
  clear hif hy0 hy1 hy2
  go_wp2_with fail
  go_loopw [12] (fun s12 wr => ∃ (k : Nat) (b : Option Addr) (c : Nat), s12 = .int .i64 k ∧ k ≤ n ∧ Hid (RefAt wr g gB cap (.slice bv n cv) (parse bd)) ∧ Hid (PgBox wr w0.heap.size P.kind P.level P.id P.lsn P.next (.slice b k c)) ∧ Hid (wr.ownsRow w5.heap.size 9 1 (.slice b k c) k (strs ((parse bd).texts.take k))) ∧ Hid (PgBox wr w.heap.size 0 0 0 0 0 (.slice none 0 0)) ∧ Hid (Below w.heap.size w wr) ∧ w5.heap.size ≤ wr.heap.size) (fun v _ => n - (intOf v).toNat)
  case atStart => exact ⟨0, none, 0, rfl, Nat.zero_le _, A5, P5, Lib.hid (World.ownsRow_nil _ _ _ _), Z5, B5, Nat.le_refl _⟩
  case round =>
    obtain ⟨k, b, c, rfl, hk, HA, HPB, HO, HZ, HB, hsz5⟩ := hrel
    clear A5 P5 Z5 B5
    have a2 := HA.out.c2
    have a2l := blk_lt HA.out.own
    obtain ⟨pl, p0, p1, p2, p3, p4, p5⟩ := HPB.out.cells
    by_cases hkn : k < n
    · have hki : (k : Int) < (n : Int) := by omega
      have hk0 : (0 : Int) ≤ (k : Int) := by omega
      have hkL : k < (parse bd).L.length := by rw [← HN.out]; exact hkn
      have hkT : k < (parse bd).texts.length := by rw [← HNT.out]; exact hkn
      have GT := Lib.hid fun W (hW : RefAt W g gB cap (.slice bv n cv) (parse bd)) => refText_any g gB cap k (.slice bv n cv) (parse bd) W hgd hkL hW
      have hrt : (parse bd).text (parse bd).L[k] = (parse bd).texts[k] := (List.getElem_map (parse bd).text (h := hkT)).symm
      rw [hrt] at GT
      have HTS := Lib.hid (List.take_succ_eq_append_getElem hkT)
      clear hrt
      generalize (parse bd).texts[k] = r at *
      go_wp2_with fail
      clear a2 a2l p0 p1 p2 p3 p4
      go_upto_region 16 with fail
      have KS := Lib.hid fun W W' (hb : Below W.heap.size W W') (h : W.cell? ⟨w0.heap.size, 5, none⟩ = some (.slice b k c)) => (keep_cell hb h : W'.cell? ⟨w0.heap.size, 5, none⟩ = some (.slice b k c))
      have KO := Lib.hid fun W W' (hb : OthersKept W W' (fun x => w5.heap.size ≤ x)) (h : W.cell? ⟨w0.heap.size, 5, none⟩ = some (.slice b k c)) => (hb.cell h (fun e => absurd (show w5.heap.size ≤ w0.heap.size from e) (by omega)) : W'.cell? ⟨w0.heap.size, 5, none⟩ = some (.slice b k c))
      refine wp_region_held_drew (S := fun _ => True) (by kernel_rfl) (trivial) (fun hHeld => ?_)
      refine wpAnyH_take (i := 0) (oi := { dst := some 62, op := Go.Op.fieldAddr 26 (Go.Operand.tmp 4) 5, type := 0, pos := "ref.go:79", after := #[], guard := none }) (v := ?_) rfl (by kernel_rfl) (by kernel_rfl) (by kernel_rfl) (fun _ _ _ h => h) (Or.inl ⟨by rfl, ?_⟩) hHeld ?_
      rotate_left
      · (intro w hSw; go_simp <;> with_reducible rfl)
      simp only [Act.put, List.setIfInBounds_toArray, List.set_cons_zero, List.set_cons_succ]
      refine wpAnyH_take (i := 2) (oi := { dst := some 64, op := Go.Op.move (Go.Operand.tmp 11), type := 138, pos := "ref.go:79", after := #[], guard := none }) (v := ?_) rfl (by kernel_rfl) (by kernel_rfl) (by kernel_rfl) (fun _ _ _ h => h) (Or.inl ⟨by rfl, ?_⟩) hHeld ?_
      rotate_left
      · (intro w hSw; go_simp <;> with_reducible rfl)
      simp only [Act.put, List.setIfInBounds_toArray, List.set_cons_zero, List.set_cons_succ]
      refine wpAnyH_take (i := 3) (oi := { dst := some 65, op := Go.Op.move (Go.Operand.tmp 12), type := 3, pos := "ref.go:79", after := #[], guard := none }) (v := ?_) rfl (by kernel_rfl) (by kernel_rfl) (by kernel_rfl) (fun _ _ _ h => h) (Or.inl ⟨by rfl, ?_⟩) hHeld ?_
      rotate_left
      · (intro w hSw; go_simp <;> with_reducible rfl)
      simp only [Act.put, List.setIfInBounds_toArray, List.set_cons_zero, List.set_cons_succ]
      refine wpAnyH_ready (rs := [1, 4]) (by kernel_rfl) (by simp) (AllReadyH.cons (o := { dst := some 63, op := Go.Op.load 24 (Go.Operand.tmp 62), type := 24, pos := "ref.go:79", after := #[{ on := 0, ground := Go.Ground.data }], guard := none }) rfl (fun K hK => ?_) (AllReadyH.cons (o := { dst := some 66, op := Go.Op.call { callee := Go.Callee.value (Go.Operand.func 114), args := #[Go.Operand.tmp 64, Go.Operand.tmp 65], argTypes := #[138, 3] }, type := 9, pos := "ref.go:79", after := #[{ on := 2, ground := Go.Ground.data }, { on := 3, ground := Go.Ground.data }], guard := none }) rfl (fun K hK => ?_) AllReadyH.nil))
      · go_simp
        refine hK.out _ _ ?_ (fun hHeld => ?_)
        · trivial
        clear hK K
        (try simp only [Act.put, List.setIfInBounds_toArray, List.set_cons_zero, List.set_cons_succ])
        refine wpAnyH_ready (rs := [4]) (by kernel_rfl) (by simp) (AllReadyH.cons (o := { dst := some 66, op := Go.Op.call { callee := Go.Callee.value (Go.Operand.func 114), args := #[Go.Operand.tmp 64, Go.Operand.tmp 65], argTypes := #[138, 3] }, type := 9, pos := "ref.go:79", after := #[{ on := 2, ground := Go.Ground.data }, { on := 3, ground := Go.Ground.data }], guard := none }) rfl (fun K hK => ?_) AllReadyH.nil)
        · go_simp
          refine (GT.out _ (HA.out.below ((Below.refl _ _).drew))).mono ?_
          rintro e w7 ⟨rfl, hb7⟩
          have hbw := below_then ((Below.refl wr.heap.size wr).drew) hb7
          have O7 := Lib.hid (own_below HO.out hbw)
          have HW7 := Lib.hid hbw
          have p57 := keep_cell hbw p5
          have pl7 : w0.heap.size < w7.heap.size := Nat.lt_of_lt_of_le pl hbw.size
          have hsz7 : w5.heap.size ≤ w7.heap.size := Nat.le_trans hsz5 hbw.size
          clear hb7 hbw
          (try simp only)
          refine hK.out _ _ ?_ (fun hHeld => ?_)
          · trivial
          clear hK K
          (try simp only [Act.put, List.setIfInBounds_toArray, List.set_cons_zero, List.set_cons_succ])
          refine wpAnyH_ready (rs := [5]) (by kernel_rfl) (by simp) (AllReadyH.cons (o := { dst := some 67, op := Go.Op.buildSlice 24 1 #[(0, Go.Operand.tmp 66)], type := 24, pos := "ref.go:79", after := #[{ on := 4, ground := Go.Ground.data }], guard := none }) rfl (fun K hK => ?_) AllReadyH.nil)
          · go_simp
            refine hK.out _ _ ?_ (fun hHeld => ?_)
            · trivial
            clear hK K
            (try simp only [Act.put, List.setIfInBounds_toArray, List.set_cons_zero, List.set_cons_succ])
            refine wpAnyH_ready (rs := [6]) (by kernel_rfl) (by simp) (AllReadyH.cons (o := { dst := some 68, op := Go.Op.call { callee := Go.Callee.builtin Go.Builtin.append, args := #[Go.Operand.tmp 63, Go.Operand.tmp 67], argTypes := #[24, 24] }, type := 24, pos := "ref.go:79", after := #[{ on := 1, ground := Go.Ground.data }, { on := 5, ground := Go.Ground.data }, { on := 4, ground := Go.Ground.chain }], guard := none }) rfl (fun K hK => ?_) AllReadyH.nil)
            · have O8 := Lib.hid (O7.out.alloc (.cells #[.string ⟨r.toArray⟩] 9))
              have RD := Lib.hid (reads_one (heap_alloc_new w7 (.cells #[.string ⟨r.toArray⟩] 9)))
              have hs8 : w5.heap.size ≤ (w7.alloc (.cells #[.string ⟨r.toArray⟩] 9)).heap.size := by simp; omega
              refine step_append_any _ rfl (.tmp 63) (.tmp 67) 24 rfl w5.heap.size 9 i0 (.string ⟨#[]⟩) 1 16 Try.underlying24 HI.out HI0.out HI1.out HI2.out rfl (by decide) (.slice b k c) k (strs ((parse bd).texts.take k)) (by rfl) O8.out (.slice (some ⟨w7.heap.size, 0, none⟩) 1 1) 1 (strs [r]) (by rfl) RD.out (strs_oneCell _) (by unfold maxLen; omega) (by omega) hs8 ?_
              intro v9 w9 ho9 hg9
              have KG0 := Lib.hid (grownK (p := fun x => w5.heap.size ≤ x) O8.out hg9 (fun k hk => hk))
              have KG := Lib.hid ((OthersKept.of_below (p := fun x => w5.heap.size ≤ x ∨ x = w0.heap.size) (below_then HW7.out (alloc_below w7 (.cells #[.string ⟨r.toArray⟩] 9)))).trans KG0.out (fun _ _ h => .inl h))
              rw [← strs_append, ← HTS.out] at ho9
              have HO9 := Lib.hid ho9
              obtain ⟨b9, c9, hv9, _, _, _⟩ := own_form ho9
              subst hv9
              have Q9 := Lib.hid (show PgBox w9 w0.heap.size P.kind P.level P.id P.lsn P.next (.slice b k c) from (KG0.out.heap ((below_then HW7.out (alloc_below w7 (.cells #[.string ⟨r.toArray⟩] 9))).block _ HPB.out.lt |>.trans HPB.out) (by omega)))
              obtain ⟨ql, q0, q1, q2, q3, q4, q5⟩ := Q9.out.cells
              have g5 := Q9.out.frozen 5
              clear ho9 hg9 O8 RD q0 q1 q2 q3 q4
              refine hK.out _ _ ?_ (fun hHeld => ?_)
              · trivial
              clear hK K
              (try simp only [Act.put, List.setIfInBounds_toArray, List.set_cons_zero, List.set_cons_succ])
              refine wpAnyH_take (i := 7) (oi := { dst := some 69, op := Go.Op.fieldAddr 26 (Go.Operand.tmp 4) 5, type := 0, pos := "ref.go:79", after := #[{ on := 0, ground := Go.Ground.phase }, { on := 1, ground := Go.Ground.phase }, { on := 2, ground := Go.Ground.phase }, { on := 3, ground := Go.Ground.phase }, { on := 4, ground := Go.Ground.phase }, { on := 5, ground := Go.Ground.phase }, { on := 6, ground := Go.Ground.phase }], guard := none }) (v := ?_) rfl (by kernel_rfl) (by kernel_rfl) (by kernel_rfl) (fun _ _ _ h => h) (Or.inl ⟨by rfl, ?_⟩) hHeld ?_
              rotate_left
              · (intro w hSw; go_simp <;> with_reducible rfl)
              simp only [Act.put, List.setIfInBounds_toArray, List.set_cons_zero, List.set_cons_succ]
              refine wpAnyH_ready (rs := [8]) (by kernel_rfl) (by simp) (AllReadyH.cons (o := { dst := none, op := Go.Op.store 24 (Go.Operand.tmp 69) (Go.Operand.tmp 68), type := 0, pos := "ref.go:79", after := #[{ on := 7, ground := Go.Ground.data }, { on := 6, ground := Go.Ground.data }, { on := 6, ground := Go.Ground.chain }, { on := 0, ground := Go.Ground.phase }, { on := 1, ground := Go.Ground.phase }, { on := 2, ground := Go.Ground.phase }, { on := 3, ground := Go.Ground.phase }, { on := 4, ground := Go.Ground.phase }, { on := 5, ground := Go.Ground.phase }, { on := 6, ground := Go.Ground.phase }], guard := none }) rfl (fun K hK => ?_) AllReadyH.nil)
              · go_simp
                refine hK.out _ _ ?_ (fun hHeld => ?_)
                · trivial
                clear hK K
                (try simp only [Act.put, List.setIfInBounds_toArray, List.set_cons_zero, List.set_cons_succ])
                refine wpAnyH_done (by kernel_rfl) ?_ _
                have hk5 := one_kept w9 w0.heap.size 5 (.slice b9 (k + 1) c9)
                have KQ := Lib.hid (KG.out.trans hk5 (fun _ _ h => .inr h))
                have Q10 := Lib.hid (Q9.out.set5 (.slice b9 (k + 1) c9))
                have O10 := Lib.hid (own_set_far (i := 5) (u := .slice b9 (k + 1) c9) HO9.out (fun j hj e => by have := (HO9.out.lt j hj).1; have e2 : j = w0.heap.size := e; omega))
                have A10 := Lib.hid (HA.out.kept KQ.out (by omega) (by omega) (fun x hx => by have := HV.out x hx; omega))
                have Z10 := Lib.hid (HZ.out.kept KQ.out (by omega))
                have B10 := Lib.hid (OthersKept.below HB.out KQ.out (fun j hj => by omega))
                have hs10 : w5.heap.size ≤ (w9.setCell ⟨w0.heap.size, 5, none⟩ (.slice b9 (k + 1) c9)).heap.size := Nat.le_trans hsz5 KQ.out.size
                go_wp2_with fail
                exact ⟨⟨k + 1, b9, c9, by go_num, by omega, A10, Q10, O10, Z10, B10, hs10⟩, by simp [intOf]; omega⟩
      · go_simp
        refine (GT.out _ (HA.out.below ((Below.refl _ _).drew))).mono ?_
        rintro e w7 ⟨rfl, hb7⟩
        have hbw := below_then ((Below.refl wr.heap.size wr).drew) hb7
        have O7 := Lib.hid (own_below HO.out hbw)
        have HW7 := Lib.hid hbw
        have p57 := keep_cell hbw p5
        have pl7 : w0.heap.size < w7.heap.size := Nat.lt_of_lt_of_le pl hbw.size
        have hsz7 : w5.heap.size ≤ w7.heap.size := Nat.le_trans hsz5 hbw.size
        clear hb7 hbw
        (try simp only)
        refine hK.out _ _ ?_ (fun hHeld => ?_)
        · trivial
        clear hK K
        (try simp only [Act.put, List.setIfInBounds_toArray, List.set_cons_zero, List.set_cons_succ])
        refine wpAnyH_ready (rs := [1, 5]) (by kernel_rfl) (by simp) (AllReadyH.cons (o := { dst := some 63, op := Go.Op.load 24 (Go.Operand.tmp 62), type := 24, pos := "ref.go:79", after := #[{ on := 0, ground := Go.Ground.data }], guard := none }) rfl (fun K hK => ?_) (AllReadyH.cons (o := { dst := some 67, op := Go.Op.buildSlice 24 1 #[(0, Go.Operand.tmp 66)], type := 24, pos := "ref.go:79", after := #[{ on := 4, ground := Go.Ground.data }], guard := none }) rfl (fun K hK => ?_) AllReadyH.nil))
        · go_simp
          refine hK.out _ _ ?_ (fun hHeld => ?_)
          · trivial
          clear hK K
          (try simp only [Act.put, List.setIfInBounds_toArray, List.set_cons_zero, List.set_cons_succ])
          refine wpAnyH_ready (rs := [5]) (by kernel_rfl) (by simp) (AllReadyH.cons (o := { dst := some 67, op := Go.Op.buildSlice 24 1 #[(0, Go.Operand.tmp 66)], type := 24, pos := "ref.go:79", after := #[{ on := 4, ground := Go.Ground.data }], guard := none }) rfl (fun K hK => ?_) AllReadyH.nil)
          · go_simp
            refine hK.out _ _ ?_ (fun hHeld => ?_)
            · trivial
            clear hK K
            (try simp only [Act.put, List.setIfInBounds_toArray, List.set_cons_zero, List.set_cons_succ])
            refine wpAnyH_ready (rs := [6]) (by kernel_rfl) (by simp) (AllReadyH.cons (o := { dst := some 68, op := Go.Op.call { callee := Go.Callee.builtin Go.Builtin.append, args := #[Go.Operand.tmp 63, Go.Operand.tmp 67], argTypes := #[24, 24] }, type := 24, pos := "ref.go:79", after := #[{ on := 1, ground := Go.Ground.data }, { on := 5, ground := Go.Ground.data }, { on := 4, ground := Go.Ground.chain }], guard := none }) rfl (fun K hK => ?_) AllReadyH.nil)
            · have O8 := Lib.hid (O7.out.alloc (.cells #[.string ⟨r.toArray⟩] 9))
              have RD := Lib.hid (reads_one (heap_alloc_new w7 (.cells #[.string ⟨r.toArray⟩] 9)))
              have hs8 : w5.heap.size ≤ (w7.alloc (.cells #[.string ⟨r.toArray⟩] 9)).heap.size := by simp; omega
              refine step_append_any _ rfl (.tmp 63) (.tmp 67) 24 rfl w5.heap.size 9 i0 (.string ⟨#[]⟩) 1 16 Try.underlying24 HI.out HI0.out HI1.out HI2.out rfl (by decide) (.slice b k c) k (strs ((parse bd).texts.take k)) (by rfl) O8.out (.slice (some ⟨w7.heap.size, 0, none⟩) 1 1) 1 (strs [r]) (by rfl) RD.out (strs_oneCell _) (by unfold maxLen; omega) (by omega) hs8 ?_
              intro v9 w9 ho9 hg9
              have KG0 := Lib.hid (grownK (p := fun x => w5.heap.size ≤ x) O8.out hg9 (fun k hk => hk))
              have KG := Lib.hid ((OthersKept.of_below (p := fun x => w5.heap.size ≤ x ∨ x = w0.heap.size) (below_then HW7.out (alloc_below w7 (.cells #[.string ⟨r.toArray⟩] 9)))).trans KG0.out (fun _ _ h => .inl h))
              rw [← strs_append, ← HTS.out] at ho9
              have HO9 := Lib.hid ho9
              obtain ⟨b9, c9, hv9, _, _, _⟩ := own_form ho9
              subst hv9
              have Q9 := Lib.hid (show PgBox w9 w0.heap.size P.kind P.level P.id P.lsn P.next (.slice b k c) from (KG0.out.heap ((below_then HW7.out (alloc_below w7 (.cells #[.string ⟨r.toArray⟩] 9))).block _ HPB.out.lt |>.trans HPB.out) (by omega)))
              obtain ⟨ql, q0, q1, q2, q3, q4, q5⟩ := Q9.out.cells
              have g5 := Q9.out.frozen 5
              clear ho9 hg9 O8 RD q0 q1 q2 q3 q4
              refine hK.out _ _ ?_ (fun hHeld => ?_)
              · trivial
              clear hK K
              (try simp only [Act.put, List.setIfInBounds_toArray, List.set_cons_zero, List.set_cons_succ])
              refine wpAnyH_take (i := 7) (oi := { dst := some 69, op := Go.Op.fieldAddr 26 (Go.Operand.tmp 4) 5, type := 0, pos := "ref.go:79", after := #[{ on := 0, ground := Go.Ground.phase }, { on := 1, ground := Go.Ground.phase }, { on := 2, ground := Go.Ground.phase }, { on := 3, ground := Go.Ground.phase }, { on := 4, ground := Go.Ground.phase }, { on := 5, ground := Go.Ground.phase }, { on := 6, ground := Go.Ground.phase }], guard := none }) (v := ?_) rfl (by kernel_rfl) (by kernel_rfl) (by kernel_rfl) (fun _ _ _ h => h) (Or.inl ⟨by rfl, ?_⟩) hHeld ?_
              rotate_left
              · (intro w hSw; go_simp <;> with_reducible rfl)
              simp only [Act.put, List.setIfInBounds_toArray, List.set_cons_zero, List.set_cons_succ]
              refine wpAnyH_ready (rs := [8]) (by kernel_rfl) (by simp) (AllReadyH.cons (o := { dst := none, op := Go.Op.store 24 (Go.Operand.tmp 69) (Go.Operand.tmp 68), type := 0, pos := "ref.go:79", after := #[{ on := 7, ground := Go.Ground.data }, { on := 6, ground := Go.Ground.data }, { on := 6, ground := Go.Ground.chain }, { on := 0, ground := Go.Ground.phase }, { on := 1, ground := Go.Ground.phase }, { on := 2, ground := Go.Ground.phase }, { on := 3, ground := Go.Ground.phase }, { on := 4, ground := Go.Ground.phase }, { on := 5, ground := Go.Ground.phase }, { on := 6, ground := Go.Ground.phase }], guard := none }) rfl (fun K hK => ?_) AllReadyH.nil)
              · go_simp
                refine hK.out _ _ ?_ (fun hHeld => ?_)
                · trivial
                clear hK K
                (try simp only [Act.put, List.setIfInBounds_toArray, List.set_cons_zero, List.set_cons_succ])
                refine wpAnyH_done (by kernel_rfl) ?_ _
                have hk5 := one_kept w9 w0.heap.size 5 (.slice b9 (k + 1) c9)
                have KQ := Lib.hid (KG.out.trans hk5 (fun _ _ h => .inr h))
                have Q10 := Lib.hid (Q9.out.set5 (.slice b9 (k + 1) c9))
                have O10 := Lib.hid (own_set_far (i := 5) (u := .slice b9 (k + 1) c9) HO9.out (fun j hj e => by have := (HO9.out.lt j hj).1; have e2 : j = w0.heap.size := e; omega))
                have A10 := Lib.hid (HA.out.kept KQ.out (by omega) (by omega) (fun x hx => by have := HV.out x hx; omega))
                have Z10 := Lib.hid (HZ.out.kept KQ.out (by omega))
                have B10 := Lib.hid (OthersKept.below HB.out KQ.out (fun j hj => by omega))
                have hs10 : w5.heap.size ≤ (w9.setCell ⟨w0.heap.size, 5, none⟩ (.slice b9 (k + 1) c9)).heap.size := Nat.le_trans hsz5 KQ.out.size
                go_wp2_with fail
                exact ⟨⟨k + 1, b9, c9, by go_num, by omega, A10, Q10, O10, Z10, B10, hs10⟩, by simp [intOf]; omega⟩
        · go_simp
          refine hK.out _ _ ?_ (fun hHeld => ?_)
          · trivial
          clear hK K
          (try simp only [Act.put, List.setIfInBounds_toArray, List.set_cons_zero, List.set_cons_succ])
          refine wpAnyH_ready (rs := [1]) (by kernel_rfl) (by simp) (AllReadyH.cons (o := { dst := some 63, op := Go.Op.load 24 (Go.Operand.tmp 62), type := 24, pos := "ref.go:79", after := #[{ on := 0, ground := Go.Ground.data }], guard := none }) rfl (fun K hK => ?_) AllReadyH.nil)
          · go_simp
            refine hK.out _ _ ?_ (fun hHeld => ?_)
            · trivial
            clear hK K
            (try simp only [Act.put, List.setIfInBounds_toArray, List.set_cons_zero, List.set_cons_succ])
            refine wpAnyH_ready (rs := [6]) (by kernel_rfl) (by simp) (AllReadyH.cons (o := { dst := some 68, op := Go.Op.call { callee := Go.Callee.builtin Go.Builtin.append, args := #[Go.Operand.tmp 63, Go.Operand.tmp 67], argTypes := #[24, 24] }, type := 24, pos := "ref.go:79", after := #[{ on := 1, ground := Go.Ground.data }, { on := 5, ground := Go.Ground.data }, { on := 4, ground := Go.Ground.chain }], guard := none }) rfl (fun K hK => ?_) AllReadyH.nil)
            · have O8 := Lib.hid (O7.out.alloc (.cells #[.string ⟨r.toArray⟩] 9))
              have RD := Lib.hid (reads_one (heap_alloc_new w7 (.cells #[.string ⟨r.toArray⟩] 9)))
              have hs8 : w5.heap.size ≤ (w7.alloc (.cells #[.string ⟨r.toArray⟩] 9)).heap.size := by simp; omega
              refine step_append_any _ rfl (.tmp 63) (.tmp 67) 24 rfl w5.heap.size 9 i0 (.string ⟨#[]⟩) 1 16 Try.underlying24 HI.out HI0.out HI1.out HI2.out rfl (by decide) (.slice b k c) k (strs ((parse bd).texts.take k)) (by rfl) O8.out (.slice (some ⟨w7.heap.size, 0, none⟩) 1 1) 1 (strs [r]) (by rfl) RD.out (strs_oneCell _) (by unfold maxLen; omega) (by omega) hs8 ?_
              intro v9 w9 ho9 hg9
              have KG0 := Lib.hid (grownK (p := fun x => w5.heap.size ≤ x) O8.out hg9 (fun k hk => hk))
              have KG := Lib.hid ((OthersKept.of_below (p := fun x => w5.heap.size ≤ x ∨ x = w0.heap.size) (below_then HW7.out (alloc_below w7 (.cells #[.string ⟨r.toArray⟩] 9)))).trans KG0.out (fun _ _ h => .inl h))
              rw [← strs_append, ← HTS.out] at ho9
              have HO9 := Lib.hid ho9
              obtain ⟨b9, c9, hv9, _, _, _⟩ := own_form ho9
              subst hv9
              have Q9 := Lib.hid (show PgBox w9 w0.heap.size P.kind P.level P.id P.lsn P.next (.slice b k c) from (KG0.out.heap ((below_then HW7.out (alloc_below w7 (.cells #[.string ⟨r.toArray⟩] 9))).block _ HPB.out.lt |>.trans HPB.out) (by omega)))
              obtain ⟨ql, q0, q1, q2, q3, q4, q5⟩ := Q9.out.cells
              have g5 := Q9.out.frozen 5
              clear ho9 hg9 O8 RD q0 q1 q2 q3 q4
              refine hK.out _ _ ?_ (fun hHeld => ?_)
              · trivial
              clear hK K
              (try simp only [Act.put, List.setIfInBounds_toArray, List.set_cons_zero, List.set_cons_succ])
              refine wpAnyH_take (i := 7) (oi := { dst := some 69, op := Go.Op.fieldAddr 26 (Go.Operand.tmp 4) 5, type := 0, pos := "ref.go:79", after := #[{ on := 0, ground := Go.Ground.phase }, { on := 1, ground := Go.Ground.phase }, { on := 2, ground := Go.Ground.phase }, { on := 3, ground := Go.Ground.phase }, { on := 4, ground := Go.Ground.phase }, { on := 5, ground := Go.Ground.phase }, { on := 6, ground := Go.Ground.phase }], guard := none }) (v := ?_) rfl (by kernel_rfl) (by kernel_rfl) (by kernel_rfl) (fun _ _ _ h => h) (Or.inl ⟨by rfl, ?_⟩) hHeld ?_
              rotate_left
              · (intro w hSw; go_simp <;> with_reducible rfl)
              simp only [Act.put, List.setIfInBounds_toArray, List.set_cons_zero, List.set_cons_succ]
              refine wpAnyH_ready (rs := [8]) (by kernel_rfl) (by simp) (AllReadyH.cons (o := { dst := none, op := Go.Op.store 24 (Go.Operand.tmp 69) (Go.Operand.tmp 68), type := 0, pos := "ref.go:79", after := #[{ on := 7, ground := Go.Ground.data }, { on := 6, ground := Go.Ground.data }, { on := 6, ground := Go.Ground.chain }, { on := 0, ground := Go.Ground.phase }, { on := 1, ground := Go.Ground.phase }, { on := 2, ground := Go.Ground.phase }, { on := 3, ground := Go.Ground.phase }, { on := 4, ground := Go.Ground.phase }, { on := 5, ground := Go.Ground.phase }, { on := 6, ground := Go.Ground.phase }], guard := none }) rfl (fun K hK => ?_) AllReadyH.nil)
              · go_simp
                refine hK.out _ _ ?_ (fun hHeld => ?_)
                · trivial
                clear hK K
                (try simp only [Act.put, List.setIfInBounds_toArray, List.set_cons_zero, List.set_cons_succ])
                refine wpAnyH_done (by kernel_rfl) ?_ _
                have hk5 := one_kept w9 w0.heap.size 5 (.slice b9 (k + 1) c9)
                have KQ := Lib.hid (KG.out.trans hk5 (fun _ _ h => .inr h))
                have Q10 := Lib.hid (Q9.out.set5 (.slice b9 (k + 1) c9))
                have O10 := Lib.hid (own_set_far (i := 5) (u := .slice b9 (k + 1) c9) HO9.out (fun j hj e => by have := (HO9.out.lt j hj).1; have e2 : j = w0.heap.size := e; omega))
                have A10 := Lib.hid (HA.out.kept KQ.out (by omega) (by omega) (fun x hx => by have := HV.out x hx; omega))
                have Z10 := Lib.hid (HZ.out.kept KQ.out (by omega))
                have B10 := Lib.hid (OthersKept.below HB.out KQ.out (fun j hj => by omega))
                have hs10 : w5.heap.size ≤ (w9.setCell ⟨w0.heap.size, 5, none⟩ (.slice b9 (k + 1) c9)).heap.size := Nat.le_trans hsz5 KQ.out.size
                go_wp2_with fail
                exact ⟨⟨k + 1, b9, c9, by go_num, by omega, A10, Q10, O10, Z10, B10, hs10⟩, by simp [intOf]; omega⟩
    · obtain rfl : k = n := by omega
      have hall : (parse bd).texts.take k = P.rows := by rw [HPR.out, List.take_of_length_le (by rw [← HNT.out]; exact Nat.le_refl _)]
      rw [hall] at HO
      have TX := texts_own HO.out
      have hpw : weightB P.rows ≤ 488 := by rw [HPR.out]; exact HWT.out
      have EC := Lib.hid fun W (hW : TextsAt W (.slice b k c) P.rows) => refEncode06_any P (.slice b k c) W HPW.out hW (by omega)
      have TXH := Lib.hid TX.1
      obtain ⟨E, hE⟩ : ∃ E, E = pgEnc P := ⟨_, rfl⟩
      rw [← hE] at EC
      have HE := Lib.hid hE
      unfold pgV at EC
      clear TX hall hE HN HNT HI HI0 HI1 HI2
      obtain ⟨back, er⟩ := E
      simp only at EC
      go_wp2_with fail
      refine (EC.out _ TXH.out).mono ?_
      rintro e w8 ⟨rfl, hb⟩
      have P8 := Lib.hid (HPB.out.below hb)
      have Z8 := Lib.hid (HZ.out.below hb)
      have T8 := Lib.hid (TXH.out.below hb)
      have B8 := Lib.hid (below_then HB.out hb)
      clear hb a2 a2l pl p0 p1 p2 p3 p4 p5 EC HA HPB HO HZ HB TXH
      by_cases hmay : P.may = true
      case neg =>
        have HX : Hid (R = (Pg.zero, 60)) := by
          show _ = _
          rw [HR.out]
          exact pgDec_no fun h => hmay (by rw [HP.out]; exact h.2.2.1)
        have he : er = 2 := by have h := HE.out; unfold pgEnc at h; rw [if_neg hmay] at h; exact (Prod.mk.inj h).2
        subst he
        have e2 : ((2 : Int) != 0) = true := rfl
        obtain ⟨zl, z0, z1, z2, z3, z4, z5⟩ := Z8.out.cells
        obtain ⟨f0, f1, f2, f3, f4, f5⟩ := Z8.out.fr
        have XB := Lib.hid (Z8.out.put 0 0 0 0 0 (.slice none 0 0))
        have XK := Lib.hid (OthersKept.below B8.out (setPg_kept w8 w.heap.size 0 0 0 0 0 (.slice none 0 0)) (fun k hk e => by omega))
        go_wp2_with fail
        refine bodyPost_ret (v := .tuple #[.agg #[.int .u8 (0 : Nat), .int .u8 (0 : Nat), .int .u32 (0 : Nat), .int .u64 (0 : Nat), .int .u32 (0 : Nat), .slice none 0 0], .int .i64 60]) (results_pg (p := 2) (u := 3) (by kernel_rfl) _ _ rfl XB.out) rfl ?_
        exact PgPost.no HX.out XK.out
      have hee : back = encPg P ∧ er = 0 := by have h := HE.out; unfold pgEnc at h; rw [if_pos hmay] at h; exact Prod.mk.inj h
      obtain ⟨hbk, rfl⟩ := hee
      have e2 : ((0 : Int) != 0) = false := rfl
      by_cases hbl : back = l
      case neg =>
        have HX : Hid (R = (Pg.zero, 60)) := by
          show _ = _
          rw [HR.out]
          exact pgDec_no fun h => hbl (by rw [hbk, HP.out]; exact h.2.2.2)
        have r1 : (back == l) = false := by simpa using hbl
        have r2 : (!(back == l)) = true := by simpa using hbl
        clear hbl hbk
        obtain ⟨zl, z0, z1, z2, z3, z4, z5⟩ := Z8.out.cells
        obtain ⟨f0, f1, f2, f3, f4, f5⟩ := Z8.out.fr
        have XB := Lib.hid (Z8.out.put 0 0 0 0 0 (.slice none 0 0))
        have XK := Lib.hid (OthersKept.below B8.out (setPg_kept w8 w.heap.size 0 0 0 0 0 (.slice none 0 0)) (fun k hk e => by omega))
        go_wp2_with fail
        refine bodyPost_ret (v := .tuple #[.agg #[.int .u8 (0 : Nat), .int .u8 (0 : Nat), .int .u32 (0 : Nat), .int .u64 (0 : Nat), .int .u32 (0 : Nat), .slice none 0 0], .int .i64 60]) (results_pg (p := 2) (u := 3) (by kernel_rfl) _ _ rfl XB.out) rfl ?_
        exact PgPost.no HX.out XK.out
      have HX : Hid (R = (P, 0)) := by
        show _ = _
        rw [HR.out, HP.out]
        refine pgDec_ok ⟨h512, ?_, ?_, ?_⟩
        · rw [← HBD.out]; exact hgd
        · rw [← HP.out]; exact hmay
        · rw [← HP.out, ← hbk]; exact hbl
      have r1 : (back == l) = true := by simpa using hbl
      have r2 : (!(back == l)) = false := by simpa using hbl
      clear hbk hbl
      obtain ⟨pl, p0, p1, p2, p3, p4, p5⟩ := P8.out.cells
      obtain ⟨zl, z0, z1, z2, z3, z4, z5⟩ := Z8.out.cells
      obtain ⟨f0, f1, f2, f3, f4, f5⟩ := Z8.out.fr
      have XB := Lib.hid (Z8.out.put P.kind P.level P.id P.lsn P.next (.slice b k c))
      have XKK := Lib.hid (setPg_kept w8 w.heap.size P.kind P.level P.id P.lsn P.next (.slice b k c))
      have XK := Lib.hid (OthersKept.below B8.out XKK.out (fun j hj e => by omega))
      go_wp2_with fail
      refine bodyPost_ret (v := .tuple #[.agg #[.int .u8 P.kind, .int .u8 P.level, .int .u32 P.id, .int .u64 P.lsn, .int .u32 P.next, .slice b k c], .int .i64 0]) (results_pg (p := 2) (u := 3) (by kernel_rfl) _ _ rfl XB.out) rfl ?_
      refine ⟨.slice b k c, by rw [HX.out]; rfl, ?_, XK.out⟩
      rw [HX.out]
      exact texts_page6 Z8.out T8.out XKK.out (fun _ x e => by cases e)

end Go.Proofs.Ytienlhnbmobinaa
