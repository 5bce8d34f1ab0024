/- Kept of our texts for this claim: SegAll SegHist SegCommit -/
import Derived.Test.YtienlhnbmobinaaGreatRows
import Derived.Test.YtienlhnbmobinaaGreatAdAt
import Derived.Test.YtienlhnbmobinaaGreatAdAz
import Derived.Test.YtienlhnbmobinaaGreatAdAs
import Derived.Test.YtienlhnbmobinaaGreatAdAa
import Derived.Test.YtienlhnbmobinaaGreatAdAc
import Derived.Test.YtienlhnbmobinaaGreatAdAb
import Derived.Test.YtienlhnbmobinaaGreatAdAk
import Derived.Test.YtienlhnbmobinaaGreatAdBa
import Derived.Deep.CutBlock
import Derived.WalkKit
import Derived.WalkLawsBesides
import Derived.WalkSpells
import Derived.LoopTactic
import Derived.WalkMore
import Derived.LoopN
import Derived.Laws.BitsAllLaws
import Derived.Laws.IdiomStrings
import Derived.BigQuiet
import Derived.Deep.QuietTactic
import Derived.Deep.DeepCutAuto
import Derived.Deep.RegionHeld3
import Derived.Deep.DrawnRows
import Derived.Lib.Hide
import Derived.Outline
import Derived.Deep.DeepMust
import Derived.Handy
import Derived.Deep.LoopGhost
import Derived.Test.YtienlhnbmobinaaGreatAdAu
import Derived.Test.YtienlhnbmobinaaGreatAdAr
import Derived.Test.YtienlhnbmobinaaGreatAdAq
import Derived.Test.YtienlhnbmobinaaGreatAdAl
section
/- chapter 22: the rows of a state, of pages (seg.all) -/
namespace Go.Proofs.YtienlhnbmobinaaGreat
open Go.RowKit
set_option linter.unusedVariables false
set_option linter.unusedSimpArgs false
/-- The rows of a state, of all pages that are head pages. -/
def pickS (st : Nat) (L : List Sg) : List Sg := L.filter fun s => decide (s.st = st)
def allB (st : Nat) (ps : List Pg) : List Sg := ps.flatMap fun p => pickS st ((segsB p).getD [])
theorem allB_next {st i : Nat} {ps : List Pg} (h : i < ps.length) : allB st (ps.take (i + 1)) = allB st (ps.take i) ++ pickS st ((segsB ps[i]).getD []) := by
  unfold allB
  rw [List.take_succ_eq_append_getElem h, List.flatMap_append]
  simp
theorem pickS_next {st j : Nat} {L : List Sg} (h : j < L.length) : pickS st (L.take (j + 1)) = pickS st (L.take j) ++ if L[j].st = st then [L[j]] else [] := by
  unfold pickS
  rw [List.take_succ_eq_append_getElem h, List.filter_append]
  congr 1
  by_cases hs : L[j].st = st
  · rw [if_pos hs]; simp [hs]
  · rw [if_neg hs]; simp [hs]
/-- Pages that stand in a row. -/
def PgsIn (w : World) (v : Value) (ps : List (Pg × Value)) : Prop := ∃ g, v = .slice (some ⟨g, 0, none⟩) ps.length ps.length ∧ g < w.heap.size ∧
  ∀ j (h : j < ps.length), TextsAt w ps[j].2 ps[j].1.rows ∧ w.cell? ⟨g, j * 6, none⟩ = some (.int .u8 ps[j].1.kind) ∧ w.cell? ⟨g, j * 6 + 1, none⟩ = some (.int .u8 ps[j].1.level) ∧ w.cell? ⟨g, j * 6 + 2, none⟩ = some (.int .u32 ps[j].1.id) ∧ w.cell? ⟨g, j * 6 + 3, none⟩ = some (.int .u64 ps[j].1.lsn) ∧ w.cell? ⟨g, j * 6 + 4, none⟩ = some (.int .u32 ps[j].1.next) ∧ w.cell? ⟨g, j * 6 + 5, none⟩ = some ps[j].2
theorem PgsIn.below {w w' : World} {v : Value} {ps : List (Pg × Value)} (h : PgsIn w v ps) (hb : Below w.heap.size w w') : PgsIn w' v ps := by
  obtain ⟨g, h1, h2, h3⟩ := h
  refine ⟨g, h1, Nat.lt_of_lt_of_le h2 hb.size, fun j hj => ?_⟩
  obtain ⟨a, b, c, d, e, f, k⟩ := h3 j hj
  have hc : ∀ i, w'.cell? ⟨g, i, none⟩ = w.cell? ⟨g, i, none⟩ := fun i => hb.cell (p := ⟨g, i, none⟩) h2
  exact ⟨a.below hb, by rw [hc]; exact b, by rw [hc]; exact c, by rw [hc]; exact d, by rw [hc]; exact e, by rw [hc]; exact f, by rw [hc]; exact k⟩
theorem SegsAt.grown {w w' : World} {v : Value} {L : List Sg} {r : Option Nat} (h : SegsAt w v L) (hg : w.grownBy w' r) (hne : ∀ q, v.ownBlock = some q → some q ≠ r) : SegsAt w' v L := by
  obtain ⟨A, cp, h1, h2, h3, h4⟩ := h
  refine ⟨A, cp, h1, h2, h3, fun h0 => ?_⟩
  obtain ⟨b, o, e1, e2, e3⟩ := h4 h0
  have hb := hg.block b e2 (hne b (by rw [h1, e1]; rfl))
  refine ⟨b, o, e1, Nat.lt_of_lt_of_le e2 hg.size, fun j hj i u hu => ?_⟩
  have := e3 j hj i u hu
  simp only [World.cell?, hb] at this ⊢
  exact this
theorem seg_news (w : World) (s : Sg) : ∀ j u, s.cell[j]? = some u → (w.alloc (.cells s.cell.toArray 52)).cell? ((⟨w.heap.size, 0, none⟩ : Addr).add j) = some u := by
  intro j u hu
  rw [Addr.add_lit, show 0 + j = j by omega, blk_cell (heap_alloc_new w _)]
  simpa using hu
set_option maxHeartbeats 8000000 in
set_option maxRecDepth 100000 in
theorem segAll_any (ps : List (Pg × Value)) (st : Nat) (v : Value) (w : World) (hv : PgsIn w v ps) (hwf : ∀ e ∈ ps, e.1.wf ∧ weightB e.1.rows ≤ 1000000) (hn : ps.length ≤ 100) :
    Calls Tryz.prog 37 #[v, .int .u8 st] w fun e w' => ∃ u, e = .returned u ∧ OwnSegs w' w.heap.size u (allB st (ps.map Prod.fst)) ∧ Below w.heap.size w w' := by
  have HV := Lib.hid hv
  obtain ⟨g, rfl, hg, _⟩ := hv
  obtain ⟨n, hnn⟩ : ∃ n, n = ps.length := ⟨_, rfl⟩
  rw [← hnn] at hn HV ⊢
  have HN := Lib.hid hnn
  have HW := Lib.hid hwf
  clear hnn hwf
  obtain ⟨i0, hif, hz0, hz1, hz2⟩ := info_parts Tryz.infoSeg
  have HI := Lib.hid hif
  have HI0 := Lib.hid hz0
  have HI1 := Lib.hid hz1
  have HI2 := Lib.hid hz2
  clear hif hz0 hz1 hz2
  go_enter Tryz.func37, Tryz.ntmps37
  go_wp2_with fail
  go_step3
  go_wp2_with fail
  (first | go_step3 | skip)
  go_wp2_with fail
  go_loopw [4, 13] (fun s4 s13 wr => ∃ i : Nat, s13 = .int .i64 i ∧ i ≤ n ∧ Hid (OwnSegs wr w.heap.size s4 (allB st ((ps.map Prod.fst).take i))) ∧ Hid ((allB st ((ps.map Prod.fst).take i)).length ≤ 1000000 * i) ∧ Hid (Below w.heap.size w wr)) (fun _ v _ => n - (intOf v).toNat)
  case atStart => exact ⟨0, rfl, Nat.zero_le _, Lib.hid (OwnSegs.nil _ _), Lib.hid (by simp [allB]), Lib.hid (Below.refl _ _)⟩
  case round =>
    obtain ⟨i, rfl, hi, OO, LL, BB⟩ := hrel
    by_cases hlt : i < n
    · have hci : (i : Int) < (n : Int) := by omega
      have hc0 : (0 : Int) ≤ (i : Int) := by omega
      have hip : i < ps.length := by rw [← HN.out]; exact hlt
      obtain ⟨g2, hv2, hg2, hcells⟩ := HV.out.below BB.out
      have hgg : g = g2 := by injection hv2 with e1; injection e1 with e2; injection e2
      subst hgg
      obtain ⟨htx, k0, k1, k2, k3, k4, k5⟩ := hcells i hip
      obtain ⟨hpw, hpb⟩ := HW.out _ (List.getElem_mem hip)
      have hnx := allB_next (st := st) (ps := ps.map Prod.fst) (i := i) (by rw [List.length_map]; exact hip)
      rw [List.getElem_map] at hnx
      have hlenL : ((segsB ps[i].1).getD []).length ≤ 1000000 := by
        cases hs : segsB ps[i].1 with
        | none => simp
        | some L =>
          have := seg_len_of (by have := weightB_length ps[i].1.rows; omega) hs
          simpa using this
      have HP := Lib.hid fun sv W (h : TextsAt W sv ps[i].1.rows) => segRows_any ps[i].1 sv W hpw h hpb
      have HTX := Lib.hid htx
      clear hcells hv2
      generalize (allB st ((ps.map Prod.fst).take i)) = acc at *
      generalize ps[i] = e at *
      obtain ⟨⟨kind, level, id, lsn, next, rows⟩, pv⟩ := e
      unfold pgV at HP
      simp only at HP HTX k0 k1 k2 k3 k4 k5 hnx hlenL
      generalize segsB ⟨kind, level, id, lsn, next, rows⟩ = R at *
      obtain ⟨PA, pc, hpv, _, _, _, _⟩ := HTX.out
      obtain ⟨pn, hpn⟩ : ∃ z, z = rows.length := ⟨_, rfl⟩
      rw [← hpn] at hpv
      subst hpv
      clear hpn hpw hpb htx hip
      have HNX := Lib.hid hnx
      have HLL := Lib.hid hlenL
      clear hnx hlenL
      have B2 := Lib.hid (BB.out.alloc BB.out.size (.cells #[.int .u8 kind, .int .u8 level, .int .u32 id, .int .u64 lsn, .int .u32 next, .slice PA pn pc] 26))
      have O2 := Lib.hid (OO.out.below (alloc_below wr (.cells #[.int .u8 kind, .int .u8 level, .int .u32 id, .int .u64 lsn, .int .u32 next, .slice PA pn pc] 26)))
      have T2 := Lib.hid (HTX.out.below (alloc_below wr (.cells #[.int .u8 kind, .int .u8 level, .int .u32 id, .int .u64 lsn, .int .u32 next, .slice PA pn pc] 26)))
      have P2 := Lib.hid (PgBox.new wr kind level id lsn next (.slice PA pn pc))
      have hlt2 : wr.heap.size < (wr.alloc (.cells #[.int .u8 kind, .int .u8 level, .int .u32 id, .int .u64 lsn, .int .u32 next, .slice PA pn pc] 26)).heap.size := by simp
      go_upto_region 4 with fail
      generalize wr.alloc (.cells #[.int .u8 kind, .int .u8 level, .int .u32 id, .int .u64 lsn, .int .u32 next, .slice PA pn pc] 26) = w2 at *
      clear k0 k1 k2 k3 k4 k5 BB OO HTX
      obtain ⟨g6, hg6⟩ : ∃ z, z = wr.heap.size := ⟨_, rfl⟩
      rw [← hg6] at P2 hlt2 ⊢
      clear hg6
      obtain ⟨p0, p1, p2, p3, p4, p5, p6⟩ := P2.out.cells
      go_wp2_with fail
      refine (HP.out _ _ T2.out).mono ?_
      rintro e w3 ⟨vL, rfl, hOL, hb⟩
      have B3 := Lib.hid (B2.out.trans (hb.mono B2.out.size))
      have O3 := Lib.hid (O2.out.below hb)
      have F3 : Hid (∀ k, u4.ownBlock = some k → k < w2.heap.size ∨ w3.heap.size ≤ k) := fun k hk => .inl (O2.out.lt k hk).2
      have V3 := Lib.hid hOL.at_
      have Q3 : Hid (∀ q, vL.ownBlock = some q → w2.heap.size ≤ q ∧ q < w3.heap.size) := fun q hq => hOL.lt q hq
      clear hb hOL B2 O2 T2 P2 p0 p1 p2 p3 p4 p5 p6 HP
      cases R with
      | none =>
        simp only [Option.isSome_none, Option.getD_none] at *
        (try simp only [Bool.false_eq_true, if_false] at *)
        have hac : Hid ((allB st ((ps.map Prod.fst).take (i + 1))) = acc) := by show (allB st ((ps.map Prod.fst).take (i + 1))) = acc; rw [HNX.out]; simp [pickS]
        clear V3 Q3 F3
        go_wp2_with fail
        exact ⟨⟨i + 1, by go_num, by omega, by rw [hac.out]; exact O3, Lib.hid (by rw [hac.out]; have := LL.out; omega), B3⟩, by simp [intOf]; omega⟩
      | some L =>
        simp only [Option.isSome_some, Option.getD_some, if_true] at *
        obtain ⟨m, hm⟩ : ∃ z, z = L.length := ⟨_, rfl⟩
        obtain ⟨A2, cp2, hvL, _, _, h52⟩ := V3.out
        rw [← hm] at hvL
        subst hvL
        clear h52
        have hm6 : m ≤ 1000000 := by rw [hm]; exact HLL.out
        have HM := Lib.hid hm
        clear hm
        go_wp2_with fail
        go_loopw [4, 26] (fun t4 t26 wx => ∃ j : Nat, t26 = .int .i64 j ∧ j ≤ m ∧ Hid (OwnSegs wx w.heap.size t4 (acc ++ pickS st (L.take j))) ∧ Hid (∀ k, t4.ownBlock = some k → k < w2.heap.size ∨ w3.heap.size ≤ k) ∧ Hid (SegsAt wx (.slice A2 m cp2) L) ∧ w3.heap.size ≤ wx.heap.size ∧ Hid (Below w.heap.size w wx)) (fun _ v _ => m - (intOf v).toNat)
        case atStart => exact ⟨0, rfl, Nat.zero_le _, Lib.hid (by simpa [pickS] using O3.out), F3, Lib.hid V3.out, Nat.le_refl _, B3⟩
        case round =>
          clear O3 B3 V3 F3
          obtain ⟨j, rfl, hj, OX, FX, VX, hsx, BX⟩ := hrel
          by_cases hjm : j < m
          · have hjl : j < L.length := by rw [← HM.out]; exact hjm
            have hji : (j : Int) < (m : Int) := by omega
            have hj0 : (0 : Int) ≤ (j : Int) := by omega
            obtain ⟨A4, cp4, hv4, _, _, h54⟩ := VX.out
            obtain ⟨b0, o0, hA4, hb0, hcell⟩ := h54 (by omega)
            have hAA : A2 = some ⟨b0, o0, none⟩ := by injection hv4 with e1; exact e1.trans hA4
            subst hAA
            clear hv4 hA4 h54
            have k0 := hcell j hjl 0 _ rfl
            have k1 := hcell j hjl 1 _ rfl
            have k2 := hcell j hjl 2 _ rfl
            have k3 := hcell j hjl 3 _ rfl
            have k4 := hcell j hjl 4 _ rfl
            have k5 := hcell j hjl 5 _ rfl
            have k6 := hcell j hjl 6 _ rfl
            have HPN := Lib.hid (pickS_next (st := st) hjl)
            have HPL : Hid ((acc ++ pickS st (L.take j)).length ≤ 1000000 * i + 1000000) := by
              show _ ≤ _
              rw [List.length_append]
              have h1 := LL.out
              have h2 := List.length_filter_le (fun s : Sg => decide (s.st = st)) (L.take j)
              have h3 : (L.take j).length ≤ 1000000 := by rw [List.length_take]; omega
              unfold pickS
              omega
            clear hcell
            generalize L[j] = y at *
            clear hjl
            obtain ⟨x0, x1, x2, x3, x4, x5, x6⟩ := y
            simp only [Nat.add_zero] at k0 k1 k2 k3 k4 k5 k6 HPN
            have B4 := Lib.hid (BX.out.alloc BX.out.size (.cells #[.int .u64 x0, .int .u8 x1, .int .u64 x2, .int .u32 x3, .int .u32 x4, .int .u32 x5, .int .u16 x6] 52))
            have O4 := Lib.hid (OX.out.below (alloc_below wr (.cells #[.int .u64 x0, .int .u8 x1, .int .u64 x2, .int .u32 x3, .int .u32 x4, .int .u32 x5, .int .u16 x6] 52)))
            have V4 := Lib.hid (VX.out.below (alloc_below wr (.cells #[.int .u64 x0, .int .u8 x1, .int .u64 x2, .int .u32 x3, .int .u32 x4, .int .u32 x5, .int .u16 x6] 52)))
            have S4 : Hid (SgBox (wr.alloc (.cells #[.int .u64 x0, .int .u8 x1, .int .u64 x2, .int .u32 x3, .int .u32 x4, .int .u32 x5, .int .u16 x6] 52)) wr.heap.size ⟨x0, x1, x2, x3, x4, x5, x6⟩) := heap_alloc_new wr _
            have hsx4 : w3.heap.size ≤ (wr.alloc (.cells #[.int .u64 x0, .int .u8 x1, .int .u64 x2, .int .u32 x3, .int .u32 x4, .int .u32 x5, .int .u16 x6] 52)).heap.size := by simp; omega
            go_upto_region 9 with fail
            generalize wr.alloc (.cells #[.int .u64 x0, .int .u8 x1, .int .u64 x2, .int .u32 x3, .int .u32 x4, .int .u32 x5, .int .u16 x6] 52) = w4 at *
            obtain ⟨gX, hgX⟩ : ∃ z, z = wr.heap.size := ⟨_, rfl⟩
            rw [← hgX] at S4 ⊢
            clear hgX k0 k1 k2 k3 k4 k5 k6 BX OX VX hsx
            obtain ⟨sl, s0, s1, s2, s3, s4', s5, s6⟩ := S4.out.cells
            simp only at s0 s1 s2 s3 s4' s5 s6
            by_cases hst : x1 = st
            · have hsi : ((x1 : Int) == (st : Int)) = true := by simp [hst]
              obtain ⟨e, he⟩ : ∃ e : Sg, e = ⟨x0, x1, x2, x3, x4, x5, x6⟩ := ⟨_, rfl⟩
              have HP2 : Hid (acc ++ pickS st (L.take (j + 1)) = (acc ++ pickS st (L.take j)) ++ [e]) := by
                show _ = _
                rw [HPN.out, if_pos hst, he, List.append_assoc]
              have hE : Hid (#[.int .u64 x0, .int .u8 x1, .int .u64 x2, .int .u32 x3, .int .u32 x4, .int .u32 x5, .int .u16 x6] = e.cell.toArray) := by show _ = _; rw [he]; rfl
              have O5 := Lib.hid (O4.out.below (alloc_below w4 (.cells #[.int .u64 x0, .int .u8 x1, .int .u64 x2, .int .u32 x3, .int .u32 x4, .int .u32 x5, .int .u16 x6] 52)))
              have V5 := Lib.hid (V4.out.below (alloc_below w4 (.cells #[.int .u64 x0, .int .u8 x1, .int .u64 x2, .int .u32 x3, .int .u32 x4, .int .u32 x5, .int .u16 x6] 52)))
              have B5 := Lib.hid (B4.out.alloc B4.out.size (.cells #[.int .u64 x0, .int .u8 x1, .int .u64 x2, .int .u32 x3, .int .u32 x4, .int .u32 x5, .int .u16 x6] 52))
              have RE : Hid (∀ j u, e.cell[j]? = some u → (w4.alloc (.cells #[.int .u64 x0, .int .u8 x1, .int .u64 x2, .int .u32 x3, .int .u32 x4, .int .u32 x5, .int .u16 x6] 52)).cell? ((⟨w4.heap.size, 0, none⟩ : Addr).add j) = some u) := by
                show ∀ j u, _
                rw [hE.out]
                exact seg_news w4 e
              have hs5 : w.heap.size ≤ (w4.alloc (.cells #[.int .u64 x0, .int .u8 x1, .int .u64 x2, .int .u32 x3, .int .u32 x4, .int .u32 x5, .int .u16 x6] 52)).heap.size := B5.out.size
              have hsx5 : w3.heap.size ≤ (w4.alloc (.cells #[.int .u64 x0, .int .u8 x1, .int .u64 x2, .int .u32 x3, .int .u32 x4, .int .u32 x5, .int .u16 x6] 52)).heap.size := by simp; omega
              generalize hlenA : (acc ++ pickS st (L.take j)).length = la at *
              have HLA := Lib.hid hlenA
              have hla : la ≤ 1000000 * i + 1000000 := HPL.out
              clear he hst HPN HPL O4 V4 B4 hlenA
              go_wp2_with (at_builtin; refine wpList_append_two rfl _ _ 60 rfl w.heap.size 52 i0 (.agg #[.int .u64 0, .int .u8 0, .int .u64 0, .int .u32 0, .int .u32 0, .int .u32 0, .int .u16 0]) 7 40 Tryz.underlying60 HI.out HI0.out HI1.out HI2.out rfl (by decide) _ _ _ (by rfl) O5.out ⟨w4.heap.size, 0, none⟩ 1 1 e.cell (by rfl) rfl RE.out (sg_one e) (by rw [HLA.out]; unfold maxLen; omega) (by rw [HLA.out]; omega) hs5 ?_; intro v' w6 hown6 hgrow6 hblk6; have O6 := Lib.hid (OwnSegs.snoc hown6); have B6 := Lib.hid (B5.out.grown hgrow6 hs5 (fun j hj => by have := (O5.out.lt j hj).1; omega)); have V6 := Lib.hid (V5.out.grown hgrow6 (fun q hq e => by have h1 := Q3.out q hq; have h2 := FX.out q e.symm; omega)); have F6 : Hid (∀ k, v'.ownBlock = some k → k < w2.heap.size ∨ w3.heap.size ≤ k) := (fun k hk => by rcases hblk6 with h | h; exact FX.out k (h.symm.trans hk); exact .inr (by have h9 := h.symm.trans hk; injection h9 with h9; omega)); have hs6 : w3.heap.size ≤ w6.heap.size := Nat.le_trans hsx5 hgrow6.size; clear hown6 hgrow6 hblk6)
              exact ⟨⟨j + 1, by go_num, by omega, by rw [HP2.out]; exact O6, F6, V6, hs6, B6⟩, by simp [intOf]; omega⟩
            · have hsi : ((x1 : Int) == (st : Int)) = false := by simp; omega
              have HP2 : Hid (acc ++ pickS st (L.take (j + 1)) = acc ++ pickS st (L.take j)) := by
                show _ = _
                rw [HPN.out, if_neg hst, List.append_nil]
              clear HPN hst
              go_wp2_with fail
              exact ⟨⟨j + 1, by go_num, by omega, by rw [HP2.out]; exact O4, FX, V4, hsx4, B4⟩, by simp [intOf]; omega⟩
          · have hji : ¬ (j : Int) < (m : Int) := by omega
            have hac : Hid ((allB st ((ps.map Prod.fst).take (i + 1))) = acc ++ pickS st (L.take j)) := by show (allB st ((ps.map Prod.fst).take (i + 1))) = _; rw [HNX.out, List.take_of_length_le (by rw [← HM.out]; omega)]
            have HL2 : Hid ((allB st ((ps.map Prod.fst).take (i + 1))).length ≤ 1000000 * (i + 1)) := by
              show _ ≤ _
              rw [HNX.out, List.length_append]
              have h1 := LL.out
              have h2 := List.length_filter_le (fun s : Sg => decide (s.st = st)) L
              have h3 := HLL.out
              unfold pickS
              omega
            go_wp2_with fail
            exact ⟨⟨i + 1, by go_num, by omega, by rw [hac.out]; exact OX, HL2, BX⟩, by simp [intOf]; omega⟩
    · have hci : ¬ (i : Int) < (n : Int) := by omega
      have hall : Hid ((ps.map Prod.fst).take i = ps.map Prod.fst) := by show _ = _; exact List.take_of_length_le (by rw [List.length_map, ← HN.out]; omega)
      go_wp2_with fail
      (try rw [Exit.noGoto_ret])
      go_ret
      exact ⟨_, rfl, by have h := OO.out; rw [hall.out] at h; exact h, BB.out⟩
end Go.Proofs.YtienlhnbmobinaaGreat
end

section
/- chapter 22: History, Active -/
namespace Go.Proofs.YtienlhnbmobinaaGreat
open Go.RowKit
set_option linter.unusedVariables false
set_option linter.unusedSimpArgs false
theorem OwnSegs.parts {w : World} {base : Nat} {v : Value} {L : List Sg} (h : OwnSegs w base v L) : (v = .slice none 0 0 ∧ L = []) ∨ ∃ g cp, v = .slice (some ⟨g, 0, none⟩) L.length cp ∧ base ≤ g ∧ RowS w g L.length cp L.toArray := by
  obtain ⟨hl, h1⟩ := h
  rcases h1 with ⟨rfl, h0'⟩ | ⟨g, cap, cur, rfl, hg, hb, hn, hc, hz, ht⟩
  · exact .inl ⟨rfl, List.eq_nil_of_length_eq_zero h0'⟩
  · refine .inr ⟨g, cap, rfl, hg, by simp, ⟨hn, hc⟩, cur, hb, fun j hj i v hv => ?_⟩
    rw [getElem!_pos _ j (by simpa using hj)] at hv
    have h3 := flat_getS L j i v hj (by simpa using hv)
    rw [← ht, List.getElem?_take] at h3
    split at h3
    · simpa using h3
    · cases h3
set_option maxHeartbeats 4000000 in
set_option maxRecDepth 100000 in
theorem segHistory_any (ps : List (Pg × Value)) (v : Value) (w : World) (hv : PgsIn w v ps) (hwf : ∀ e ∈ ps, e.1.wf ∧ weightB e.1.rows ≤ 1000000) (hn : ps.length ≤ 100) (h20 : (allB 2 (ps.map Prod.fst)).length < 20) :
    Calls Tryz.prog 19 #[v] w fun e w' => ∃ u H, e = .returned u ∧ SegsAt w' u H ∧ H.Perm (allB 2 (ps.map Prod.fst)) ∧ H.Pairwise (fun a b => cmpHL b a = false) ∧ Below w.heap.size w w' := by
  have CA := Lib.hid fun W h => segAll_any ps 2 v W h hwf hn
  have HV := Lib.hid hv
  clear hv hwf hn
  generalize allB 2 (ps.map Prod.fst) = L at *
  go_enter Tryz.func19, Tryz.ntmps19
  go_wp2_with fail
  refine (CA.out _ HV.out).mono ?_
  rintro e w1 ⟨u, rfl, hO, hb⟩
  have B1 := Lib.hid hb
  clear hb CA HV
  rcases hO.parts with ⟨rfl, rfl⟩ | ⟨g, cp, rfl, hg, hR⟩
  · have C := Lib.hid fun W => sortnilH_any W
    go_wp2_with fail
    refine (C.out _).mono ?_
    rintro e w2 ⟨rfl, rfl⟩
    go_wp2_with fail
    go_ret
    exact ⟨_, [], rfl, ⟨none, 0, rfl, Nat.le_refl _, Nat.zero_le _, fun h => absurd h (Nat.lt_irrefl 0)⟩, List.Perm.refl _, List.Pairwise.nil, B1.out⟩
  · have hs := sorted_list cmpH_swo L.toArray
    have hsz : L.toArray.size = L.length := by simp
    rw [hsz] at hs
    obtain ⟨n, hn⟩ : ∃ z, z = L.length := ⟨_, rfl⟩
    rw [← hn] at hR hs h20 ⊢
    have C := Lib.hid fun W (h : RowS W g n cp L.toArray) => sortH_any g n cp L.toArray W h20 h
    have HS := Lib.hid hs
    have R1 := Lib.hid hR
    clear hs hsz hR hn hO
    go_wp2_with fail
    refine (C.out _ R1.out).mono ?_
    rintro e w2 ⟨rfl, hR2, hK⟩
    have R2 := Lib.hid hR2
    have B2 := Lib.hid (OthersKept.below B1.out hK (fun k hk e => by omega))
    clear hR2 hK C R1
    go_wp2_with fail
    go_ret
    exact ⟨_, _, rfl, R2.out.at_, by simpa using HS.out.1, HS.out.2, B2.out⟩
set_option maxHeartbeats 4000000 in
set_option maxRecDepth 100000 in
theorem segActive_any (ps : List (Pg × Value)) (v : Value) (w : World) (hv : PgsIn w v ps) (hwf : ∀ e ∈ ps, e.1.wf ∧ weightB e.1.rows ≤ 1000000) (hn : ps.length ≤ 100) (h20 : (allB 1 (ps.map Prod.fst)).length < 20) :
    Calls Tryz.prog 21 #[v] w fun e w' => ∃ u H, e = .returned u ∧ SegsAt w' u H ∧ H.Perm (allB 1 (ps.map Prod.fst)) ∧ H.Pairwise (fun a b => cmpAL b a = false) ∧ Below w.heap.size w w' := by
  have CA := Lib.hid fun W h => segAll_any ps 1 v W h hwf hn
  have HV := Lib.hid hv
  clear hv hwf hn
  generalize allB 1 (ps.map Prod.fst) = L at *
  go_enter Tryz.func21, Tryz.ntmps21
  go_wp2_with fail
  refine (CA.out _ HV.out).mono ?_
  rintro e w1 ⟨u, rfl, hO, hb⟩
  have B1 := Lib.hid hb
  clear hb CA HV
  rcases hO.parts with ⟨rfl, rfl⟩ | ⟨g, cp, rfl, hg, hR⟩
  · have C := Lib.hid fun W => sortnilA_any W
    go_wp2_with fail
    refine (C.out _).mono ?_
    rintro e w2 ⟨rfl, rfl⟩
    go_wp2_with fail
    go_ret
    exact ⟨_, [], rfl, ⟨none, 0, rfl, Nat.le_refl _, Nat.zero_le _, fun h => absurd h (Nat.lt_irrefl 0)⟩, List.Perm.refl _, List.Pairwise.nil, B1.out⟩
  · have hs := sorted_list cmpA_swo L.toArray
    have hsz : L.toArray.size = L.length := by simp
    rw [hsz] at hs
    obtain ⟨n, hn⟩ : ∃ z, z = L.length := ⟨_, rfl⟩
    rw [← hn] at hR hs h20 ⊢
    have C := Lib.hid fun W (h : RowS W g n cp L.toArray) => sortA_any g n cp L.toArray W h20 h
    have HS := Lib.hid hs
    have R1 := Lib.hid hR
    clear hs hsz hR hn hO
    go_wp2_with fail
    refine (C.out _ R1.out).mono ?_
    rintro e w2 ⟨rfl, hR2, hK⟩
    have R2 := Lib.hid hR2
    have B2 := Lib.hid (OthersKept.below B1.out hK (fun k hk e => by omega))
    clear hR2 hK C R1
    go_wp2_with fail
    go_ret
    exact ⟨_, _, rfl, R2.out.at_, by simpa using HS.out.1, HS.out.2, B2.out⟩
end Go.Proofs.YtienlhnbmobinaaGreat
end

section
/- chapter 22: Commit -/
namespace Go.Proofs.YtienlhnbmobinaaGreat
open Go.RowKit
set_option linter.unusedVariables false
set_option linter.unusedSimpArgs false
theorem OAt.kept22 {w w' : World} {q : Nat → Prop} {g : Nat} {o : Od} {sv : Value} (h : OAt w g o sv) (hk : OthersKept w w' q) (hq : ¬ q g) : OAt w' g o sv := by
  unfold OAt at *
  exact hk.heap h hq
/-- Texts that came in stand where they stood, whatever was written in newer blocks. -/
theorem TextsAt.old {w w1 w2 : World} {sv : Value} {ts : List (List UInt8)} {q : Nat → Prop} (h : TextsAt w sv ts) (hb : Below w.heap.size w w1) (hk : OthersKept w1 w2 q) (hq : ∀ k, k < w.heap.size → ¬ q k) : TextsAt w2 sv ts :=
  h.below (OthersKept.below hb hk (fun k hk e => hq k hk e))
theorem seg_wf_of {p : Pg} {L : List Sg} (h : segsB p = some L) : ∀ s ∈ L, s.may = true ∧ s.wf := by
  unfold segsB at h
  split at h
  · exact fun s hs => ⟨((segGo_all h).2.1 s hs).1, ((segGo_all h).2.1 s hs).2.1⟩
  · cases h
theorem seg_done_wf {s : Sg} {n : Nat} (h : s.wf) (hn : n < 256 ^ 8) : (s.done n).wf := by
  obtain ⟨a, b, c, d, e, f, g⟩ := h
  exact ⟨a, (show 2 < 256 by decide), hn, d, e, f, g⟩
/-- What putting a row that is there gives. -/
theorem sPutB_set {p : Pg} {L : List Sg} (h : segsB p = some L) {s : Sg} (hm : s.may = true) (hi : segIs L s.tx = true) : sPutB p s = (⟨3, p.id, (segAt L s.tx : Nat), 0, s.enc, [], 0, 0, 0⟩, 0) := by
  unfold sPutB sPutO
  rw [h]
  simp only
  rw [if_pos hm, hi, if_pos rfl]
set_option maxHeartbeats 4000000 in
set_option maxRecDepth 100000 in
theorem segCommit_any (p : Pg) (sv : Value) (tx m : Nat) (w : World) (hp : p.wf) (ht : TextsAt w sv p.rows) (hb : weightB p.rows ≤ 1000000) (hm8 : m < 256 ^ 8) :
    Calls Tryz.prog 18 #[pgV p sv, .int .u64 tx, .int .u64 m] w fun e w' => e = .returned (.tuple #[odV (sCommitB p tx m).1 (.slice none 0 0), .int .i64 (sCommitB p tx m).2]) ∧ Below w.heap.size w w' := by
  have CF := Lib.hid fun W (h : TextsAt W sv p.rows) => segfind_any p sv tx W hp h hb
  have CP := Lib.hid fun s W (h : TextsAt W sv p.rows) (hs : s.wf) => segPut_any p sv s W hp h hb hs
  have hdef : sCommitB p tx m = (match segsB p with | none => (Od.zero, 60) | some L => if segIs L tx then (if (L.getD (segAt L tx) Sg.zero).st = 2 then (Od.zero, 8) else if m = 0 then (Od.zero, 2) else (⟨3, p.id, (segAt L tx : Nat), 0, ((L.getD (segAt L tx) Sg.zero).done m).enc, [], 0, 0, 0⟩, 0)) else (Od.zero, 3)) := rfl
  have hset : Hid (∀ L, segsB p = some L → segIs L tx = true → (L.getD (segAt L tx) Sg.zero).wf ∧ (m ≠ 0 → sPutB p ((L.getD (segAt L tx) Sg.zero).done m) = (⟨3, p.id, (segAt L tx : Nat), 0, ((L.getD (segAt L tx) Sg.zero).done m).enc, [], 0, 0, 0⟩, 0))) := fun L hL hi => by
    obtain ⟨s, hs, hst, hg⟩ := seg_is_yes hi
    rw [hg]
    have hmw := seg_wf_of hL _ hs
    refine ⟨hmw.2, fun hm0 => ?_⟩
    have h1 : segIs L (s.done m).tx = true := by
      show segIs L s.tx = true
      rw [hst]; exact hi
    rw [sPutB_set hL (sg_done hmw.1 (by omega)) h1]
    have h2 : segAt L (s.done m).tx = segAt L tx := by
      show segAt L s.tx = _
      rw [hst]
    rw [h2]
  have HT := Lib.hid ht
  have hnb : p.rows.length ≤ 1000000 := by have := weightB_length p.rows; omega
  obtain ⟨n, hn⟩ : ∃ n, n = p.rows.length := ⟨_, rfl⟩
  obtain ⟨A, cp, hsv, _, _, _, _⟩ := ht
  rw [← hn] at hsv
  subst hsv
  generalize hRR : segsB p = R at *
  clear hRR
  have CP2 := Lib.hid fun s W h hs => CP.out s W h hs
  generalize sCommitB p tx m = res at *
  generalize hSP : (fun s => sPutB p s) = SP at *
  have hsp : ∀ s, sPutB p s = SP s := fun s => by rw [← hSP]
  simp only [hsp] at CP2 hset
  clear hp hb hn hnb CP hSP hsp
  unfold pgV at *
  obtain ⟨kind, level, id, lsn, next, rows⟩ := p
  simp only at *
  have HD := Lib.hid hdef
  clear hdef
  have P0 : Hid (PgBox (w.alloc (.cells #[.int .u8 kind, .int .u8 level, .int .u32 id, .int .u64 lsn, .int .u32 next, .slice A n cp] 26)) w.heap.size kind level id lsn next (.slice A n cp)) := PgBox.new w kind level id lsn next (.slice A n cp)
  have B0 := Lib.hid (alloc_below w (.cells #[.int .u8 kind, .int .u8 level, .int .u32 id, .int .u64 lsn, .int .u32 next, .slice A n cp] 26))
  have hz1 : ((w.alloc (.cells #[.int .u8 kind, .int .u8 level, .int .u32 id, .int .u64 lsn, .int .u32 next, .slice A n cp] 26))).heap.size = w.heap.size + 1 := by simp
  have O0 : Hid (OAt ((w.alloc (.cells #[.int .u8 kind, .int .u8 level, .int .u32 id, .int .u64 lsn, .int .u32 next, .slice A n cp] 26)).alloc (.cells #[.int .u8 0, .int .u32 0, .int .i64 0, .int .i64 0, .string ⟨#[]⟩, .slice none 0 0, .int .u8 0, .int .u8 0, .int .u32 0] 40)) (w.heap.size + 1) Od.zero (.slice none 0 0)) := by
    have h := heap_alloc_new (w.alloc (.cells #[.int .u8 kind, .int .u8 level, .int .u32 id, .int .u64 lsn, .int .u32 next, .slice A n cp] 26)) (.cells #[.int .u8 0, .int .u32 0, .int .i64 0, .int .i64 0, .string ⟨#[]⟩, .slice none 0 0, .int .u8 0, .int .u8 0, .int .u32 0] 40)
    rw [hz1] at h
    exact h
  have B0 := Lib.hid (B0.out.alloc B0.out.size (.cells #[.int .u8 0, .int .u32 0, .int .i64 0, .int .i64 0, .string ⟨#[]⟩, .slice none 0 0, .int .u8 0, .int .u8 0, .int .u32 0] 40))
  have P0 := Lib.hid (P0.out.keep (.cells #[.int .u8 0, .int .u32 0, .int .i64 0, .int .i64 0, .string ⟨#[]⟩, .slice none 0 0, .int .u8 0, .int .u8 0, .int .u32 0] 40))
  clear hz1
  go_enter Tryz.func18, Tryz.ntmps18
  go_upto_region 1 with fail
  generalize ((w.alloc (.cells #[.int .u8 kind, .int .u8 level, .int .u32 id, .int .u64 lsn, .int .u32 next, .slice A n cp] 26)).alloc (.cells #[.int .u8 0, .int .u32 0, .int .i64 0, .int .i64 0, .string ⟨#[]⟩, .slice none 0 0, .int .u8 0, .int .u8 0, .int .u32 0] 40)) = w0 at *
  have T0 := Lib.hid (HT.out.below B0.out)
  have HT0 := Lib.hid HT.out
  clear HT
  obtain ⟨p0, p1, p2, p3, p4, p5, p6⟩ := P0.out.cells
  go_wp2_with fail
  refine (CF.out _ T0.out).mono ?_
  rintro e w1 ⟨v, rfl, hO, hb⟩
  have V1 := Lib.hid (OwnSegs.mono hO B0.out.size)
  clear hO CF
  clear p0 p1 p2 p3 p4 p5 p6
  have B1 := Lib.hid (below_then B0.out hb)
  have P1 := Lib.hid (P0.out.below hb)
  have O1 := Lib.hid (O0.out.under hb)
  have T1 := Lib.hid (T0.out.below hb)
  clear hb B0 P0 O0 T0
  cases R with
  | none =>
    simp only [Option.isSome_none] at *
    (try simp only [Bool.false_eq_true, if_false] at *)
    go_wp2_with (refine wpList_store_op rfl (.tmp 6) (.tmp 24) rfl O1.out Od.zero none 0 0 (by rfl) (by rfl) ?_; intro wS hO hK; have OS := Lib.hid hO; have KS := Lib.hid hK; clear hO hK)
    refine bodyPost_ret (results_op2 (p := 6) (u := 7) (o := Od.zero) (sv := .slice none 0 0) (by kernel_rfl) _ _ rfl OS.out) rfl ?_
    exact ⟨by rw [HD.out]; rfl, OthersKept.below B1.out KS.out (fun k hk e => by omega)⟩
  | some L =>
    simp only [Option.isSome_some, Option.getD_some, if_true] at *
    obtain ⟨ia, hia⟩ : ∃ z : Nat, z = segAt L tx := ⟨_, rfl⟩
    obtain ⟨ib, hib⟩ : ∃ z : Bool, z = segIs L tx := ⟨_, rfl⟩
    have hil : Hid (ib = true → ia < L.length) := fun h => by rw [hia]; exact segIs_lt (by rw [← hib]; exact h)
    have hset2 := Lib.hid (hset.out L rfl)
    rw [← hia, ← hib] at HD ⊢
    rw [← hia, ← hib] at hset2
    clear hia hib hset
    cases ib with
    | false =>
      go_wp2_with (refine wpList_store_op rfl (.tmp 6) (.tmp 29) rfl O1.out Od.zero none 0 0 (by rfl) (by rfl) ?_; intro wS hO hK; have OS := Lib.hid hO; have KS := Lib.hid hK; clear hO hK)
      refine bodyPost_ret (results_op2 (p := 6) (u := 7) (o := Od.zero) (sv := .slice none 0 0) (by kernel_rfl) _ _ rfl OS.out) rfl ?_
      exact ⟨by rw [HD.out]; rfl, OthersKept.below B1.out KS.out (fun k hk e => by omega)⟩
    | true =>
      have hlt := hil.out rfl
      obtain ⟨A2, cp2, rfl, _, _, h52⟩ := V1.out.at_
      obtain ⟨b0, o0, rfl, hb0, hcell⟩ := h52 (by omega)
      obtain ⟨hwf, hput⟩ := hset2.out rfl
      have k0 := hcell ia hlt 0 _ rfl
      have k1 := hcell ia hlt 1 _ rfl
      have k2 := hcell ia hlt 2 _ rfl
      have k3 := hcell ia hlt 3 _ rfl
      have k4 := hcell ia hlt 4 _ rfl
      have k5 := hcell ia hlt 5 _ rfl
      have k6 := hcell ia hlt 6 _ rfl
      have hg : L.getD ia Sg.zero = L[ia] := by rw [List.getD_eq_getElem?_getD, List.getElem?_eq_getElem hlt]; rfl
      rw [hg] at HD hwf hput
      have hli : (ia : Int) < (L.length : Int) := by omega
      have hl0 : (0 : Int) ≤ (ia : Int) := by omega
      obtain ⟨ln, hln⟩ : ∃ z, z = L.length := ⟨_, rfl⟩
      rw [← hln] at hli ⊢
      have hdw := seg_done_wf hwf hm8
      have HPUT := Lib.hid hput
      clear hcell h52 hg V1 hil hln hset2 hput hwf
      generalize L[ia] = y at *
      obtain ⟨y0, y1, y2, y3, y4, y5, y6⟩ := y
      simp only [Nat.add_zero] at k0 k1 k2 k3 k4 k5 k6
      by_cases h2 : y1 = 2
      · have h2i : ((y1 : Int) == 2) = true := by simp [h2]
        have HD2 : Hid (res = (Od.zero, 8)) := by show _ = _; rw [HD.out, if_pos rfl, if_pos h2]
        clear h2
        go_wp2_with (refine wpList_store_op rfl (.tmp 6) (.tmp 37) rfl O1.out Od.zero none 0 0 (by rfl) (by rfl) ?_; intro wS hO hK; have OS := Lib.hid hO; have KS := Lib.hid hK; clear hO hK)
        refine bodyPost_ret (results_op2 (p := 6) (u := 7) (o := Od.zero) (sv := .slice none 0 0) (by kernel_rfl) _ _ rfl OS.out) rfl ?_
        exact ⟨by rw [HD2.out]; rfl, OthersKept.below B1.out KS.out (fun k hk e => by omega)⟩
      · have h2i : ((y1 : Int) == 2) = false := by simp; omega
        by_cases hm0 : m = 0
        · have HD2 : Hid (res = (Od.zero, 2)) := by show _ = _; rw [HD.out, if_pos rfl, if_neg h2, if_pos hm0]
          subst hm0
          go_wp2_with (refine wpList_store_op rfl (.tmp 6) (.tmp 41) rfl O1.out Od.zero none 0 0 (by rfl) (by rfl) ?_; intro wS hO hK; have OS := Lib.hid hO; have KS := Lib.hid hK; clear hO hK)
          refine bodyPost_ret (results_op2 (p := 6) (u := 7) (o := Od.zero) (sv := .slice none 0 0) (by kernel_rfl) _ _ rfl OS.out) rfl ?_
          exact ⟨by rw [HD2.out]; rfl, OthersKept.below B1.out KS.out (fun k hk e => by omega)⟩
        · have hm0i : ((m : Int) == 0) = false := by simp; omega
          have hp2 := HPUT.out hm0
          have HD2 := Lib.hid (HD.out.trans ((if_pos rfl).trans ((if_neg h2).trans (if_neg hm0))))
          have CQ := Lib.hid fun W h => CP2.out (Sg.done ⟨y0, y1, y2, y3, y4, y5, y6⟩ m) W h hdw
          rw [hp2] at CQ
          unfold Sg.done at CQ HD2
          unfold sgV odV at CQ
          simp only at CQ HD2
          generalize Sg.enc ⟨y0, 2, m, y3, y4, y5, y6⟩ = en at *
          clear hp2 HPUT HD CP2 hdw h2
          have hb := alloc_below w1 (.cells #[.int .u64 y0, .int .u8 y1, .int .u64 y2, .int .u32 y3, .int .u32 y4, .int .u32 y5, .int .u16 y6] 52)
          have S2 : Hid (SgBox (w1.alloc (.cells #[.int .u64 y0, .int .u8 y1, .int .u64 y2, .int .u32 y3, .int .u32 y4, .int .u32 y5, .int .u16 y6] 52)) w1.heap.size ⟨y0, y1, y2, y3, y4, y5, y6⟩) := heap_alloc_new w1 _
          have hlo := O1.out.lt
          have hlp := P1.out.lt
          go_upto_region 11 with fail
          generalize w1.alloc (.cells #[.int .u64 y0, .int .u8 y1, .int .u64 y2, .int .u32 y3, .int .u32 y4, .int .u32 y5, .int .u16 y6] 52) = w2 at *
          obtain ⟨X, hX⟩ : ∃ X, X = w1.heap.size := ⟨_, rfl⟩
          have hw1 := B1.out.size
          rw [← hX] at S2 hlo hlp hw1 ⊢
          clear k0 k1 k2 k3 k4 k5 k6
          have B2 := Lib.hid (below_then B1.out hb)
          have P2 := Lib.hid (P1.out.below hb)
          have O2 := Lib.hid (O1.out.under hb)
          have T2 := Lib.hid (T1.out.below hb)
          clear hb B1 P1 O1 T1
          clear hX
          obtain ⟨sl, s0, s1, s2, s3, s4, s5, s6⟩ := S2.out.cells
          obtain ⟨f0, f1, f2, f3, f4, f5, f6⟩ := S2.out.fr
          simp only at s0 s1 s2 s3 s4 s5 s6
          have S3 : Hid (SgBox ((w2.setCell ⟨X, 1, none⟩ (.int .u8 2)).setCell ⟨X, 2, none⟩ (.int .u64 m)) X ⟨y0, 2, m, y3, y4, y5, y6⟩) := by
            have h := blk_set (blk_set S2.out 1 (.int .u8 2)) 2 (.int .u64 m)
            exact h
          have hK := (one_kept w2 X 1 (.int .u8 2)).trans (one_kept _ X 2 (.int .u64 m)) (fun _ _ h => h)
          have P3 := Lib.hid (P2.out.kept hK (by omega))
          have O3 := Lib.hid (OAt.kept22 O2.out hK (by omega))
          have T3 := Lib.hid (TextsAt.old HT0.out B2.out hK (fun k hk e => by omega))
          have B3 := Lib.hid (OthersKept.below B2.out hK (fun k hk e => by omega))
          go_upto_region 12 with fail
          generalize (w2.setCell ⟨X, 1, none⟩ (.int .u8 2)).setCell ⟨X, 2, none⟩ (.int .u64 m) = w3 at *
          clear hK P2 O2 T2 B2 S2 sl s0 s1 s2 s3 s4 s5 s6 f0 f1 f2 f3 f4 f5 f6
          obtain ⟨p0, p1, p2, p3, p4, p5, p6⟩ := P3.out.cells
          obtain ⟨sl, s0, s1, s2, s3, s4, s5, s6⟩ := S3.out.cells
          simp only at s0 s1 s2 s3 s4 s5 s6
          go_wp2_with fail
          refine (CQ.out _ T3.out).mono ?_
          rintro e w4 ⟨rfl, hb⟩
          clear CQ
          clear p0 p1 p2 p3 p4 p5 p6
          clear sl s0 s1 s2 s3 s4 s5 s6
          have B4 := Lib.hid (below_then B3.out hb)
          have P4 := Lib.hid (P3.out.below hb)
          have O4 := Lib.hid (O3.out.under hb)
          clear hb B3 P3 O3
          go_wp2_with (refine wpList_store_op rfl (.tmp 6) (.tmp 52) rfl O4.out ⟨3, id, (ia : Nat), 0, en, [], 0, 0, 0⟩ none 0 0 (by rfl) (by rfl) ?_; intro wS hO hK; have OS := Lib.hid hO; have KS := Lib.hid hK; clear hO hK)
          refine bodyPost_ret (results_op2 (p := 6) (u := 7) (o := ⟨3, id, (ia : Nat), 0, en, [], 0, 0, 0⟩) (sv := .slice none 0 0) (by kernel_rfl) _ _ rfl OS.out) rfl ?_
          exact ⟨by rw [HD2.out]; rfl, OthersKept.below B4.out KS.out (fun k hk e => by omega)⟩
end Go.Proofs.YtienlhnbmobinaaGreat
end
