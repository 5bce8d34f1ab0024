/- Kept of our texts for this claim: SegRoomWalk -/
import Derived.Test.YtienlhnbmobinaaRows
import Derived.Test.YtienlhnbmobinaaRoomKAe
import Derived.Test.YtienlhnbmobinaaRoomKAf
import Derived.Test.YtienlhnbmobinaaRoomKAh
import Derived.Test.YtienlhnbmobinaaRoomKAi
import Derived.Test.YtienlhnbmobinaaRoomKAm
import Derived.Test.YtienlhnbmobinaaRoomKAr
import Derived.Test.YtienlhnbmobinaaRoomKAs
import Derived.Test.YtienlhnbmobinaaRoomKAt
import Derived.Test.YtienlhnbmobinaaRoomKAa
import Derived.Test.YtienlhnbmobinaaRoomKAb
import Derived.Test.YtienlhnbmobinaaRoomKAd
import Derived.WalkKit
import Derived.WalkLawsBesides
import Derived.WalkSpells
import Derived.LoopTactic
import Derived.WalkMore
import Derived.LoopN
import Derived.Laws.BitsAllLaws
import Derived.Laws.IdiomStrings
import Derived.BigQuiet
import Derived.Deep.QuietTactic
import Derived.Deep.DeepCutAuto
import Derived.Deep.RegionHeld3
import Derived.Deep.DrawnRows
import Derived.Lib.Hide
import Derived.Outline
import Derived.Deep.DeepMust
import Derived.Handy
import Derived.Test.YtienlhnbmobinaaRoomKAg
import Derived.Deep.CutBlock
import Derived.Test.YtienlhnbmobinaaRoomKAc
import Derived.Test.YtienlhnbmobinaaRoomKAq
import Derived.Test.YtienlhnbmobinaaRoomKAo
import Derived.Test.YtienlhnbmobinaaRoomKAn
import Derived.Test.YtienlhnbmobinaaRoomKAj
import Derived.Test.YtienlhnbmobinaaRoomKAu
import Derived.Deep.LoopGhost
import Derived.Deep.OwnRows
section
/- the walk of SegRoom -/
namespace Go.Proofs.Ytienlhnbmobinaa
open Go.RowKit
set_option linter.unusedVariables false
set_option linter.unusedSimpArgs false
/-- What stands in a cell. -/
def CellIs (w : World) (b i : Nat) (v : Value) : Prop := b < w.heap.size ∧ w.cell? ⟨b, i, none⟩ = some v
theorem CellIs.below {w w' : World} {b i : Nat} {v : Value} (h : CellIs w b i v) (hb : Below w.heap.size w w') : CellIs w' b i v := ⟨Nat.lt_of_lt_of_le h.1 hb.size, (hb.cell (p := ⟨b, i, none⟩) h.1).trans h.2⟩
theorem OwnsRow64.under {w w' : World} {base n : Nat} {v : Value} {ts : List Nat} (h : w.ownsRow base 23 1 v n (n64 ts)) (hb : Below w.heap.size w w') : w'.ownsRow base 23 1 v n (n64 ts) := own_below h hb
/-- A page that an op was done to, its rows in a block of their own. -/
theorem apply_fits {p : Pg} {L : List Sg} (h : SegP p L) {o : Od} (ho1 : o.wf) (ho2 : o.small) (ho3 : o.rows = []) (sv : Value) (lsn : Nat) (W : World) (ht : TextsAt W sv p.rows) (hl : lsn < 256 ^ 8) : Calls Try.prog 19 #[pgV p sv, odV o (.slice none 0 0), .int .u64 lsn] W (PgPostF W (applyB p o lsn)) :=
  opApplyF_any p o sv (.slice none 0 0) lsn W ht (by rw [ho3]; exact TextsAt.nil W) h.fits.1 ho1 ho2 hl (by have := h.fits.2.1; omega) (by have := h.fits.2.2; omega)
theorem active_law {p : Pg} {L : List Sg} {ins : List Nat} (h : SegP p L) (hr : RmI L ins) (s1 : Value) (v : Value) (W : World) (hv : PgsIn W v [(p, s1)]) : Calls Try.prog 80 #[v] W fun e w' => ∃ A cp, e = .returned (.slice A ins.length cp) ∧ Below W.heap.size W w' := by
  have hall : allB 1 [p] = L.filter (fun s => decide (s.st = 1)) := by
    unfold allB
    simp only [List.flatMap_cons, List.flatMap_nil, List.append_nil]
    rw [h.to]
    rfl
  have hlen := rm_end hr
  have h13 : ins.length ≤ 13 := by rw [hr.2.1]; exact h.2.2.2.2.2.2
  refine (segActive_any [(p, s1)] v W hv (fun e he => ?_) (by simp) (by simp only [List.map_cons, List.map_nil]; rw [hall, hlen]; omega)).mono fun e w' ⟨u, H, e1, e2, e3, _, e4⟩ => ?_
  · rw [List.mem_singleton.1 he]
    exact ⟨h.fits.1, by have := h.fits.2.1; show weightB p.rows ≤ _; omega⟩
  · simp only [List.map_cons, List.map_nil] at e3
    rw [hall] at e3
    obtain ⟨A, cp, hu, _, _, _⟩ := e2
    rw [e3.length_eq, hlen] at hu
    exact ⟨A, cp, by rw [e1, hu], e4⟩
theorem mem_take_next {ins : List Nat} {tx k : Nat} (h : k < ins.length) : decide (tx ∈ ins.take (k + 1)) = (decide (tx ∈ ins.take k) || decide (ins[k] = tx)) := by
  rw [List.take_succ_eq_append_getElem h, Bool.eq_iff_iff, Bool.or_eq_true, decide_eq_true_eq, decide_eq_true_eq, decide_eq_true_eq, List.mem_append, List.mem_singleton]
  constructor
  · rintro (h | h)
    · exact .inl h
    · exact .inr h.symm
  · rintro (h | h)
    · exact .inl h
    · exact .inr h.symm
theorem room_sg (tx i : Nat) (h1 : 1 ≤ tx) (h2 : tx ≤ 65536) (hi : i ≤ 60) : Sg.may ⟨tx, 1, 0, 7, 7, 7, i⟩ = true ∧ Sg.wf ⟨tx, 1, 0, 7, 7, 7, i⟩ := by
  refine ⟨?_, (show tx < 256 ^ 8 by omega), (show 1 < 256 by omega), (show 0 < 256 ^ 8 by omega), (show 7 < 256 ^ 4 by omega), (show 7 < 256 ^ 4 by omega), (show 7 < 256 ^ 4 by omega), (show i < 256 ^ 2 by omega)⟩
  unfold Sg.may
  exact Bool.and_eq_true_iff.2 ⟨rfl, decide_eq_true ⟨by show 0 < tx; omega, ⟨by show 1 ≤ 7; decide, by show 7 ≤ 1024; decide⟩, ⟨by show 1 ≤ 7; decide, by show 7 ≤ 1024; decide⟩, ⟨by show 1 ≤ 7; decide, by show 7 ≤ 1024; decide⟩⟩⟩
set_option maxHeartbeats 16000000 in
set_option maxRecDepth 100000 in
theorem segRoomLaw_any (tv : Value) (ts : List Nat) (wh : Nat) (w : World) (ht : N16At w tv ts) (hts : ∀ t ∈ ts, t < 256 ^ 2) (hwh : wh < 256) :
    Calls Try.prog 14 #[tv, .int .u8 wh] w fun e w' => e = .returned (.bool true) ∧ Below w.heap.size w w' := by
  have AL := Lib.hid fun W => works22_any W
  have HTS := Lib.hid hts
  obtain ⟨tn, htn⟩ : ∃ n, n = ts.length := ⟨_, rfl⟩
  obtain ⟨TA, tc, htv, k2, k3, _, k5⟩ := ht
  have K5 := Lib.hid k5
  rw [← htn] at htv k2
  subst htv
  unfold maxLen at k3
  have HTN := Lib.hid htn
  clear htn hts k5
  have hP0 : SegP ⟨5, 0, 5, 0, 0, []⟩ [] := head_seg 5 (by decide) (by decide)
  have HP0 := Lib.hid hP0
  have CH := Lib.hid fun W => (head22_any 5 W)
  unfold pgV at CH
  simp only at CH
  clear hP0
  obtain ⟨i0, hif, hz0, hz1, hz2⟩ := info_parts Try.infoU64
  have HI := Lib.hid hif
  have HI0 := Lib.hid hz0
  have HI1 := Lib.hid hz1
  have HI2 := Lib.hid hz2
  clear hif hz0 hz1 hz2
  go_enter Try.func14, Try.ntmps14
  by_cases ht60 : tn ≤ 60
  case neg =>
    have hti : decide ((60 : Int) < (tn : Int)) = true := decide_eq_true (by omega)
    go_wp2_with fail
    refine (AL.out _).mono ?_
    rintro e wa ⟨rfl, hba⟩
    have Ba := Lib.hid hba
    clear hba
    go_wp2_with fail
    go_ret
    exact ⟨rfl, Ba.out⟩
  have hti : decide ((60 : Int) < (tn : Int)) = false := decide_eq_false (by omega)
  go_wp2_with fail
  refine (CH.out _).mono ?_
  rintro e w1 ⟨rfl, hb⟩
  have PB : Hid (PgBox (w1.alloc (.cells #[.int .u8 (5 : Nat), .int .u8 (0 : Nat), .int .u32 (5 : Nat), .int .u64 (0 : Nat), .int .u32 (0 : Nat), .slice none 0 0] 26)) w1.heap.size 5 0 5 0 0 (.slice none 0 0)) := PgBox.new w1 5 0 5 0 0 (.slice none 0 0)
  have BB := Lib.hid (hb.alloc hb.size (.cells #[.int .u8 (5 : Nat), .int .u8 (0 : Nat), .int .u32 (5 : Nat), .int .u64 (0 : Nat), .int .u32 (0 : Nat), .slice none 0 0] 26))
  have hw1 := hb.size
  clear hb CH
  go_upto_region 4 with fail
  obtain ⟨g9, hg9⟩ : ∃ z, z = w1.heap.size := ⟨_, rfl⟩
  have hwg : w.heap.size ≤ g9 := by omega
  generalize hw2 : w1.alloc _ = w2
  have PB : Hid (PgBox w2 g9 5 0 5 0 0 (.slice none 0 0)) := by rw [← hw2, hg9]; exact PB.out
  have BB : Hid (Below w.heap.size w w2) := by rw [← hw2]; exact BB.out
  rw [← hg9]
  clear hw2 hg9 hw1
  obtain ⟨gB, hgB⟩ : ∃ z, z = w2.heap.size := ⟨_, rfl⟩
  have hgg : g9 < gB := by rw [hgB]; exact PB.out.lt
  have hgb2 : gB ≤ w2.heap.size := by omega
  clear hgB
  go_wp2_with fail
  go_loopw [6, 8] (fun s6 s8 wr => ∃ (i : Nat) (p : Pg) (L : List Sg) (ins : List Nat) (A : Option Addr) (c : Nat), s8 = .int .i64 i ∧ i ≤ tn ∧ ins.length ≤ 13 ∧ Hid (SegP p L) ∧ Hid (RmI L ins) ∧ Hid (PgBox wr g9 p.kind p.level p.id p.lsn p.next (.slice A p.rows.length c)) ∧ Hid (TextsAt wr (.slice A p.rows.length c) p.rows) ∧ Hid (wr.ownsRow gB 23 1 s6 ins.length (n64 ins)) ∧ Hid (Far (.slice A p.rows.length c) s6 p.rows.length) ∧ gB ≤ wr.heap.size ∧ Hid (Below w.heap.size w wr)) (fun _ v _ => tn - (intOf v).toNat)
  case atStart => exact ⟨0, ⟨5, 0, 5, 0, 0, []⟩, [], [], none, 0, rfl, Nat.zero_le _, Nat.zero_le _, HP0, Lib.hid rm_start, PB, Lib.hid (TextsAt.nil _), Lib.hid (World.ownsRow_nil _ _ _ _), Lib.hid (fun h => absurd h (Nat.lt_irrefl 0)), hgb2, BB⟩
  case round =>
    clear PB BB HP0 hgb2
    obtain ⟨i, ⟨pa, pb, pc, pd, pe, rowsP⟩, L, ins, A, c, rfl, hi, h13, SP, RM, PB, TT, OO, FR, hgw, BB⟩ := hrel
    simp only at PB TT FR
    obtain ⟨np, hnpx⟩ : ∃ z, z = rowsP.length := ⟨_, rfl⟩
    rw [← hnpx] at PB TT FR
    have HNP := Lib.hid hnpx
    clear hnpx
    obtain ⟨m, hmx⟩ : ∃ z, z = ins.length := ⟨_, rfl⟩
    rw [← hmx] at OO h13
    have HM := Lib.hid hmx
    clear hmx
    by_cases hlt : i < tn
    · have hci : (i : Int) < (tn : Int) := by omega
      have hit : i < ts.length := by rw [← HTN.out]; exact hlt
      obtain ⟨b0, o0, rfl, hb0, hcell⟩ := K5.out (by omega)
      have c1 := (BB.out.cell (p := ⟨b0, o0 + i, none⟩) hb0).trans (hcell i hit)
      have q1 : (0 : Int) ≤ (i : Int) := by omega
      have htb := HTS.out _ (List.getElem_mem hit)
      generalize ts[i] = t at *
      simp only [Nat.reducePow] at htb
      obtain ⟨tx, htx⟩ : ∃ z, z = t + 1 := ⟨_, rfl⟩
      have htxi : (t : Int) + 1 = (tx : Int) := by omega
      have htx1 : 1 ≤ tx := by omega
      have htx2 : tx ≤ 65536 := by omega
      clear hcell hit htx
      obtain ⟨l1, hl1⟩ : ∃ z, z = i + 1 := ⟨_, rfl⟩
      have hli : (i : Int) + 1 = (l1 : Int) := by omega
      have hlb : l1 ≤ 61 := by omega
      have HL1 := Lib.hid hl1
      clear hl1
      have hi60 : i ≤ 60 := by omega
      have hwi : IntKind.u16.wrap (i : Int) = (i : Int) := IntWalk.u16_in _ ⟨by omega, by omega⟩
      obtain ⟨NA, ncp, hnv, hn2, hn3, _, hn5⟩ := (n64_own OO.out).1
      rw [← HM.out] at hnv hn2
      subst hnv
      have N5 := Lib.hid hn5
      clear hn5
      unfold maxLen at hn3
      go_wp2_with fail
      go_loopw [10, 11] (fun s10 s11 wx => ∃ k : Nat, s11 = .int .i64 k ∧ k ≤ m ∧ s10 = .bool (decide (tx ∈ ins.take k)) ∧ wx = wr) (fun _ v _ => m - (intOf v).toNat)
      case atStart => exact ⟨0, rfl, Nat.zero_le _, by simp, rfl⟩
      case round =>
        obtain ⟨k, rfl, hk, rfl, hwx⟩ := hrel
        subst hwx
        by_cases hkm : k < m
        · have hki : (k : Int) < (m : Int) := by omega
          have hk0 : (0 : Int) ≤ (k : Int) := by omega
          have hkl : k < ins.length := by rw [← HM.out]; exact hkm
          obtain ⟨b7, o7, rfl, hb7, hc7⟩ := N5.out (by omega)
          have c7 := hc7 k hkl
          have MN := Lib.hid (mem_take_next (tx := tx) hkl)
          clear hc7
          generalize ins[k] = y at *
          clear hkl
          obtain ⟨bk, hbk⟩ : ∃ b, b = decide (tx ∈ ins.take k) := ⟨_, rfl⟩
          rw [← hbk] at MN ⊢
          clear hbk
          obtain ⟨b9, hb9⟩ : ∃ b, ((y : Int) == (tx : Int)) = b := ⟨_, rfl⟩
          have MN2 : Hid (decide (tx ∈ ins.take (k + 1)) = (bk || b9)) := by
            show _ = _
            rw [MN.out, ← hb9]
            congr 1
            rw [Bool.eq_iff_iff]
            simp
            omega
          clear MN
          cases bk with
          | true =>
            go_wp2_with fail
            exact ⟨⟨k + 1, by go_num, by omega, by rw [MN2.out]; rfl, by first | rfl | trivial⟩, by simp [intOf]; omega⟩
          | false =>
            go_wp2_with fail
            exact ⟨⟨k + 1, by go_num, by omega, by rw [MN2.out]; rfl, by first | rfl | trivial⟩, by simp [intOf]; omega⟩
        · have hki : ¬ (k : Int) < (m : Int) := by omega
          obtain ⟨is, his⟩ : ∃ b, b = decide (tx ∈ ins) := ⟨_, rfl⟩
          have hisk : decide (tx ∈ ins.take k) = is := by rw [his, List.take_of_length_le (by rw [← HM.out]; omega)]
          rw [hisk]
          have HIS := Lib.hid his
          clear hisk his hki
          have hsg := room_sg tx i htx1 htx2 hi60
          have HSG := Lib.hid hsg
          clear hsg c1 k2
          have hgw0 := hgw
          clear hgw
          have B0 := BB
          have T0 := TT
          have P0 := PB
          have O0 := OO
          generalize wr = w0 at *
          clear BB TT PB OO
          have CP := Lib.hid fun sv W h => segPut_any ⟨pa, pb, pc, pd, pe, rowsP⟩ sv ⟨tx, 1, 0, 7, 7, 7, i⟩ W SP.out.fits.1 h (by have := SP.out.fits.2.1; omega) HSG.out.2
          have CA := Lib.hid fun o lsn sv W h h1 h2 h3 h4 => apply_fits SP.out (o := o) h1 h2 h3 sv lsn W h h4
          have CD := Lib.hid fun t sv W h => segDrop_any ⟨pa, pb, pc, pd, pe, rowsP⟩ sv t W SP.out.fits.1 h (by have := SP.out.fits.2.1; omega)
          unfold pgV sgV at CP
          unfold pgV at CA CD
          simp only at CP CA CD
          go_upto_region 16 with fail
          have BN := Lib.hid (alloc_below w0 (.cells #[.int .u64 tx, .int .u8 1, .int .u64 0, .int .u32 7, .int .u32 7, .int .u32 7, .int .u16 i] 83))
          have G1 : Hid (SgBox (w0.alloc (.cells #[.int .u64 tx, .int .u8 1, .int .u64 0, .int .u32 7, .int .u32 7, .int .u32 7, .int .u16 i] 83)) w0.heap.size ⟨tx, 1, 0, 7, 7, 7, i⟩) := heap_alloc_new w0 _
          generalize w0.alloc (.cells #[.int .u64 tx, .int .u8 1, .int .u64 0, .int .u32 7, .int .u32 7, .int .u32 7, .int .u16 i] 83) = w1 at *
          have hb := BN.out
          clear BN
          have B1 := Lib.hid (below_then B0.out hb)
          have T1 := Lib.hid (T0.out.below hb)
          have P1 := Lib.hid (P0.out.below hb)
          have O1 := Lib.hid (OwnsRow64.under O0.out hb)
          have hgw1 : gB ≤ w1.heap.size := Nat.le_trans hgw0 (Below.size hb)
          clear hb B0 hgw0 T0 P0 O0
          by_cases hroom : tx ∈ ins ∨ m < 13
          case pos =>
            obtain ⟨o, ⟨qa, qb, qc, qd, qe, rowsQ⟩, L', hput, ho1, ho2, ho3, hap, hSQ, hRQ⟩ := rm_put SP.out RM.out HSG.out.1 HSG.out.2 rfl (lsn := l1) (by omega) (by rw [← HM.out]; exact hroom)
            have CP2 := Lib.hid fun sv W h => CP.out sv W h
            rw [hput] at CP2
            have CA2 := Lib.hid fun sv W h => CA.out o l1 sv W h ho1 ho2 ho3 (by omega)
            rw [hap] at CA2
            have SQ := Lib.hid hSQ
            have RQ := Lib.hid hRQ
            simp only at RQ
            obtain ⟨o0, o1, o2, o3, o4, o5, o6, o7, o8⟩ := o
            unfold odV at CP2 CA2
            simp only at CP2 CA2
            have hor : ((!is) = true → m < 13) := fun h => by
              rcases hroom with h2 | h2
              · have h3 := HIS.out
                rw [decide_eq_true h2] at h3
                rw [h3] at h
                cases h
              · exact h2
            have h13q : (if tx ∈ ins then ins else ins ++ [tx]).length ≤ 13 := by
              split
              · rw [← HM.out]; exact h13
              · rename_i hni
                have h3 := HIS.out
                rw [decide_eq_false hni] at h3
                rw [h3] at hor
                have := hor rfl
                rw [List.length_append, ← HM.out]
                simp
                omega
            clear hput ho1 ho2 ho3 hap hSQ hRQ CP CA CD hroom
            obtain ⟨x0, x1, x2, x3, x4, x5, x6⟩ := P1.out.cells
            obtain ⟨s0, s1, s2, s3, s4, s5, s6, s7⟩ := G1.out.cells
            simp only at s1 s2 s3 s4 s5 s6 s7
            go_wp2_with fail
            clear x0 x1 x2 x3 x4 x5 x6 s0 s1 s2 s3 s4 s5 s6 s7
            refine (CP2.out _ _ T1.out).mono ?_
            rintro e w2 ⟨rfl, hb⟩
            have B2 := Lib.hid (below_then B1.out hb)
            have T2 := Lib.hid (T1.out.below hb)
            have P2 := Lib.hid (P1.out.below hb)
            have O2 := Lib.hid (OwnsRow64.under O1.out hb)
            have G2 := Lib.hid (G1.out.below hb)
            have hgw2 : gB ≤ w2.heap.size := Nat.le_trans hgw1 (Below.size hb)
            clear hb B1 hgw1 T1 P1 O1 G1
            obtain ⟨x0, x1, x2, x3, x4, x5, x6⟩ := P2.out.cells
            obtain ⟨s0, s1, s2, s3, s4, s5, s6, s7⟩ := G2.out.cells
            simp only at s1 s2 s3 s4 s5 s6 s7
            (try unfold odV)
            (try simp only)
            go_upto_region 17 with fail
            clear x0 x1 x2 x3 x4 x5 x6 s0 s1 s2 s3 s4 s5 s6 s7
            have BN := Lib.hid (alloc_below w2 (.cells #[.int .u8 o0, .int .u32 o1, .int .i64 o2, .int .i64 o3, .string ⟨o4.toArray⟩, .slice none 0 0, .int .u8 o6, .int .u8 o7, .int .u32 o8] 28))
            have OQ3 := Lib.hid (OAt.new w2 ⟨o0, o1, o2, o3, o4, o5, o6, o7, o8⟩ (.slice none 0 0))
            generalize w2.alloc (.cells #[.int .u8 o0, .int .u32 o1, .int .i64 o2, .int .i64 o3, .string ⟨o4.toArray⟩, .slice none 0 0, .int .u8 o6, .int .u8 o7, .int .u32 o8] 28) = w3 at *
            have hb := BN.out
            clear BN
            have B3 := Lib.hid (below_then B2.out hb)
            have T3 := Lib.hid (T2.out.below hb)
            have P3 := Lib.hid (P2.out.below hb)
            have O3 := Lib.hid (OwnsRow64.under O2.out hb)
            have G3 := Lib.hid (G2.out.below hb)
            have hgw3 : gB ≤ w3.heap.size := Nat.le_trans hgw2 (Below.size hb)
            clear hb B2 hgw2 T2 P2 O2 G2
            have hmi : is = false → (m : Int) < 13 := fun h => by
              have := hor (by rw [h]; rfl)
              omega
            have hor2 : ((decide (is = true)) || decide ((m : Int) < 13)) = true := by
              cases is
              · simp [hmi rfl]
              · rfl
            have ha9 : Hid (∀ b : Bool, b = is → (b = true ∨ (m : Int) < 13)) := fun b hb => by
              subst hb
              cases b
              · exact .inr (hmi rfl)
              · exact .inl rfl
            clear hmi hor2 hor
            have OLT : Hid (∀ q, (Value.slice NA m ncp).ownBlock = some q → q < w3.heap.size) := fun q hq => (O3.out.lt q hq).2
            cases his2 : is
            case false =>
              have hm13 := ha9.out false his2.symm
              have HIB : Hid ((false : Bool) = decide (tx ∈ ins)) := by show _ = _; rw [← HIS.out, his2]
              have hr9 : Hid ((if tx ∈ ins then ins else ins ++ [tx]) = ins ++ [tx]) := by
                show _ = _
                rw [if_neg (of_decide_eq_false HIB.out.symm)]
              replace hm13 : (m : Int) < 13 := by rcases hm13 with h | h; cases h; exact h
              rw [hr9.out] at RQ h13q
              clear his2 ha9 HIS
              go_upto_region 26 with fail
              obtain ⟨x0, x1, x2, x3, x4, x5, x6⟩ := P3.out.cells
              obtain ⟨s0, s1, s2, s3, s4, s5, s6, s7⟩ := G3.out.cells
              simp only at s1 s2 s3 s4 s5 s6 s7
              obtain ⟨y0, y1, y2, y3, y4, y5, y6, y7, y8⟩ := OQ3.out.cells
              simp only at y0 y1 y2 y3 y4 y5 y6 y7 y8
              have y9 := blk_lt OQ3.out
              go_wp2_with fail
              clear x0 x1 x2 x3 x4 x5 x6 s0 s1 s2 s3 s4 s5 s6 s7 y0 y1 y2 y3 y4 y5 y6 y7 y8 y9
              refine (CA2.out _ _ T3.out).mono ?_
              rintro e w4 ⟨sv4, rfl, G, hb, hF4⟩
              (try simp only at G)
              obtain ⟨nq, hnq⟩ : ∃ z, z = rowsQ.length := ⟨_, rfl⟩
              have Hnq := Lib.hid hnq
              clear hnq
              have U4 := Lib.hid G
              obtain ⟨A4, cp4, hv4, _, _, _, _⟩ := G
              rw [← Hnq.out] at hv4
              subst hv4
              have FF4 := Lib.hid hF4
              clear hF4
              have B4 := Lib.hid (below_then B3.out hb)
              have T4 := Lib.hid (T3.out.below hb)
              have P4 := Lib.hid (P3.out.below hb)
              have O4 := Lib.hid (OwnsRow64.under O3.out hb)
              have G4 := Lib.hid (G3.out.below hb)
              have OQ4 := Lib.hid (OQ3.out.below hb)
              have hgw4 : gB ≤ w4.heap.size := Nat.le_trans hgw3 (Below.size hb)
              clear hb B3 hgw3 T3 P3 O3 G3 OQ3
              obtain ⟨x0, x1, x2, x3, x4, x5, x6⟩ := P4.out.cells
              obtain ⟨s0, s1, s2, s3, s4, s5, s6, s7⟩ := G4.out.cells
              simp only at s1 s2 s3 s4 s5 s6 s7
              obtain ⟨y0, y1, y2, y3, y4, y5, y6, y7, y8⟩ := OQ4.out.cells
              simp only at y0 y1 y2 y3 y4 y5 y6 y7 y8
              have y9 := blk_lt OQ4.out
              (try unfold pgV)
              (try simp only)
              go_upto_region 27 with fail
              clear x0 x1 x2 x3 x4 x5 x6 s0 s1 s2 s3 s4 s5 s6 s7 y0 y1 y2 y3 y4 y5 y6 y7 y8 y9
              have BN := Lib.hid (alloc_below w4 (.cells #[.int .u8 qa, .int .u8 qb, .int .u32 qc, .int .u64 qd, .int .u32 qe, .slice A4 nq cp4] 26))
              have Q5 := Lib.hid (PgBox.new w4 qa qb qc qd qe (.slice A4 nq cp4))
              generalize w4.alloc (.cells #[.int .u8 qa, .int .u8 qb, .int .u32 qc, .int .u64 qd, .int .u32 qe, .slice A4 nq cp4] 26) = w5 at *
              have hb := BN.out
              clear BN
              have B5 := Lib.hid (below_then B4.out hb)
              have T5 := Lib.hid (T4.out.below hb)
              have P5 := Lib.hid (P4.out.below hb)
              have O5 := Lib.hid (OwnsRow64.under O4.out hb)
              have G5 := Lib.hid (G4.out.below hb)
              have OQ5 := Lib.hid (OQ4.out.below hb)
              have U5 := Lib.hid (U4.out.below hb)
              have hgw5 : gB ≤ w5.heap.size := Nat.le_trans hgw4 (Below.size hb)
              clear hb B4 hgw4 T4 P4 O4 G4 OQ4 U4
              have FQ : Hid (Far (.slice A4 nq cp4) (.slice NA m ncp) nq) := fun h0 q hq e => by
                have h1 := FF4.out q hq
                have h2 := OLT.out q e
                omega
              obtain ⟨x0, x1, x2, x3, x4, x5, x6⟩ := P5.out.cells
              obtain ⟨z0, z1, z2, z3, z4, z5, z6⟩ := Q5.out.cells
              go_upto_region 29 with fail
              go_upto_region 30 with (refine wpList_store_pg rfl (.tmp 5) (.tmp 137) rfl P5.out qa qb qc qd qe A4 nq cp4 (by rfl) (by rfl) ?_; intro wS hP hK; have PF := Lib.hid hP; have KF := Lib.hid hK; clear hP hK)
              clear x0 x1 x2 x3 x4 x5 x6 z0 z1 z2 z3 z4 z5 z6
              have UF := Lib.hid (TextsAt.off_pg U5.out P5.out (fun x e => by cases e) KF.out)
              have OF := Lib.hid (OthersKept.owns KF.out O5.out (fun q hq e => by have := (O5.out.lt q hq).1; omega))
              have BF := Lib.hid (OthersKept.below B5.out KF.out (fun k hk e => by omega))
              have hgF : gB ≤ wS.heap.size := Nat.le_trans hgw5 KF.out.size
              have O2 := Lib.hid (OwnsRow64.under OF.out (alloc_below wS (.cells #[.int .u64 tx] 23)))
              have U2 := Lib.hid (UF.out.below (alloc_below wS (.cells #[.int .u64 tx] 23)))
              have P2 := Lib.hid (PF.out.keep (.cells #[.int .u64 tx] 23))
              have B2 := Lib.hid (BF.out.alloc BF.out.size (.cells #[.int .u64 tx] 23))
              have R2 : Hid (∀ j u, [Value.int .u64 (tx : Int)][j]? = some u → (wS.alloc (.cells #[.int .u64 tx] 23)).cell? ((⟨wS.heap.size, 0, none⟩ : Addr).add j) = some u) := by
                show ∀ j u, _
                intro j u hu
                rw [Addr.add_lit, show 0 + j = j by omega, blk_cell (heap_alloc_new wS _)]
                simpa using hu
              have hg2 : gB ≤ (wS.alloc (.cells #[.int .u64 tx] 23)).heap.size := by simp; omega
              have hb2 : w.heap.size ≤ (wS.alloc (.cells #[.int .u64 tx] 23)).heap.size := B2.out.size
              clear OF UF PF BF KF
              go_wp2_with (at_builtin; refine wpList_append_two rfl _ _ 102 rfl gB 23 i0 (.int .u64 0) 1 8 Try.underlying102 HI.out HI0.out HI1.out HI2.out rfl (by decide) _ _ _ (by rfl) O2.out ⟨wS.heap.size, 0, none⟩ 1 1 [.int .u64 (tx : Int)] (by rfl) rfl R2.out (by simp [Value.oneCell']) (by unfold maxLen; omega) (by omega) hg2 ?_; intro v' w6 hown6 hgrow6 hblk6; have O6 := Lib.hid hown6; have B6 := Lib.hid (B2.out.grown hgrow6 hb2 (fun j hj => by have := (O2.out.lt j hj).1; omega)); have P6 := Lib.hid (P2.out.grown hgrow6 (fun e => by have := (O2.out.lt g9 e.symm).1; omega)); have U6 := Lib.hid (U2.out.grown hgrow6 (fun h0 q hq e => by rw [← Hnq.out] at h0; exact FQ.out h0 q hq e)); have F6 : Hid (Far (.slice A4 nq cp4) v' nq) := (fun h0 q hq e => by rcases hblk6 with h | h; exact FQ.out h0 q hq (h.symm.trans e); have h9 := U2.out.block_lt (by rw [← Hnq.out]; exact h0) q hq; have h8 := h.symm.trans e; injection h8 with h8; omega); have hg6 : gB ≤ w6.heap.size := Nat.le_trans hg2 hgrow6.size; clear hown6 hgrow6 hblk6)
              exact ⟨⟨l1, ⟨qa, qb, qc, qd, qe, rowsQ⟩, L', ins ++ [tx], A4, cp4, rfl, by have := HL1.out; omega, h13q, SQ, RQ, Lib.hid (by simp only; rw [← Hnq.out]; exact P6.out), Lib.hid (by simp only; rw [← Hnq.out]; exact U6.out), Lib.hid (by rw [List.length_append, n64_append, ← HM.out]; exact O6.out), Lib.hid (by simp only; rw [← Hnq.out]; exact F6.out), hg6, B6⟩, by have := HL1.out; simp only [intOf]; simp; omega⟩
            case true =>
              have hm13 := ha9.out true his2.symm
              have HIB : Hid ((true : Bool) = decide (tx ∈ ins)) := by show _ = _; rw [← HIS.out, his2]
              have hr9 : Hid ((if tx ∈ ins then ins else ins ++ [tx]) = ins) := by
                show _ = _
                rw [if_pos (of_decide_eq_true HIB.out.symm)]
              rw [hr9.out] at RQ h13q
              clear his2 ha9 HIS
              go_upto_region 26 with fail
              obtain ⟨x0, x1, x2, x3, x4, x5, x6⟩ := P3.out.cells
              obtain ⟨s0, s1, s2, s3, s4, s5, s6, s7⟩ := G3.out.cells
              simp only at s1 s2 s3 s4 s5 s6 s7
              obtain ⟨y0, y1, y2, y3, y4, y5, y6, y7, y8⟩ := OQ3.out.cells
              simp only at y0 y1 y2 y3 y4 y5 y6 y7 y8
              have y9 := blk_lt OQ3.out
              go_wp2_with fail
              clear x0 x1 x2 x3 x4 x5 x6 s0 s1 s2 s3 s4 s5 s6 s7 y0 y1 y2 y3 y4 y5 y6 y7 y8 y9
              refine (CA2.out _ _ T3.out).mono ?_
              rintro e w4 ⟨sv4, rfl, G, hb, hF4⟩
              (try simp only at G)
              obtain ⟨nq, hnq⟩ : ∃ z, z = rowsQ.length := ⟨_, rfl⟩
              have Hnq := Lib.hid hnq
              clear hnq
              have U4 := Lib.hid G
              obtain ⟨A4, cp4, hv4, _, _, _, _⟩ := G
              rw [← Hnq.out] at hv4
              subst hv4
              have FF4 := Lib.hid hF4
              clear hF4
              have B4 := Lib.hid (below_then B3.out hb)
              have T4 := Lib.hid (T3.out.below hb)
              have P4 := Lib.hid (P3.out.below hb)
              have O4 := Lib.hid (OwnsRow64.under O3.out hb)
              have G4 := Lib.hid (G3.out.below hb)
              have OQ4 := Lib.hid (OQ3.out.below hb)
              have hgw4 : gB ≤ w4.heap.size := Nat.le_trans hgw3 (Below.size hb)
              clear hb B3 hgw3 T3 P3 O3 G3 OQ3
              obtain ⟨x0, x1, x2, x3, x4, x5, x6⟩ := P4.out.cells
              obtain ⟨s0, s1, s2, s3, s4, s5, s6, s7⟩ := G4.out.cells
              simp only at s1 s2 s3 s4 s5 s6 s7
              obtain ⟨y0, y1, y2, y3, y4, y5, y6, y7, y8⟩ := OQ4.out.cells
              simp only at y0 y1 y2 y3 y4 y5 y6 y7 y8
              have y9 := blk_lt OQ4.out
              (try unfold pgV)
              (try simp only)
              go_upto_region 27 with fail
              clear x0 x1 x2 x3 x4 x5 x6 s0 s1 s2 s3 s4 s5 s6 s7 y0 y1 y2 y3 y4 y5 y6 y7 y8 y9
              have BN := Lib.hid (alloc_below w4 (.cells #[.int .u8 qa, .int .u8 qb, .int .u32 qc, .int .u64 qd, .int .u32 qe, .slice A4 nq cp4] 26))
              have Q5 := Lib.hid (PgBox.new w4 qa qb qc qd qe (.slice A4 nq cp4))
              generalize w4.alloc (.cells #[.int .u8 qa, .int .u8 qb, .int .u32 qc, .int .u64 qd, .int .u32 qe, .slice A4 nq cp4] 26) = w5 at *
              have hb := BN.out
              clear BN
              have B5 := Lib.hid (below_then B4.out hb)
              have T5 := Lib.hid (T4.out.below hb)
              have P5 := Lib.hid (P4.out.below hb)
              have O5 := Lib.hid (OwnsRow64.under O4.out hb)
              have G5 := Lib.hid (G4.out.below hb)
              have OQ5 := Lib.hid (OQ4.out.below hb)
              have U5 := Lib.hid (U4.out.below hb)
              have hgw5 : gB ≤ w5.heap.size := Nat.le_trans hgw4 (Below.size hb)
              clear hb B4 hgw4 T4 P4 O4 G4 OQ4 U4
              have FQ : Hid (Far (.slice A4 nq cp4) (.slice NA m ncp) nq) := fun h0 q hq e => by
                have h1 := FF4.out q hq
                have h2 := OLT.out q e
                omega
              obtain ⟨x0, x1, x2, x3, x4, x5, x6⟩ := P5.out.cells
              obtain ⟨z0, z1, z2, z3, z4, z5, z6⟩ := Q5.out.cells
              go_upto_region 29 with fail
              go_upto_region 30 with (refine wpList_store_pg rfl (.tmp 5) (.tmp 137) rfl P5.out qa qb qc qd qe A4 nq cp4 (by rfl) (by rfl) ?_; intro wS hP hK; have PF := Lib.hid hP; have KF := Lib.hid hK; clear hP hK)
              clear x0 x1 x2 x3 x4 x5 x6 z0 z1 z2 z3 z4 z5 z6
              have UF := Lib.hid (TextsAt.off_pg U5.out P5.out (fun x e => by cases e) KF.out)
              have OF := Lib.hid (OthersKept.owns KF.out O5.out (fun q hq e => by have := (O5.out.lt q hq).1; omega))
              have BF := Lib.hid (OthersKept.below B5.out KF.out (fun k hk e => by omega))
              have hgF : gB ≤ wS.heap.size := Nat.le_trans hgw5 KF.out.size
              go_wp2_with fail
              exact ⟨⟨l1, ⟨qa, qb, qc, qd, qe, rowsQ⟩, L', ins, A4, cp4, rfl, by have := HL1.out; omega, h13q, SQ, RQ, Lib.hid (by simp only; rw [← Hnq.out]; exact PF.out), Lib.hid (by simp only; rw [← Hnq.out]; exact UF.out), Lib.hid (by rw [← HM.out]; exact OF.out), Lib.hid (by simp only; rw [← Hnq.out]; exact FQ.out), hgF, BF⟩, by have := HL1.out; simp only [intOf]; simp; omega⟩
          case neg =>
            have hni : tx ∉ ins := fun h => hroom (.inl h)
            have hm13 : ¬ m < 13 := fun h => hroom (.inr h)
            have his2 : is = false := by rw [HIS.out]; exact decide_eq_false hni
            subst his2
            obtain ⟨hput, hlen13, hdrops⟩ := rm_full SP.out RM.out HSG.out.1 HSG.out.2 (lsn := l1) (by omega) hni (by rw [← HM.out]; exact hm13)
            have hm : m = 13 := by rw [HM.out]; exact hlen13
            subst hm
            have hwm := Nat.mod_lt wh (show 13 > 0 by omega)
            obtain ⟨kd, hkd⟩ : ∃ z, z = wh % 13 := ⟨_, rfl⟩
            rw [← hkd] at hwm
            have hkdi : (wh : Int) % 13 = (kd : Int) := by omega
            have hkl : kd < ins.length := by rw [← HM.out]; exact hwm
            obtain ⟨d, ⟨qa, qb, qc, qd, qe, rowsQ⟩, L', o, hdrop, hd1, hd2, hd3, hap, hSQ, hput2, ho3⟩ := hdrops kd hkl
            obtain ⟨NA2, ncp2, hnv2, _, _, _, hn52⟩ := (n64_own O1.out).1
            obtain ⟨b7, o7, hNA2, hb7, hc7⟩ := hn52 (by omega)
            have hNA : NA = some ⟨b7, o7, none⟩ := by injection hnv2 with e1 _ _; exact e1.trans hNA2
            subst hNA
            have K1 := Lib.hid (show CellIs _ b7 (o7 + kd) _ from ⟨hb7, hc7 kd hkl⟩)
            clear hc7 hnv2 hNA2 hn52 hb7
            generalize ins[kd] = y at *
            clear hkl
            have CP2 := Lib.hid fun sv W h => CP.out sv W h
            rw [hput] at CP2
            have CA2 := Lib.hid fun sv W h => CA.out d l1 sv W h hd1 hd2 hd3 (by omega)
            rw [hap] at CA2
            have CD2 := Lib.hid fun sv W h => CD.out y sv W h
            rw [hdrop] at CD2
            have CP3 := Lib.hid fun sv W h => segPut_any ⟨qa, qb, qc, qd, qe, rowsQ⟩ sv ⟨tx, 1, 0, 7, 7, 7, i⟩ W hSQ.fits.1 h (by have := hSQ.fits.2.1; omega) HSG.out.2
            rw [hput2] at CP3
            unfold pgV sgV at CP3
            obtain ⟨o0, o1, o2, o3, o4, o5, o6, o7', o8⟩ := o
            obtain ⟨d0, d1, d2, d3, d4, d5, d6, d7, d8⟩ := d
            unfold odV at CP2 CA2 CD2 CP3
            unfold Od.zero at CP2
            simp only [List.toArray] at CP2
            simp only at CP2 CA2 CD2 CP3
            have hk0 : (0 : Int) ≤ (kd : Int) := by omega
            have hk13 : (kd : Int) < 13 := by omega
            clear hput hlen13 hdrops hkd hdrop hd1 hd2 hd3 hap hSQ hput2 ho3 CP CA CD hroom hni hm13
            obtain ⟨x0, x1, x2, x3, x4, x5, x6⟩ := P1.out.cells
            obtain ⟨s0, s1, s2, s3, s4, s5, s6, s7⟩ := G1.out.cells
            simp only at s1 s2 s3 s4 s5 s6 s7
            go_wp2_with fail
            clear x0 x1 x2 x3 x4 x5 x6 s0 s1 s2 s3 s4 s5 s6 s7
            refine (CP2.out _ _ T1.out).mono ?_
            rintro e w2 ⟨rfl, hb⟩
            have B2 := Lib.hid (below_then B1.out hb)
            have T2 := Lib.hid (T1.out.below hb)
            have P2 := Lib.hid (P1.out.below hb)
            have O2 := Lib.hid (OwnsRow64.under O1.out hb)
            have G2 := Lib.hid (G1.out.below hb)
            have K2 := Lib.hid (K1.out.below hb)
            have hgw2 : gB ≤ w2.heap.size := Nat.le_trans hgw1 (Below.size hb)
            clear hb B1 hgw1 T1 P1 O1 G1 K1
            obtain ⟨x0, x1, x2, x3, x4, x5, x6⟩ := P2.out.cells
            obtain ⟨s0, s1, s2, s3, s4, s5, s6, s7⟩ := G2.out.cells
            simp only at s1 s2 s3 s4 s5 s6 s7
            (try unfold odV)
            (try simp only)
            go_upto_region 17 with fail
            clear x0 x1 x2 x3 x4 x5 x6 s0 s1 s2 s3 s4 s5 s6 s7
            have BN := Lib.hid (alloc_below w2 (.cells #[.int .u8 0, .int .u32 0, .int .i64 0, .int .i64 0, .string ⟨#[]⟩, .slice none 0 0, .int .u8 0, .int .u8 0, .int .u32 0] 28))
            have OQ3 := Lib.hid (OAt.new w2 Od.zero (.slice none 0 0))
            generalize w2.alloc (.cells #[.int .u8 0, .int .u32 0, .int .i64 0, .int .i64 0, .string ⟨#[]⟩, .slice none 0 0, .int .u8 0, .int .u8 0, .int .u32 0] 28) = w3 at *
            have hb := BN.out
            clear BN
            have B3 := Lib.hid (below_then B2.out hb)
            have T3 := Lib.hid (T2.out.below hb)
            have P3 := Lib.hid (P2.out.below hb)
            have O3 := Lib.hid (OwnsRow64.under O2.out hb)
            have G3 := Lib.hid (G2.out.below hb)
            have K3 := Lib.hid (K2.out.below hb)
            have hgw3 : gB ≤ w3.heap.size := Nat.le_trans hgw2 (Below.size hb)
            clear hb B2 hgw2 T2 P2 O2 G2 K2
            clear OQ3
            go_upto_region 21 with fail
            try rw [hkdi]
            go_cut [16, 17] (fun s16 s17 w' => ∃ X, s16 = .pointer (some ⟨X, 0, none⟩) ∧ s17 = .int .i64 0 ∧ Hid (OAt w' X ⟨d0, d1, d2, d3, d4, d5, d6, d7, d8⟩ (.slice none 0 0)) ∧ Hid (Below w3.heap.size w3 w'))
            case first =>
              refine wp_region_held_drew (S := fun W => Below w3.heap.size w3 W ∧ True) (by kernel_rfl) (⟨(Below.refl _ _).drew, trivial⟩) (fun hHeld => ?_)
              generalize w3.drew = v0 at *
              refine wpAnyH_take (i := 0) (oi := { dst := some 93, op := Go.Op.load 26 (Go.Operand.tmp 5), type := 26, pos := "law.go:252", after := #[], guard := none }) (v := ?_) rfl (by kernel_rfl) (by kernel_rfl) (by kernel_rfl) (fun _ _ _ h => h) (Or.inl ⟨by rfl, ?_⟩) hHeld ?_
              rotate_left
              · (intro w hSw; obtain ⟨p0, p1, p2, p3, p4, p5, p6⟩ := (P3.out.below hSw.1).cells; have c7w := (K3.out.below hSw.1).2; go_simp <;> with_reducible rfl)
              simp only [Act.put, List.setIfInBounds_toArray, List.set_cons_zero, List.set_cons_succ]
              refine wpAnyH_take (i := 1) (oi := { dst := some 94, op := Go.Op.move (Go.Operand.tmp 6), type := 102, pos := "law.go:252", after := #[], guard := none }) (v := ?_) rfl (by kernel_rfl) (by kernel_rfl) (by kernel_rfl) (fun _ _ _ h => h) (Or.inl ⟨by rfl, ?_⟩) hHeld ?_
              rotate_left
              · (intro w hSw; obtain ⟨p0, p1, p2, p3, p4, p5, p6⟩ := (P3.out.below hSw.1).cells; have c7w := (K3.out.below hSw.1).2; go_simp <;> with_reducible rfl)
              simp only [Act.put, List.setIfInBounds_toArray, List.set_cons_zero, List.set_cons_succ]
              refine wpAnyH_take (i := 2) (oi := { dst := some 95, op := Go.Op.move (Go.Operand.tmp 15), type := 3, pos := "law.go:252", after := #[], guard := none }) (v := ?_) rfl (by kernel_rfl) (by kernel_rfl) (by kernel_rfl) (fun _ _ _ h => h) (Or.inl ⟨by rfl, ?_⟩) hHeld ?_
              rotate_left
              · (intro w hSw; obtain ⟨p0, p1, p2, p3, p4, p5, p6⟩ := (P3.out.below hSw.1).cells; have c7w := (K3.out.below hSw.1).2; go_simp <;> with_reducible rfl)
              simp only [Act.put, List.setIfInBounds_toArray, List.set_cons_zero, List.set_cons_succ]
              refine wpAnyH_take (i := 3) (oi := { dst := some 96, op := Go.Op.indexAddr 102 (Go.Operand.tmp 94) (Go.Operand.tmp 95), type := 0, pos := "law.go:252", after := #[{ on := 1, ground := Go.Ground.data }, { on := 2, ground := Go.Ground.data }], guard := none }) (v := ?_) rfl (by kernel_rfl) (by kernel_rfl) (by kernel_rfl) (fun _ _ _ h => h) (Or.inl ⟨by rfl, ?_⟩) hHeld ?_
              rotate_left
              · (intro w hSw; obtain ⟨p0, p1, p2, p3, p4, p5, p6⟩ := (P3.out.below hSw.1).cells; have c7w := (K3.out.below hSw.1).2; go_simp <;> with_reducible rfl)
              simp only [Act.put, List.setIfInBounds_toArray, List.set_cons_zero, List.set_cons_succ]
              refine wpAnyH_take (i := 4) (oi := { dst := some 97, op := Go.Op.load 23 (Go.Operand.tmp 96), type := 23, pos := "law.go:252", after := #[{ on := 3, ground := Go.Ground.data }], guard := none }) (v := ?_) rfl (by kernel_rfl) (by kernel_rfl) (by kernel_rfl) (fun _ _ _ h => h) (Or.inl ⟨by rfl, ?_⟩) hHeld ?_
              rotate_left
              · (intro w hSw; obtain ⟨p0, p1, p2, p3, p4, p5, p6⟩ := (P3.out.below hSw.1).cells; have c7w := (K3.out.below hSw.1).2; go_simp <;> with_reducible rfl)
              simp only [Act.put, List.setIfInBounds_toArray, List.set_cons_zero, List.set_cons_succ]
              refine wpAnyH_ready (rs := [5, 9]) (by kernel_rfl) (by simp) (AllReadyH.cons (o := { dst := some 98, op := Go.Op.call { callee := Go.Callee.value (Go.Operand.func 72), args := #[Go.Operand.tmp 93, Go.Operand.tmp 97], argTypes := #[26, 23] }, type := 48, pos := "law.go:252", after := #[{ on := 0, ground := Go.Ground.data }, { on := 4, ground := Go.Ground.data }], guard := none }) rfl (fun K hK => ?_) (AllReadyH.cons (o := { dst := some 16, op := Go.Op.alloc 28, type := 0, pos := "law.go:252", after := #[], guard := none }) rfl (fun K hK => ?_) AllReadyH.nil))
              · go_simp
                refine (CD2.out _ _ (T3.out.below hHeld.1)).mono ?_
                rintro e v9 ⟨rfl, hb⟩
                have hS9 := Lib.hid (And.intro (below_then hHeld.1 hb) trivial)
                clear hb hHeld
                refine hK.out _ _ ?_ (fun hHeld => ?_)
                · exact hS9.out
                clear hK K
                (try simp only [Act.put, List.setIfInBounds_toArray, List.set_cons_zero, List.set_cons_succ])
                refine wpAnyH_take (i := 6) (oi := { dst := some 92, op := Go.Op.move (Go.Operand.tmp 98), type := 48, pos := "law.go:252", after := #[{ on := 5, ground := Go.Ground.data }], guard := none }) (v := ?_) rfl (by kernel_rfl) (by kernel_rfl) (by kernel_rfl) (fun _ _ _ h => h) (Or.inl ⟨by rfl, ?_⟩) hHeld ?_
                rotate_left
                · (intro w hSw; obtain ⟨p0, p1, p2, p3, p4, p5, p6⟩ := (P3.out.below hSw.1).cells; have c7w := (K3.out.below hSw.1).2; go_simp <;> with_reducible rfl)
                simp only [Act.put, List.setIfInBounds_toArray, List.set_cons_zero, List.set_cons_succ]
                refine wpAnyH_take (i := 7) (oi := { dst := some 99, op := Go.Op.extract (Go.Operand.tmp 92) 0, type := 28, pos := "law.go:252", after := #[{ on := 6, ground := Go.Ground.data }], guard := none }) (v := ?_) rfl (by kernel_rfl) (by kernel_rfl) (by kernel_rfl) (fun _ _ _ h => h) (Or.inl ⟨by rfl, ?_⟩) hHeld ?_
                rotate_left
                · (intro w hSw; obtain ⟨p0, p1, p2, p3, p4, p5, p6⟩ := (P3.out.below hSw.1).cells; have c7w := (K3.out.below hSw.1).2; go_simp <;> with_reducible rfl)
                simp only [Act.put, List.setIfInBounds_toArray, List.set_cons_zero, List.set_cons_succ]
                refine wpAnyH_take (i := 8) (oi := { dst := some 100, op := Go.Op.extract (Go.Operand.tmp 92) 1, type := 34, pos := "law.go:252", after := #[{ on := 6, ground := Go.Ground.data }, { on := 10, ground := Go.Ground.gcOnly Go.Departure.lateStores }], guard := none }) (v := ?_) rfl (by kernel_rfl) (by kernel_rfl) (by kernel_rfl) (fun _ _ _ h => h) (Or.inl ⟨by rfl, ?_⟩) hHeld ?_
                rotate_left
                · (intro w hSw; obtain ⟨p0, p1, p2, p3, p4, p5, p6⟩ := (P3.out.below hSw.1).cells; have c7w := (K3.out.below hSw.1).2; go_simp <;> with_reducible rfl)
                simp only [Act.put, List.setIfInBounds_toArray, List.set_cons_zero, List.set_cons_succ]
                refine wpAnyH_ready (rs := [9]) (by kernel_rfl) (by simp) (AllReadyH.cons (o := { dst := some 16, op := Go.Op.alloc 28, type := 0, pos := "law.go:252", after := #[], guard := none }) rfl (fun K hK => ?_) AllReadyH.nil)
                · go_simp
                  have ZZ : Hid (OAt (v9.alloc (.cells #[.int .u8 0, .int .u32 0, .int .i64 0, .int .i64 0, .string ⟨#[]⟩, .slice none 0 0, .int .u8 0, .int .u8 0, .int .u32 0] 28)) v9.heap.size Od.zero (.slice none 0 0)) := OAt.new v9 Od.zero (.slice none 0 0)
                  have hS8 := Lib.hid (And.intro (below_then hHeld.1 (alloc_below v9 (.cells #[.int .u8 0, .int .u32 0, .int .i64 0, .int .i64 0, .string ⟨#[]⟩, .slice none 0 0, .int .u8 0, .int .u8 0, .int .u32 0] 28))) trivial)
                  have hgX : w3.heap.size ≤ v9.heap.size := hHeld.1.size
                  obtain ⟨X, hX⟩ : ∃ z, z = v9.heap.size := ⟨_, rfl⟩
                  rw [← hX] at ZZ hgX ⊢
                  generalize v9.alloc (.cells #[.int .u8 0, .int .u32 0, .int .i64 0, .int .i64 0, .string ⟨#[]⟩, .slice none 0 0, .int .u8 0, .int .u8 0, .int .u32 0] 28) = v8 at *
                  clear hX hHeld
                  refine hK.out _ _ ?_ (fun hHeld => ?_)
                  · exact hS8.out
                  clear hK K
                  (try simp only [Act.put, List.setIfInBounds_toArray, List.set_cons_zero, List.set_cons_succ])
                  refine wpAnyH_ready (rs := [10]) (by kernel_rfl) (by simp) (AllReadyH.cons (o := { dst := none, op := Go.Op.store 28 (Go.Operand.tmp 16) (Go.Operand.tmp 99), type := 0, pos := "law.go:252", after := #[{ on := 9, ground := Go.Ground.data }, { on := 7, ground := Go.Ground.data }, { on := 5, ground := Go.Ground.chain }, { on := 0, ground := Go.Ground.phase }, { on := 1, ground := Go.Ground.phase }, { on := 2, ground := Go.Ground.phase }, { on := 3, ground := Go.Ground.phase }, { on := 4, ground := Go.Ground.phase }, { on := 5, ground := Go.Ground.phase }, { on := 6, ground := Go.Ground.phase }, { on := 7, ground := Go.Ground.phase }, { on := 8, ground := Go.Ground.textOnly Go.Departure.lateStores }, { on := 9, ground := Go.Ground.phase }], guard := none }) rfl (fun K hK => ?_) AllReadyH.nil)
                  · refine step_store_op rfl (.tmp 16) (.tmp 99) rfl ZZ.out ⟨d0, d1, d2, d3, d4, d5, d6, d7, d8⟩ none 0 0 (by rfl) (by rfl) ?_
                    intro v7 hOq hKq
                    have OS := Lib.hid hOq
                    have hS7 := Lib.hid (And.intro (OthersKept.below hHeld.1 hKq (fun k hk e => by omega)) trivial)
                    clear hOq hKq hHeld
                    refine hK.out _ _ ?_ (fun hHeld => ?_)
                    · exact hS7.out
                    clear hK K
                    (try simp only [Act.put, List.setIfInBounds_toArray, List.set_cons_zero, List.set_cons_succ])
                    refine wpAnyH_take (i := 11) (oi := { dst := some 17, op := Go.Op.assign (Go.Operand.tmp 100), type := 34, pos := "law.go:252", after := #[{ on := 8, ground := Go.Ground.data }, { on := 10, ground := Go.Ground.chain }, { on := 0, ground := Go.Ground.phase }, { on := 1, ground := Go.Ground.phase }, { on := 2, ground := Go.Ground.phase }, { on := 3, ground := Go.Ground.phase }, { on := 4, ground := Go.Ground.phase }, { on := 5, ground := Go.Ground.phase }, { on := 6, ground := Go.Ground.phase }, { on := 7, ground := Go.Ground.phase }, { on := 8, ground := Go.Ground.phase }, { on := 9, ground := Go.Ground.phase }, { on := 10, ground := Go.Ground.phase }], guard := none }) (v := ?_) rfl (by kernel_rfl) (by kernel_rfl) (by kernel_rfl) (fun _ _ _ h => h) (Or.inl ⟨by rfl, ?_⟩) hHeld ?_
                    rotate_left
                    · (intro w hSw; obtain ⟨p0, p1, p2, p3, p4, p5, p6⟩ := (P3.out.below hSw.1).cells; have c7w := (K3.out.below hSw.1).2; go_simp <;> with_reducible rfl)
                    simp only [Act.put, List.setIfInBounds_toArray, List.set_cons_zero, List.set_cons_succ]
                    refine wpAnyH_done (by kernel_rfl) ?_ _
                    go_wp2_with fail
                    go_meet
                    exact ⟨X, rfl, rfl, OS, Lib.hid hHeld.1⟩
              · go_simp
                have ZZ : Hid (OAt (v0.alloc (.cells #[.int .u8 0, .int .u32 0, .int .i64 0, .int .i64 0, .string ⟨#[]⟩, .slice none 0 0, .int .u8 0, .int .u8 0, .int .u32 0] 28)) v0.heap.size Od.zero (.slice none 0 0)) := OAt.new v0 Od.zero (.slice none 0 0)
                have hS8 := Lib.hid (And.intro (below_then hHeld.1 (alloc_below v0 (.cells #[.int .u8 0, .int .u32 0, .int .i64 0, .int .i64 0, .string ⟨#[]⟩, .slice none 0 0, .int .u8 0, .int .u8 0, .int .u32 0] 28))) trivial)
                have hgX : w3.heap.size ≤ v0.heap.size := hHeld.1.size
                obtain ⟨X, hX⟩ : ∃ z, z = v0.heap.size := ⟨_, rfl⟩
                rw [← hX] at ZZ hgX ⊢
                generalize v0.alloc (.cells #[.int .u8 0, .int .u32 0, .int .i64 0, .int .i64 0, .string ⟨#[]⟩, .slice none 0 0, .int .u8 0, .int .u8 0, .int .u32 0] 28) = v8 at *
                clear hX hHeld
                refine hK.out _ _ ?_ (fun hHeld => ?_)
                · exact hS8.out
                clear hK K
                (try simp only [Act.put, List.setIfInBounds_toArray, List.set_cons_zero, List.set_cons_succ])
                refine wpAnyH_ready (rs := [5]) (by kernel_rfl) (by simp) (AllReadyH.cons (o := { dst := some 98, op := Go.Op.call { callee := Go.Callee.value (Go.Operand.func 72), args := #[Go.Operand.tmp 93, Go.Operand.tmp 97], argTypes := #[26, 23] }, type := 48, pos := "law.go:252", after := #[{ on := 0, ground := Go.Ground.data }, { on := 4, ground := Go.Ground.data }], guard := none }) rfl (fun K hK => ?_) AllReadyH.nil)
                · go_simp
                  refine (CD2.out _ _ (T3.out.below hHeld.1)).mono ?_
                  rintro e v9 ⟨rfl, hb⟩
                  have hS9 := Lib.hid (And.intro (below_then hHeld.1 hb) trivial)
                  have ZZ := Lib.hid (ZZ.out.under hb)
                  clear hb hHeld
                  refine hK.out _ _ ?_ (fun hHeld => ?_)
                  · exact hS9.out
                  clear hK K
                  (try simp only [Act.put, List.setIfInBounds_toArray, List.set_cons_zero, List.set_cons_succ])
                  refine wpAnyH_take (i := 6) (oi := { dst := some 92, op := Go.Op.move (Go.Operand.tmp 98), type := 48, pos := "law.go:252", after := #[{ on := 5, ground := Go.Ground.data }], guard := none }) (v := ?_) rfl (by kernel_rfl) (by kernel_rfl) (by kernel_rfl) (fun _ _ _ h => h) (Or.inl ⟨by rfl, ?_⟩) hHeld ?_
                  rotate_left
                  · (intro w hSw; obtain ⟨p0, p1, p2, p3, p4, p5, p6⟩ := (P3.out.below hSw.1).cells; have c7w := (K3.out.below hSw.1).2; go_simp <;> with_reducible rfl)
                  simp only [Act.put, List.setIfInBounds_toArray, List.set_cons_zero, List.set_cons_succ]
                  refine wpAnyH_take (i := 7) (oi := { dst := some 99, op := Go.Op.extract (Go.Operand.tmp 92) 0, type := 28, pos := "law.go:252", after := #[{ on := 6, ground := Go.Ground.data }], guard := none }) (v := ?_) rfl (by kernel_rfl) (by kernel_rfl) (by kernel_rfl) (fun _ _ _ h => h) (Or.inl ⟨by rfl, ?_⟩) hHeld ?_
                  rotate_left
                  · (intro w hSw; obtain ⟨p0, p1, p2, p3, p4, p5, p6⟩ := (P3.out.below hSw.1).cells; have c7w := (K3.out.below hSw.1).2; go_simp <;> with_reducible rfl)
                  simp only [Act.put, List.setIfInBounds_toArray, List.set_cons_zero, List.set_cons_succ]
                  refine wpAnyH_take (i := 8) (oi := { dst := some 100, op := Go.Op.extract (Go.Operand.tmp 92) 1, type := 34, pos := "law.go:252", after := #[{ on := 6, ground := Go.Ground.data }, { on := 10, ground := Go.Ground.gcOnly Go.Departure.lateStores }], guard := none }) (v := ?_) rfl (by kernel_rfl) (by kernel_rfl) (by kernel_rfl) (fun _ _ _ h => h) (Or.inl ⟨by rfl, ?_⟩) hHeld ?_
                  rotate_left
                  · (intro w hSw; obtain ⟨p0, p1, p2, p3, p4, p5, p6⟩ := (P3.out.below hSw.1).cells; have c7w := (K3.out.below hSw.1).2; go_simp <;> with_reducible rfl)
                  simp only [Act.put, List.setIfInBounds_toArray, List.set_cons_zero, List.set_cons_succ]
                  refine wpAnyH_ready (rs := [10]) (by kernel_rfl) (by simp) (AllReadyH.cons (o := { dst := none, op := Go.Op.store 28 (Go.Operand.tmp 16) (Go.Operand.tmp 99), type := 0, pos := "law.go:252", after := #[{ on := 9, ground := Go.Ground.data }, { on := 7, ground := Go.Ground.data }, { on := 5, ground := Go.Ground.chain }, { on := 0, ground := Go.Ground.phase }, { on := 1, ground := Go.Ground.phase }, { on := 2, ground := Go.Ground.phase }, { on := 3, ground := Go.Ground.phase }, { on := 4, ground := Go.Ground.phase }, { on := 5, ground := Go.Ground.phase }, { on := 6, ground := Go.Ground.phase }, { on := 7, ground := Go.Ground.phase }, { on := 8, ground := Go.Ground.textOnly Go.Departure.lateStores }, { on := 9, ground := Go.Ground.phase }], guard := none }) rfl (fun K hK => ?_) AllReadyH.nil)
                  · refine step_store_op rfl (.tmp 16) (.tmp 99) rfl ZZ.out ⟨d0, d1, d2, d3, d4, d5, d6, d7, d8⟩ none 0 0 (by rfl) (by rfl) ?_
                    intro v7 hOq hKq
                    have OS := Lib.hid hOq
                    have hS7 := Lib.hid (And.intro (OthersKept.below hHeld.1 hKq (fun k hk e => by omega)) trivial)
                    clear hOq hKq hHeld
                    refine hK.out _ _ ?_ (fun hHeld => ?_)
                    · exact hS7.out
                    clear hK K
                    (try simp only [Act.put, List.setIfInBounds_toArray, List.set_cons_zero, List.set_cons_succ])
                    refine wpAnyH_take (i := 11) (oi := { dst := some 17, op := Go.Op.assign (Go.Operand.tmp 100), type := 34, pos := "law.go:252", after := #[{ on := 8, ground := Go.Ground.data }, { on := 10, ground := Go.Ground.chain }, { on := 0, ground := Go.Ground.phase }, { on := 1, ground := Go.Ground.phase }, { on := 2, ground := Go.Ground.phase }, { on := 3, ground := Go.Ground.phase }, { on := 4, ground := Go.Ground.phase }, { on := 5, ground := Go.Ground.phase }, { on := 6, ground := Go.Ground.phase }, { on := 7, ground := Go.Ground.phase }, { on := 8, ground := Go.Ground.phase }, { on := 9, ground := Go.Ground.phase }, { on := 10, ground := Go.Ground.phase }], guard := none }) (v := ?_) rfl (by kernel_rfl) (by kernel_rfl) (by kernel_rfl) (fun _ _ _ h => h) (Or.inl ⟨by rfl, ?_⟩) hHeld ?_
                    rotate_left
                    · (intro w hSw; obtain ⟨p0, p1, p2, p3, p4, p5, p6⟩ := (P3.out.below hSw.1).cells; have c7w := (K3.out.below hSw.1).2; go_simp <;> with_reducible rfl)
                    simp only [Act.put, List.setIfInBounds_toArray, List.set_cons_zero, List.set_cons_succ]
                    refine wpAnyH_done (by kernel_rfl) ?_ _
                    go_wp2_with fail
                    go_meet
                    exact ⟨X, rfl, rfl, OS, Lib.hid hHeld.1⟩
            case rest =>
            obtain ⟨X, rfl, rfl, OD0, hBX⟩ := hcut
            have hb := hBX.out
            have OD4 := OD0
            clear hBX OD0 CD2
            generalize wc = w4 at *
            have B4 := Lib.hid (below_then B3.out hb)
            have T4 := Lib.hid (T3.out.below hb)
            have P4 := Lib.hid (P3.out.below hb)
            have O4 := Lib.hid (OwnsRow64.under O3.out hb)
            have G4 := Lib.hid (G3.out.below hb)
            have K4 := Lib.hid (K3.out.below hb)
            have hgw4 : gB ≤ w4.heap.size := Nat.le_trans hgw3 (Below.size hb)
            clear hb B3 hgw3 T3 P3 O3 G3 K3
            obtain ⟨x0, x1, x2, x3, x4, x5, x6⟩ := P4.out.cells
            obtain ⟨s0, s1, s2, s3, s4, s5, s6, s7⟩ := G4.out.cells
            simp only at s1 s2 s3 s4 s5 s6 s7
            obtain ⟨h0, h1, h2, h3, h4, h5, h6, h7, h8⟩ := OD4.out.cells
            simp only at h0 h1 h2 h3 h4 h5 h6 h7 h8
            have h9 := blk_lt OD4.out
            go_wp2_with fail
            clear x0 x1 x2 x3 x4 x5 x6 s0 s1 s2 s3 s4 s5 s6 s7 h0 h1 h2 h3 h4 h5 h6 h7 h8 h9
            refine (CA2.out _ _ T4.out).mono ?_
            rintro e w5 ⟨sv5, rfl, G, hb, hF5⟩
            (try simp only at G)
            obtain ⟨nq, hnq⟩ : ∃ z, z = rowsQ.length := ⟨_, rfl⟩
            have Hnq := Lib.hid hnq
            clear hnq
            have U5 := Lib.hid G
            obtain ⟨A5, cp5, hv5, _, _, _, _⟩ := G
            rw [← Hnq.out] at hv5
            subst hv5
            have FF5 := Lib.hid hF5
            clear hF5
            have B5 := Lib.hid (below_then B4.out hb)
            have T5 := Lib.hid (T4.out.below hb)
            have P5 := Lib.hid (P4.out.below hb)
            have O5 := Lib.hid (OwnsRow64.under O4.out hb)
            have G5 := Lib.hid (G4.out.below hb)
            have K5 := Lib.hid (K4.out.below hb)
            have OD5 := Lib.hid (OD4.out.below hb)
            have hgw5 : gB ≤ w5.heap.size := Nat.le_trans hgw4 (Below.size hb)
            clear hb B4 hgw4 T4 P4 O4 G4 K4 OD4
            obtain ⟨x0, x1, x2, x3, x4, x5, x6⟩ := P5.out.cells
            obtain ⟨s0, s1, s2, s3, s4, s5, s6, s7⟩ := G5.out.cells
            simp only at s1 s2 s3 s4 s5 s6 s7
            obtain ⟨h0, h1, h2, h3, h4, h5, h6, h7, h8⟩ := OD5.out.cells
            simp only at h0 h1 h2 h3 h4 h5 h6 h7 h8
            have h9 := blk_lt OD5.out
            (try unfold pgV)
            (try simp only)
            go_upto_region 23 with fail
            clear x0 x1 x2 x3 x4 x5 x6 s0 s1 s2 s3 s4 s5 s6 s7 h0 h1 h2 h3 h4 h5 h6 h7 h8 h9
            have BN := Lib.hid (alloc_below w5 (.cells #[.int .u8 qa, .int .u8 qb, .int .u32 qc, .int .u64 qd, .int .u32 qe, .slice A5 nq cp5] 26))
            have Q6 := Lib.hid (PgBox.new w5 qa qb qc qd qe (.slice A5 nq cp5))
            generalize w5.alloc (.cells #[.int .u8 qa, .int .u8 qb, .int .u32 qc, .int .u64 qd, .int .u32 qe, .slice A5 nq cp5] 26) = w6 at *
            have hb := BN.out
            clear BN
            have B6 := Lib.hid (below_then B5.out hb)
            have T6 := Lib.hid (T5.out.below hb)
            have P6 := Lib.hid (P5.out.below hb)
            have O6 := Lib.hid (OwnsRow64.under O5.out hb)
            have G6 := Lib.hid (G5.out.below hb)
            have K6 := Lib.hid (K5.out.below hb)
            have OD6 := Lib.hid (OD5.out.below hb)
            have U6 := Lib.hid (U5.out.below hb)
            have hgw6 : gB ≤ w6.heap.size := Nat.le_trans hgw5 (Below.size hb)
            clear hb B5 hgw5 T5 P5 O5 G5 K5 OD5 U5
            clear CA2
            clear OD6
            obtain ⟨x0, x1, x2, x3, x4, x5, x6⟩ := P6.out.cells
            obtain ⟨s0, s1, s2, s3, s4, s5, s6, s7⟩ := G6.out.cells
            simp only at s1 s2 s3 s4 s5 s6 s7
            obtain ⟨z0, z1, z2, z3, z4, z5, z6⟩ := Q6.out.cells
            go_wp2_with fail
            clear x0 x1 x2 x3 x4 x5 x6 s0 s1 s2 s3 s4 s5 s6 s7 z0 z1 z2 z3 z4 z5 z6
            refine (CP3.out _ _ U6.out).mono ?_
            rintro e w7 ⟨rfl, hb⟩
            have B7 := Lib.hid (below_then B6.out hb)
            have T7 := Lib.hid (T6.out.below hb)
            have P7 := Lib.hid (P6.out.below hb)
            have O7 := Lib.hid (OwnsRow64.under O6.out hb)
            have G7 := Lib.hid (G6.out.below hb)
            have K7 := Lib.hid (K6.out.below hb)
            have U7 := Lib.hid (U6.out.below hb)
            have Q7 := Lib.hid (Q6.out.below hb)
            have hgw7 : gB ≤ w7.heap.size := Nat.le_trans hgw6 (Below.size hb)
            clear hb B6 hgw6 T6 P6 O6 G6 K6 U6 Q6
            obtain ⟨x0, x1, x2, x3, x4, x5, x6⟩ := P7.out.cells
            obtain ⟨s0, s1, s2, s3, s4, s5, s6, s7⟩ := G7.out.cells
            simp only at s1 s2 s3 s4 s5 s6 s7
            obtain ⟨z0, z1, z2, z3, z4, z5, z6⟩ := Q7.out.cells
            (try unfold odV)
            (try simp only)
            go_upto_region 24 with fail
            clear x0 x1 x2 x3 x4 x5 x6 s0 s1 s2 s3 s4 s5 s6 s7 z0 z1 z2 z3 z4 z5 z6
            have BN := Lib.hid (alloc_below w7 (.cells #[.int .u8 o0, .int .u32 o1, .int .i64 o2, .int .i64 o3, .string ⟨o4.toArray⟩, .slice none 0 0, .int .u8 o6, .int .u8 o7', .int .u32 o8] 28))
            have OP8 := Lib.hid (OAt.new w7 ⟨o0, o1, o2, o3, o4, o5, o6, o7', o8⟩ (.slice none 0 0))
            generalize w7.alloc (.cells #[.int .u8 o0, .int .u32 o1, .int .i64 o2, .int .i64 o3, .string ⟨o4.toArray⟩, .slice none 0 0, .int .u8 o6, .int .u8 o7', .int .u32 o8] 28) = w8 at *
            have hb := BN.out
            clear BN
            have B8 := Lib.hid (below_then B7.out hb)
            have T8 := Lib.hid (T7.out.below hb)
            have P8 := Lib.hid (P7.out.below hb)
            have O8 := Lib.hid (OwnsRow64.under O7.out hb)
            have G8 := Lib.hid (G7.out.below hb)
            have K8 := Lib.hid (K7.out.below hb)
            have U8 := Lib.hid (U7.out.below hb)
            have Q8 := Lib.hid (Q7.out.below hb)
            have hgw8 : gB ≤ w8.heap.size := Nat.le_trans hgw7 (Below.size hb)
            clear hb B7 hgw7 T7 P7 O7 G7 K7 U7 Q7
            go_wp2_with fail
            exact ⟨⟨l1, ⟨pa, pb, pc, pd, pe, rowsP⟩, L, ins, A, c, rfl, by have := HL1.out; omega, by rw [← HM.out]; omega, SP, RM, Lib.hid (by simp only; rw [← HNP.out]; exact P8.out), Lib.hid (by simp only; rw [← HNP.out]; exact T8.out), Lib.hid (by rw [← HM.out]; exact O8.out), Lib.hid (by simp only; rw [← HNP.out]; exact FR.out), hgw8, B8⟩, by have := HL1.out; simp only [intOf]; simp; omega⟩
    · have hci : ¬ (i : Int) < (tn : Int) := by omega
      have B0 := BB
      have T0 := TT
      have P0 := PB
      generalize wr = w0 at *
      clear BB TT PB
      obtain ⟨NA, ncp, hnv, _, _, _, _⟩ := (n64_own OO.out).1
      rw [← HM.out] at hnv
      subst hnv
      have CJ := Lib.hid fun s1 v W h => active_law SP.out RM.out s1 v W h
      have PJ := Lib.hid (PgsIn.one w0 ⟨pa, pb, pc, pd, pe, rowsP⟩ (.slice A np c) T0.out)
      simp only at PJ
      have hb2 := alloc_below w0 (.cells #[.int .u8 pa, .int .u8 pb, .int .u32 pc, .int .u64 pd, .int .u32 pe, .slice A np c] 26)
      obtain ⟨x0, x1, x2, x3, x4, x5, x6⟩ := P0.out.cells
      go_wp2_with fail
      refine (CJ.out _ _ _ PJ.out).mono ?_
      rintro e w1 ⟨VA, vcp, rfl, hb1⟩
      have BF := Lib.hid (below_then (below_then B0.out hb2) hb1)
      rw [← HM.out]
      have hmm : ((m : Int) == (m : Int)) = true := by simp
      clear hb1 hb2 PJ x0 x1 x2 x3 x4 x5 x6
      go_wp2_with fail
      refine (AL.out _).mono ?_
      rintro e w2 ⟨rfl, hb⟩
      have BG := Lib.hid (below_then BF.out hb)
      clear hb
      go_wp2_with fail
      go_ret
      exact ⟨rfl, BG.out⟩
end Go.Proofs.Ytienlhnbmobinaa
end
