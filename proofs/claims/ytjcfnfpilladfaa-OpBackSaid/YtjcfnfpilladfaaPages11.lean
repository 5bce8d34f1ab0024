/- op.Pages -/
import Derived.Test.YtjcfnfpilladfaaRows
import Derived.Test.YtjcfnfpilladfaaAppTwo
import Derived.Test.YtjcfnfpilladfaaOpIn
import Derived.Test.YtjcfnfpilladfaaOpPlain
import Derived.Test.YtjcfnfpilladfaaOpLaw
import Derived.Test.YtjcfnfpilladfaaTextsP
import Derived.Test.YtjcfnfpilladfaaTextsMove
import Derived.Test.YtjcfnfpilladfaaPlains
import Derived.Test.YtjcfnfpilladfaaBase
import Derived.Test.YtjcfnfpilladfaaTextsIn
import Derived.Test.YtjcfnfpilladfaaOpenFlat
import Derived.Test.YtjcfnfpilladfaaHeavy11
import Derived.Test.YtjcfnfpilladfaaPgsOwn
import Derived.Test.YtjcfnfpilladfaaNodeWeigh
import Derived.Test.YtjcfnfpilladfaaOpRedo11
import Derived.Test.YtjcfnfpilladfaaOpApply
import Derived.Test.YtjcfnfpilladfaaOpDoes
import Derived.Test.YtjcfnfpilladfaaOpWrite
import Derived.Test.YtjcfnfpilladfaaOpEnc
import Derived.Test.YtjcfnfpilladfaaOpPart
import Derived.Test.YtjcfnfpilladfaaOpDoesMap
import Derived.Test.YtjcfnfpilladfaaRefBytes11
import Derived.Test.YtjcfnfpilladfaaAlive11
import Derived.Test.YtjcfnfpilladfaaPgStore
import Derived.Test.YtjcfnfpilladfaaS32A
import Derived.Test.YtjcfnfpilladfaaS32B
import Derived.Test.YtjcfnfpilladfaaS32C
import Derived.Test.YtjcfnfpilladfaaS32D
import Derived.Test.YtjcfnfpilladfaaOpDec
import Derived.Test.YtjcfnfpilladfaaOpGo
import Derived.Test.YtjcfnfpilladfaaOpNum
import Derived.Deep.CutBlock
import Derived.WalkKit
import Derived.WalkLawsBesides
import Derived.WalkSpells
import Derived.LoopTactic
import Derived.WalkMore
import Derived.LoopN
import Derived.Laws.BitsAllLaws
import Derived.Laws.IdiomStrings
import Derived.BigQuiet
import Derived.Deep.QuietTactic
import Derived.Deep.DeepCutAuto
import Derived.Deep.RegionHeld3
import Derived.Deep.DrawnRows
import Derived.Lib.Hide
import Derived.Outline
import Derived.Deep.DeepMust
import Derived.Handy
namespace Go.Proofs.Ytjcfnfpilladfaa
open Go.RowKit
set_option linter.unusedVariables false
set_option linter.unusedSimpArgs false

theorem num_one32 (w : World) (x : Nat) : Reads (w.alloc (.cells #[.int .u32 (x : Int)] 23)) (.slice (some ⟨w.heap.size, 0, none⟩) 1 1) 1 1 [.int .u32 (x : Int)] :=
  .inr ⟨_, 1, rfl, rfl, one_new _ _ _⟩
theorem Try.infoU32 : (Try.prog.info? 23).map (fun i => (i.zero, i.size, i.bytes)) = some (some (.int .u32 0), 1, 4) := by kernel_rfl
set_option maxHeartbeats 4000000 in
set_option maxRecDepth 100000 in
theorem opPages_any (v : Value) (L : List Ov) (w : World) (h : OpsAt w v L) (hn9 : L.length ≤ 100000) :
    Calls Try.prog 59 #[v] w fun e w' => ∃ v' ys, e = .returned v' ∧ NumsAt w' v' ys ∧ ys.Pairwise (· < ·) ∧ (∀ z, z ∈ ys ↔ z ∈ L.map (fun e => e.o.page)) ∧ ys.length ≤ 100000 ∧ Below w.heap.size w w' := by
  obtain ⟨VA, vcp, rfl, h2, h3, h4, h5⟩ := h
  obtain ⟨n, hn⟩ : ∃ n, n = L.length := ⟨_, rfl⟩
  rw [← hn] at h2 hn9 ⊢
  unfold maxLen at h3
  have H4 := Lib.hid h4
  have HN := Lib.hid hn
  obtain ⟨i0, hif, hz0, hz1, hz2⟩ := info_parts Try.infoU32
  have HI := Lib.hid hif
  have HI0 := Lib.hid hz0
  have HI1 := Lib.hid hz1
  have HI2 := Lib.hid hz2
  clear hif hz0 hz1 hz2 h4 h5 hn
  have B0 := Lib.hid (Below.refl w.heap.size w)
  go_enter Try.func59, Try.ntmps59
  go_wp2_with fail
  go_loopw [2, 7] (fun s2 s7 wr => ∃ (i : Nat), s7 = .int .i64 i ∧ i ≤ n ∧ Hid (wr.ownsRow w.heap.size 23 1 s2 i (nums ((L.map (fun e => e.o.page)).take i))) ∧ Hid (Below w.heap.size w wr)) (fun _ v _ => n - (intOf v).toNat)
  case atStart => exact ⟨0, rfl, Nat.zero_le _, Lib.hid (World.ownsRow_nil _ _ _ _), B0⟩
  case round =>
    obtain ⟨i, rfl, hi, HO, HB⟩ := hrel
    by_cases hc2 : i < n
    · have hci : (i : Int) < (n : Int) := by omega
      have q1 : (0 : Int) ≤ (i : Int) := by omega
      have hil : i < L.length := by rw [← HN.out]; exact hc2
      obtain ⟨b0, o0, rfl, hb0, hcell⟩ := H4.out (by rw [← HN.out]; omega)
      have hx := hcell i hil
      have htk : (L.map (fun e => e.o.page)).take (i + 1) = (L.map (fun e => e.o.page)).take i ++ [L[i].o.page] := by
        rw [List.take_succ_eq_append_getElem (by simpa using hil), List.getElem_map]
      have HTK := Lib.hid htk
      clear hcell htk
      generalize L[i] = e at *
      obtain ⟨x0, x1, x2, x3, x4, x5, x6, x7, x8⟩ := ov_cells (w := wr) (b := b0) (o := o0 + i * 9) (e := e) (fun j v hv => (HB.out.cell (p := ⟨b0, o0 + i * 9 + j, none⟩) hb0).trans (hx j v hv))
      clear hx
      obtain ⟨⟨ok, page, oat, ooff, text, orows, pk, lv, nx⟩, eb, ec⟩ := e
      simp only [Ov.sv] at *
      obtain ⟨rl, hrl⟩ : ∃ k, k = orows.length := ⟨_, rfl⟩
      rw [← hrl] at x5
      clear hrl
      have A5 := Lib.hid (alloc_below wr (.cells #[.int .u8 ok, .int .u32 page, .int .i64 oat, .int .i64 ooff, .string ⟨text.toArray⟩, .slice eb rl ec, .int .u8 pk, .int .u8 lv, .int .u32 nx] 26))
      have B5 := Lib.hid (HB.out.alloc HB.out.size (.cells #[.int .u8 ok, .int .u32 page, .int .i64 oat, .int .i64 ooff, .string ⟨text.toArray⟩, .slice eb rl ec, .int .u8 pk, .int .u8 lv, .int .u32 nx] 26))
      have O5 := Lib.hid (own_below HO.out A5.out)
      have X5 := Lib.hid (show OAt (wr.alloc (.cells #[.int .u8 ok, .int .u32 page, .int .i64 oat, .int .i64 ooff, .string ⟨text.toArray⟩, .slice eb rl ec, .int .u8 pk, .int .u8 lv, .int .u32 nx] 26)) wr.heap.size ⟨ok, page, oat, ooff, text, orows, pk, lv, nx⟩ (.slice eb rl ec) from heap_alloc_new wr _)
      go_upto_region 4 with fail
      generalize wr.alloc (.cells #[.int .u8 ok, .int .u32 page, .int .i64 oat, .int .i64 ooff, .string ⟨text.toArray⟩, .slice eb rl ec, .int .u8 pk, .int .u8 lv, .int .u32 nx] 26) = W5 at *
      clear x0 x1 x2 x3 x4 x5 x6 x7 x8
      obtain ⟨x0, x1, x2, x3, x4, x5, x6, x7, x8⟩ := X5.out.cells
      simp only at x0 x1 x2 x3 x4 x5 x6 x7 x8
      have O6 := Lib.hid (own_below O5.out (alloc_below W5 (.cells #[.int .u32 page] 23)))
      have B6 := Lib.hid (B5.out.alloc B5.out.size (.cells #[.int .u32 page] 23))
      have hs6 : w.heap.size ≤ (W5.alloc (.cells #[.int .u32 page] 23)).heap.size := B6.out.size
      have R6 := Lib.hid (num_one32 W5 page)
      clear A5 O5 B5 HO HB
      go_wp2_with (at_builtin; refine wpList_append_any _ rfl _ _ 100 rfl w.heap.size 23 i0 (.int .u32 0) 1 4 Try.underlying100 HI.out HI0.out HI1.out HI2.out rfl (by decide) _ i _ (by rfl) O6.out (.slice (some ⟨W5.heap.size, 0, none⟩) 1 1) 1 [.int .u32 page] (by rfl) R6.out (fun u hu => by rw [List.mem_singleton.1 hu]; rfl) (by unfold maxLen; omega) (by omega) hs6 ?_; intro v7 w7 hown7 hgrow7; have B7 := Lib.hid (B6.out.grown hgrow7 hs6 (fun j hj => by have := (O6.out.lt j hj).1; omega)); have O7 := Lib.hid hown7; clear hown7 hgrow7)
      have O8 : Hid (w7.ownsRow w.heap.size 23 1 v7 (i + 1) (nums ((L.map (fun e => e.o.page)).take (i + 1)))) := by
        show World.ownsRow _ _ _ _ _ _ _
        have h9 := O7.out
        have hn7 : nums ((L.map (fun e => e.o.page)).take (i + 1)) = nums ((L.map (fun e => e.o.page)).take i) ++ [.int .u32 (page : Int)] := by
          rw [HTK.out]; simp [nums]
        rw [hn7]
        exact h9
      go_roundw
      case rel => exact ⟨i + 1, by go_num, by omega, O8, B7⟩
      case measure => simp [intOf] <;> omega
    · have hci : ¬ (i : Int) < (n : Int) := by omega
      have hin : i = n := by omega
      subst hin
      have hall : (L.map (fun e => e.o.page)).take i = L.map (fun e => e.o.page) := List.take_of_length_le (by rw [List.length_map, HN.out]; exact Nat.le_refl _)
      have ho := HO.out
      rw [hall] at ho
      have HO2 := Lib.hid ho
      have SO := Lib.hid (sort_u64 w.heap.size i u2 (L.map (fun e => e.o.page)) wr (by omega) ho)
      clear ho hall HO hc2 hi
      go_wp2_with fail
      refine (SO.out).mono ?_
      rintro e w3 ⟨ys, rfl, hp, hs, ho3, hk3⟩
      have B3 := Lib.hid (OthersKept.below HB.out hk3 (fun k hk e => by have := (HO2.out.lt k e).1; omega))
      have CO := Lib.hid (compact_u64 w.heap.size i u2 ys w3 (by omega) ho3 hs)
      have HP := Lib.hid hp
      clear ho3 hs hp hk3 SO HB
      go_wp2_with fail
      refine (CO.out).mono ?_
      rintro e w4 ⟨v4, rfl, zs, hzl, hzp, hzm, ho4, hk4⟩
      have B4 := Lib.hid (OthersKept.below B3.out hk4 (fun k hk e => by have h9 : w.heap.size ≤ k := e; omega))
      have N4 := Lib.hid (nums_own ho4).1
      have Z1 := Lib.hid hzp
      have Z2 := Lib.hid hzm
      clear ho4 hk4 CO B3 hzp hzm
      go_wp2_with fail
      go_ret
      exact ⟨_, zs, rfl, N4.out, Z1.out, fun z => (Z2.out z).trans HP.out.mem_iff, by omega, B4.out⟩

end Go.Proofs.Ytjcfnfpilladfaa
