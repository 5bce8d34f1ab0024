/- Kept of our texts for this claim: SegAdd -/
import Derived.Test.YtienlhnbmobinaaGreatRows
import Derived.Test.YtienlhnbmobinaaGreatAdBc
import Derived.Test.YtienlhnbmobinaaGreatAdBb
import Derived.Test.YtienlhnbmobinaaGreatAdAz
import Derived.Test.YtienlhnbmobinaaGreatAdAh
import Derived.Test.YtienlhnbmobinaaGreatAdAi
import Derived.Test.YtienlhnbmobinaaGreatAdAj
import Derived.Test.YtienlhnbmobinaaGreatAdAq
import Derived.Test.YtienlhnbmobinaaGreatAdAu
import Derived.Test.YtienlhnbmobinaaGreatAdAr
import Derived.Test.YtienlhnbmobinaaGreatAdAs
import Derived.Test.YtienlhnbmobinaaGreatAdAc
import Derived.Test.YtienlhnbmobinaaGreatAdAk
import Derived.Test.YtienlhnbmobinaaGreatAdAa
import Derived.Test.YtienlhnbmobinaaGreatAdAb
import Derived.WalkKit
import Derived.WalkLawsBesides
import Derived.WalkSpells
import Derived.LoopTactic
import Derived.WalkMore
import Derived.LoopN
import Derived.Laws.BitsAllLaws
import Derived.Laws.IdiomStrings
import Derived.BigQuiet
import Derived.Deep.QuietTactic
import Derived.Deep.DeepCutAuto
import Derived.Deep.RegionHeld3
import Derived.Deep.DrawnRows
import Derived.Lib.Hide
import Derived.Outline
import Derived.Deep.DeepMust
import Derived.Handy
import Derived.Deep.CutBlock
import Derived.Deep.LoopGhost
import Derived.Deep.OwnRows
section
/- Add and Get, of the program and of the document -/
namespace Go.Proofs.YtienlhnbmobinaaGreat
open Go.RowKit
set_option linter.unusedVariables false
set_option linter.unusedSimpArgs false
set_option maxHeartbeats 8000000 in
set_option maxRecDepth 100000 in
theorem segAdd_any (p : Pg) (sv : Value) (l : List UInt8) (w : World) (hp : p.wf) (ht : TextsAt w sv p.rows) (hb : weightB p.rows ≤ 1000000) (hl : l.length ≤ 1000000) :
    Calls Tryz.prog 8 #[pgV p sv, .string ⟨l.toArray⟩] w fun e w' => e = .returned (.tuple #[rlV (sAddB p l).1.1 (sAddB p l).1.2, odV (sAddB p l).2.1 (.slice none 0 0), .int .i64 (sAddB p l).2.2]) ∧ Below w.heap.size w w' := by
  have CR := Lib.hid fun W (h : TextsAt W sv p.rows) => pageRoom_any p sv W h hb
  
  have CD : Hid (∀ W, Calls Tryz.prog 28 #[.string ⟨l.toArray⟩] W fun e w' => e = .returned (.tuple #[udV (decB l).1, .int .i64 (decB l).2]) ∧ Below W.heap.size W w') := Lib.hid fun W => by
    have h := undoDecode_any ⟨l.toArray⟩ W (by simpa [ByteArray.size] using hl)
    rw [show (⟨l.toArray⟩ : ByteArray).data.toList = l from rfl, decUV_B] at h
    exact h
  have hsz : (⟨l.toArray⟩ : ByteArray).size = l.length := rfl
  have hdef : sAddB p l = (if uFine p then (if decUOk l then (if roomB p.rows < (l.length : Int) then ((0, 0), Od.zero, 4) else ((p.id, p.rows.length % 65536), ⟨2, p.id, (p.rows.length : Nat), 0, l, [], 0, 0, 0⟩, 0)) else ((0, 0), Od.zero, 2)) else ((0, 0), Od.zero, 60)) := rfl
  have hfine : uFine p = (decide (p.kind = 3) && p.may) := rfl
  have CM := Lib.hid fun W (h : TextsAt W sv p.rows) => pageMay_any p sv W hp h hb
  have HT := Lib.hid ht
  have hnb : p.rows.length ≤ 1000000 := by have := weightB_length p.rows; omega
  obtain ⟨n, hn⟩ : ∃ n, n = p.rows.length := ⟨_, rfl⟩
  obtain ⟨A, cp, hsv, h2, h3, h4, h5⟩ := ht
  rw [← hn] at hsv hnb
  subst hsv
  clear h2 h3 h4 h5
  rw [← hn] at hdef
  have hyes : Hid (decUOk l = true → decB l = (uOf l, 0)) := Lib.hid decB_yes
  have hno : Hid (decUOk l = false → decB l = (Ud.zero, 7)) := Lib.hid decB_no
  generalize sAddB p l = res at *
  generalize uFine p = fine at *
  generalize p.may = my at *
  generalize decUOk l = ok at *
  generalize roomB p.rows = rm at *
  generalize decB l = dd at *
  generalize uOf l = uu at *
  clear hp hb
  unfold pgV at *
  obtain ⟨kind, level, id, lsn, next, rows⟩ := p
  obtain ⟨dr, er⟩ := dd
  obtain ⟨d0, d1, d2, d3, d4, d5, d6, d7, d8, d9, d10, d11⟩ := dr
  simp only at *
  unfold udV at CD
  simp only at CD
  have HD := Lib.hid hdef
  have HF := Lib.hid hfine
  have HN := Lib.hid hn
  clear hdef hfine hn
  have B0 := Lib.hid (alloc_below w (.cells #[.int .u8 kind, .int .u8 level, .int .u32 id, .int .u64 lsn, .int .u32 next, .slice A n cp] 26))
  have P0 := Lib.hid (PgBox.new w kind level id lsn next (.slice A n cp))
  obtain ⟨g, hg⟩ : ∃ z, z = w.heap.size := ⟨_, rfl⟩
  have hz1 : (w.alloc (.cells #[.int .u8 kind, .int .u8 level, .int .u32 id, .int .u64 lsn, .int .u32 next, .slice A n cp] 26)).heap.size = w.heap.size + 1 := by simp
  have R0 : Hid (RlBox ((w.alloc (.cells #[.int .u8 kind, .int .u8 level, .int .u32 id, .int .u64 lsn, .int .u32 next, .slice A n cp] 26)).alloc (.cells #[.int .u32 0, .int .u16 0] 30)) (w.heap.size + 1) 0 0) := by
    have h := RlBox.new (w.alloc (.cells #[.int .u8 kind, .int .u8 level, .int .u32 id, .int .u64 lsn, .int .u32 next, .slice A n cp] 26)) 0 0
    rw [hz1] at h
    exact h
  have B0 := Lib.hid (B0.out.alloc B0.out.size (.cells #[.int .u32 0, .int .u16 0] 30))
  have P0 := Lib.hid (P0.out.keep (.cells #[.int .u32 0, .int .u16 0] 30))
  have hz2 : ((w.alloc (.cells #[.int .u8 kind, .int .u8 level, .int .u32 id, .int .u64 lsn, .int .u32 next, .slice A n cp] 26)).alloc (.cells #[.int .u32 0, .int .u16 0] 30)).heap.size = w.heap.size + 1 + 1 := by simp
  have O0 : Hid (OAt (((w.alloc (.cells #[.int .u8 kind, .int .u8 level, .int .u32 id, .int .u64 lsn, .int .u32 next, .slice A n cp] 26)).alloc (.cells #[.int .u32 0, .int .u16 0] 30)).alloc (.cells #[.int .u8 0, .int .u32 0, .int .i64 0, .int .i64 0, .string ⟨#[]⟩, .slice none 0 0, .int .u8 0, .int .u8 0, .int .u32 0] 40)) (w.heap.size + 1 + 1) Od.zero (.slice none 0 0)) := by
    have h := heap_alloc_new ((w.alloc (.cells #[.int .u8 kind, .int .u8 level, .int .u32 id, .int .u64 lsn, .int .u32 next, .slice A n cp] 26)).alloc (.cells #[.int .u32 0, .int .u16 0] 30)) (.cells #[.int .u8 0, .int .u32 0, .int .i64 0, .int .i64 0, .string ⟨#[]⟩, .slice none 0 0, .int .u8 0, .int .u8 0, .int .u32 0] 40)
    rw [hz2] at h
    exact h
  have B0 := Lib.hid (B0.out.alloc B0.out.size (.cells #[.int .u8 0, .int .u32 0, .int .i64 0, .int .i64 0, .string ⟨#[]⟩, .slice none 0 0, .int .u8 0, .int .u8 0, .int .u32 0] 40))
  have P0 := Lib.hid (P0.out.keep (.cells #[.int .u8 0, .int .u32 0, .int .i64 0, .int .i64 0, .string ⟨#[]⟩, .slice none 0 0, .int .u8 0, .int .u8 0, .int .u32 0] 40))
  have R0 := Lib.hid (R0.out.keep (.cells #[.int .u8 0, .int .u32 0, .int .i64 0, .int .i64 0, .string ⟨#[]⟩, .slice none 0 0, .int .u8 0, .int .u8 0, .int .u32 0] 40))
  clear hz1 hz2
  go_enter Tryz.func8, Tryz.ntmps8
  go_upto_region 1 with fail
  generalize ((w.alloc (.cells #[.int .u8 kind, .int .u8 level, .int .u32 id, .int .u64 lsn, .int .u32 next, .slice A n cp] 26)).alloc (.cells #[.int .u32 0, .int .u16 0] 30)).alloc (.cells #[.int .u8 0, .int .u32 0, .int .i64 0, .int .i64 0, .string ⟨#[]⟩, .slice none 0 0, .int .u8 0, .int .u8 0, .int .u32 0] 40) = w0 at *
  have T0 := Lib.hid (HT.out.below B0.out)
  clear HT
  obtain ⟨p0, p1, p2, p3, p4, p5, p6⟩ := P0.out.cells
  by_cases hk : kind = 3
  case neg =>
    have hki : ((kind : Int) != 3) = true := by simp; omega
    have HF2 : Hid (fine = false) := by show _ = _; rw [HF.out, decide_eq_false hk]; rfl
    replace HD := Lib.hid (show res = ((0, 0), Od.zero, 60) by rw [HD.out, HF2.out]; rfl)
    clear HF HF2 hk
    go_wp2_with (first | (refine wpList_store_rl rfl (.tmp 4) (.tmp 18) rfl R0.out 0 0 (by rfl) (by rfl) ?_; intro wR hR hK; have RS := Lib.hid hR; have KS := Lib.hid hK; have OR := Lib.hid (O0.out.kept22 hK (by omega)); clear hR hK) | (refine wpList_store_op rfl (.tmp 5) (.tmp 19) rfl OR.out Od.zero none 0 0 (by rfl) (by rfl) ?_; intro wS hO hK; have OS := Lib.hid hO; have RT := Lib.hid (RS.out.kept hK (by omega)); have KT := Lib.hid hK; clear hO hK))
    refine bodyPost_ret (results_add (p := 4) (q := 5) (u := 6) (a := 0) (b := 0) (o := Od.zero) (sv := .slice none 0 0) (by kernel_rfl) _ _ rfl rfl RT.out OS.out) rfl ?_
    exact ⟨by rw [HD.out]; rfl, OthersKept.below (OthersKept.below B0.out KS.out (fun k hk e => by omega)) KT.out (fun k hk e => by omega)⟩
  have hki : ((kind : Int) != 3) = false := by rw [hk]; rfl
  replace HF := Lib.hid (show fine = my by rw [HF.out, decide_eq_true hk]; rfl)
  clear hk
  go_wp2_with fail
  refine (CM.out _ T0.out).mono ?_
  rintro e w1 ⟨rfl, hb⟩
  clear CM p0 p1 p2 p3 p4 p5 p6
  have B1 := Lib.hid (below_then B0.out hb)
  have P1 := Lib.hid (P0.out.below hb)
  have R1 := Lib.hid (R0.out.below hb)
  have O1 := Lib.hid (O0.out.under hb)
  have T1 := Lib.hid (T0.out.below hb)
  clear hb B0 P0 R0 O0 T0
  cases my with
  | false =>
    replace HD := Lib.hid (show res = ((0, 0), Od.zero, 60) by rw [HD.out, HF.out]; rfl)
    go_wp2_with (first | (refine wpList_store_rl rfl (.tmp 4) (.tmp 18) rfl R1.out 0 0 (by rfl) (by rfl) ?_; intro wR hR hK; have RS := Lib.hid hR; have KS := Lib.hid hK; have OR := Lib.hid (O1.out.kept22 hK (by omega)); clear hR hK) | (refine wpList_store_op rfl (.tmp 5) (.tmp 19) rfl OR.out Od.zero none 0 0 (by rfl) (by rfl) ?_; intro wS hO hK; have OS := Lib.hid hO; have RT := Lib.hid (RS.out.kept hK (by omega)); have KT := Lib.hid hK; clear hO hK))
    refine bodyPost_ret (results_add (p := 4) (q := 5) (u := 6) (a := 0) (b := 0) (o := Od.zero) (sv := .slice none 0 0) (by kernel_rfl) _ _ rfl rfl RT.out OS.out) rfl ?_
    exact ⟨by rw [HD.out]; rfl, OthersKept.below (OthersKept.below B1.out KS.out (fun k hk e => by omega)) KT.out (fun k hk e => by omega)⟩
  | true =>
  replace HD := Lib.hid (show res = (if ok then (if rm < (l.length : Int) then ((0, 0), Od.zero, 4) else ((id, n % 65536), ⟨2, id, (n : Nat), 0, l, [], 0, 0, 0⟩, 0)) else ((0, 0), Od.zero, 2)) by rw [HD.out, HF.out]; rfl)
  clear HF
  go_wp2_with fail
  refine (CD.out _).mono ?_
  rintro e w2 ⟨rfl, hb⟩
  clear CD
  have B2 := Lib.hid (below_then B1.out hb)
  have P2 := Lib.hid (P1.out.below hb)
  have R2 := Lib.hid (R1.out.below hb)
  have O2 := Lib.hid (O1.out.under hb)
  have T2 := Lib.hid (T1.out.below hb)
  clear hb B1 P1 R1 O1 T1
  cases ok with
  | false =>
    have h7 := hno.out rfl
    injection h7 with h8 h9
    subst h9
    clear h8 hyes hno
    replace HD := Lib.hid (show res = ((0, 0), Od.zero, 2) from HD.out)
    go_upto_region 4 with fail
    have hb := Lib.hid (alloc_below w2 (.cells #[.int .u8 d0, .int .u64 d1, .int .u32 d2, .int .u16 d3, .string d4, .string d5, .bool d6, .int .u64 d7, .int .u32 d8, .int .u16 d9, .string d10, .int .i64 d11] 34))
    generalize w2.alloc (.cells #[.int .u8 d0, .int .u64 d1, .int .u32 d2, .int .u16 d3, .string d4, .string d5, .bool d6, .int .u64 d7, .int .u32 d8, .int .u16 d9, .string d10, .int .i64 d11] 34) = w3 at *
    have hb := hb.out
    have B3 := Lib.hid (below_then B2.out hb)
    have P3 := Lib.hid (P2.out.below hb)
    have R3 := Lib.hid (R2.out.below hb)
    have O3 := Lib.hid (O2.out.under hb)
    have T3 := Lib.hid (T2.out.below hb)
    clear hb B2 P2 R2 O2 T2
    go_wp2_with (first | (refine wpList_store_rl rfl (.tmp 4) (.tmp 27) rfl R3.out 0 0 (by rfl) (by rfl) ?_; intro wR hR hK; have RS := Lib.hid hR; have KS := Lib.hid hK; have OR := Lib.hid (O3.out.kept22 hK (by omega)); clear hR hK) | (refine wpList_store_op rfl (.tmp 5) (.tmp 28) rfl OR.out Od.zero none 0 0 (by rfl) (by rfl) ?_; intro wS hO hK; have OS := Lib.hid hO; have RT := Lib.hid (RS.out.kept hK (by omega)); have KT := Lib.hid hK; clear hO hK))
    refine bodyPost_ret (results_add (p := 4) (q := 5) (u := 6) (a := 0) (b := 0) (o := Od.zero) (sv := .slice none 0 0) (by kernel_rfl) _ _ rfl rfl RT.out OS.out) rfl ?_
    exact ⟨by rw [HD.out]; rfl, OthersKept.below (OthersKept.below B3.out KS.out (fun k hk e => by omega)) KT.out (fun k hk e => by omega)⟩
  | true =>
    have h7 := hyes.out rfl
    injection h7 with h8 h9
    subst h9
    clear h8 hyes hno
    replace HD := Lib.hid (show res = (if rm < (l.length : Int) then ((0, 0), Od.zero, 4) else ((id, n % 65536), ⟨2, id, (n : Nat), 0, l, [], 0, 0, 0⟩, 0)) by rw [HD.out]; rfl)
    go_upto_region 4 with fail
    have hb := Lib.hid (alloc_below w2 (.cells #[.int .u8 d0, .int .u64 d1, .int .u32 d2, .int .u16 d3, .string d4, .string d5, .bool d6, .int .u64 d7, .int .u32 d8, .int .u16 d9, .string d10, .int .i64 d11] 34))
    generalize w2.alloc (.cells #[.int .u8 d0, .int .u64 d1, .int .u32 d2, .int .u16 d3, .string d4, .string d5, .bool d6, .int .u64 d7, .int .u32 d8, .int .u16 d9, .string d10, .int .i64 d11] 34) = w3 at *
    have hb := hb.out
    have B3 := Lib.hid (below_then B2.out hb)
    have P3 := Lib.hid (P2.out.below hb)
    have R3 := Lib.hid (R2.out.below hb)
    have O3 := Lib.hid (O2.out.under hb)
    have T3 := Lib.hid (T2.out.below hb)
    clear hb B2 P2 R2 O2 T2
    obtain ⟨p0, p1, p2, p3, p4, p5, p6⟩ := P3.out.cells
    go_wp2_with fail
    refine (CR.out _ T3.out).mono ?_
    rintro e w4 ⟨rfl, hb⟩
    clear CR p0 p1 p2 p3 p4 p5 p6
    have B4 := Lib.hid (below_then B3.out hb)
    have P4 := Lib.hid (P3.out.below hb)
    have R4 := Lib.hid (R3.out.below hb)
    have O4 := Lib.hid (O3.out.under hb)
    have T4 := Lib.hid (T3.out.below hb)
    clear hb B3 P3 R3 O3 T3
    by_cases hr : rm < (l.length : Int)
    case pos =>
      replace HD := Lib.hid (show res = ((0, 0), Od.zero, 4) by rw [HD.out, if_pos hr])
      have hrd : decide (rm < (l.length : Int)) = true := decide_eq_true hr
      go_wp2_with (first | (refine wpList_store_rl rfl (.tmp 4) (.tmp 34) rfl R4.out 0 0 (by rfl) (by rfl) ?_; intro wR hR hK; have RS := Lib.hid hR; have KS := Lib.hid hK; have OR := Lib.hid (O4.out.kept22 hK (by omega)); clear hR hK) | (refine wpList_store_op rfl (.tmp 5) (.tmp 35) rfl OR.out Od.zero none 0 0 (by rfl) (by rfl) ?_; intro wS hO hK; have OS := Lib.hid hO; have RT := Lib.hid (RS.out.kept hK (by omega)); have KT := Lib.hid hK; clear hO hK))
      refine bodyPost_ret (results_add (p := 4) (q := 5) (u := 6) (a := 0) (b := 0) (o := Od.zero) (sv := .slice none 0 0) (by kernel_rfl) _ _ rfl rfl RT.out OS.out) rfl ?_
      exact ⟨by rw [HD.out]; rfl, OthersKept.below (OthersKept.below B4.out KS.out (fun k hk e => by omega)) KT.out (fun k hk e => by omega)⟩
    replace HD := Lib.hid (show res = ((id, n % 65536), ⟨2, id, (n : Nat), 0, l, [], 0, 0, 0⟩, 0) by rw [HD.out, if_neg hr])
    have hrd : decide (rm < (l.length : Int)) = false := decide_eq_false hr
    clear hr
    obtain ⟨p0, p1, p2, p3, p4, p5, p6⟩ := P4.out.cells
    have hwn : IntKind.u16.wrap (n : Int) = ((n % 65536 : Nat) : Int) := by
      have h1 : IntKind.u16.signed = false := rfl
      have h2 : IntKind.u16.bits = 16 := rfl
      simp [IntKind.wrap, h1, h2]
    go_upto_region 9 with fail
    clear p0 p1 p2 p3 p4 p5 p6
    refine wp_region_held_drew (S := fun W => Below w.heap.size w W ∧ PgBox W w.heap.size kind level id lsn next (.slice A n cp)) (by kernel_rfl) (⟨B4.out.drew, P4.out⟩) (fun hHeld => ?_)
    have RR : Hid (RlBox w4.drew (w.heap.size + 1) 0 0) := R4
    have OR : Hid (OAt w4.drew (w.heap.size + 1 + 1) Od.zero (.slice none 0 0)) := O4
    clear R4 O4 P4 B4 T4
    generalize w4.drew = v0 at *
    refine wpAnyH_take (i := 0) (oi := { dst := some 39, op := Go.Op.fieldAddr 26 (Go.Operand.tmp 2) 2, type := 0, pos := "seg.go:169", after := #[], guard := none }) (v := ?_) rfl (by kernel_rfl) (by kernel_rfl) (by kernel_rfl) (fun _ _ _ h => h) (Or.inl ⟨by rfl, ?_⟩) hHeld ?_
    rotate_left
    · (intro w hSw; go_simp <;> with_reducible rfl)
    simp only [Act.put, List.setIfInBounds_toArray, List.set_cons_zero, List.set_cons_succ]
    refine wpAnyH_take (i := 1) (oi := { dst := some 40, op := Go.Op.load 22 (Go.Operand.tmp 39), type := 22, pos := "seg.go:169", after := #[{ on := 0, ground := Go.Ground.data }], guard := none }) (v := ?_) rfl (by kernel_rfl) (by kernel_rfl) (by kernel_rfl) (fun _ _ _ h => h) (Or.inl ⟨by rfl, ?_⟩) hHeld ?_
    rotate_left
    · (intro w hSw; obtain ⟨p0, p1, p2, p3, p4, p5, p6⟩ := PgBox.cells hSw.2; go_simp <;> with_reducible rfl)
    simp only [Act.put, List.setIfInBounds_toArray, List.set_cons_zero, List.set_cons_succ]
    refine wpAnyH_take (i := 2) (oi := { dst := some 41, op := Go.Op.move (Go.Operand.tmp 9), type := 3, pos := "seg.go:169", after := #[], guard := none }) (v := ?_) rfl (by kernel_rfl) (by kernel_rfl) (by kernel_rfl) (fun _ _ _ h => h) (Or.inl ⟨by rfl, ?_⟩) hHeld ?_
    rotate_left
    · (intro w hSw; go_simp <;> with_reducible rfl)
    simp only [Act.put, List.setIfInBounds_toArray, List.set_cons_zero, List.set_cons_succ]
    refine wpAnyH_take (i := 3) (oi := { dst := some 42, op := Go.Op.convert 3 28 (Go.Operand.tmp 41), type := 28, pos := "seg.go:169", after := #[{ on := 2, ground := Go.Ground.data }], guard := none }) (v := ?_) rfl (by kernel_rfl) (by kernel_rfl) (by kernel_rfl) (fun _ _ _ h => h) (Or.inl ⟨by rfl, ?_⟩) hHeld ?_
    rotate_left
    · (intro w hSw; go_simp <;> with_reducible rfl)
    simp only [Act.put, List.setIfInBounds_toArray, List.set_cons_zero, List.set_cons_succ]
    refine wpAnyH_take (i := 4) (oi := { dst := some 43, op := Go.Op.build 30 #[(0, Go.Operand.tmp 40), (1, Go.Operand.tmp 42)], type := 30, pos := "seg.go:169", after := #[{ on := 1, ground := Go.Ground.data }, { on := 3, ground := Go.Ground.data }], guard := none }) (v := ?_) rfl (by kernel_rfl) (by kernel_rfl) (by kernel_rfl) (fun _ _ _ h => h) (Or.inl ⟨by rfl, ?_⟩) hHeld ?_
    rotate_left
    · (intro w hSw; go_simp <;> with_reducible rfl)
    simp only [Act.put, List.setIfInBounds_toArray, List.set_cons_zero, List.set_cons_succ]
    refine wpAnyH_take (i := 5) (oi := { dst := some 44, op := Go.Op.fieldAddr 26 (Go.Operand.tmp 2) 2, type := 0, pos := "seg.go:169", after := #[{ on := 10, ground := Go.Ground.gcOnly Go.Departure.lateStores }], guard := none }) (v := ?_) rfl (by kernel_rfl) (by kernel_rfl) (by kernel_rfl) (fun _ _ _ h => h) (Or.inl ⟨by rfl, ?_⟩) hHeld ?_
    rotate_left
    · (intro w hSw; go_simp <;> with_reducible rfl)
    simp only [Act.put, List.setIfInBounds_toArray, List.set_cons_zero, List.set_cons_succ]
    refine wpAnyH_take (i := 6) (oi := { dst := some 45, op := Go.Op.load 22 (Go.Operand.tmp 44), type := 22, pos := "seg.go:169", after := #[{ on := 5, ground := Go.Ground.data }, { on := 10, ground := Go.Ground.gcOnly Go.Departure.lateStores }], guard := none }) (v := ?_) rfl (by kernel_rfl) (by kernel_rfl) (by kernel_rfl) (fun _ _ _ h => h) (Or.inl ⟨by rfl, ?_⟩) hHeld ?_
    rotate_left
    · (intro w hSw; obtain ⟨p0, p1, p2, p3, p4, p5, p6⟩ := PgBox.cells hSw.2; go_simp <;> with_reducible rfl)
    simp only [Act.put, List.setIfInBounds_toArray, List.set_cons_zero, List.set_cons_succ]
    refine wpAnyH_take (i := 7) (oi := { dst := some 46, op := Go.Op.move (Go.Operand.tmp 9), type := 3, pos := "seg.go:169", after := #[{ on := 10, ground := Go.Ground.gcOnly Go.Departure.lateStores }], guard := none }) (v := ?_) rfl (by kernel_rfl) (by kernel_rfl) (by kernel_rfl) (fun _ _ _ h => h) (Or.inl ⟨by rfl, ?_⟩) hHeld ?_
    rotate_left
    · (intro w hSw; go_simp <;> with_reducible rfl)
    simp only [Act.put, List.setIfInBounds_toArray, List.set_cons_zero, List.set_cons_succ]
    refine wpAnyH_take (i := 8) (oi := { dst := some 47, op := Go.Op.move (Go.Operand.tmp 1), type := 9, pos := "seg.go:169", after := #[{ on := 10, ground := Go.Ground.gcOnly Go.Departure.lateStores }], guard := none }) (v := ?_) rfl (by kernel_rfl) (by kernel_rfl) (by kernel_rfl) (fun _ _ _ h => h) (Or.inl ⟨by rfl, ?_⟩) hHeld ?_
    rotate_left
    · (intro w hSw; go_simp <;> with_reducible rfl)
    simp only [Act.put, List.setIfInBounds_toArray, List.set_cons_zero, List.set_cons_succ]
    refine wpAnyH_take (i := 9) (oi := { dst := some 48, op := Go.Op.build 40 #[(0, Go.Operand.const (Go.Value.int Go.IntKind.u8 2)), (1, Go.Operand.tmp 45), (2, Go.Operand.tmp 46), (4, Go.Operand.tmp 47)], type := 40, pos := "seg.go:169", after := #[{ on := 6, ground := Go.Ground.data }, { on := 7, ground := Go.Ground.data }, { on := 8, ground := Go.Ground.data }, { on := 10, ground := Go.Ground.gcOnly Go.Departure.lateStores }], guard := none }) (v := ?_) rfl (by kernel_rfl) (by kernel_rfl) (by kernel_rfl) (fun _ _ _ h => h) (Or.inl ⟨by rfl, ?_⟩) hHeld ?_
    rotate_left
    · (intro w hSw; go_simp <;> with_reducible rfl)
    simp only [Act.put, List.setIfInBounds_toArray, List.set_cons_zero, List.set_cons_succ]
    refine wpAnyH_ready (rs := [10]) (by kernel_rfl) (by simp) (AllReadyH.cons (o := { dst := none, op := Go.Op.store 30 (Go.Operand.tmp 4) (Go.Operand.tmp 43), type := 0, pos := "seg.go:169", after := #[{ on := 4, ground := Go.Ground.data }, { on := 0, ground := Go.Ground.phase }, { on := 1, ground := Go.Ground.phase }, { on := 2, ground := Go.Ground.phase }, { on := 3, ground := Go.Ground.phase }, { on := 4, ground := Go.Ground.phase }, { on := 5, ground := Go.Ground.textOnly Go.Departure.lateStores }, { on := 6, ground := Go.Ground.textOnly Go.Departure.lateStores }, { on := 7, ground := Go.Ground.textOnly Go.Departure.lateStores }, { on := 8, ground := Go.Ground.textOnly Go.Departure.lateStores }, { on := 9, ground := Go.Ground.textOnly Go.Departure.lateStores }], guard := none }) rfl (fun K hK => ?_) AllReadyH.nil)
    · refine step_store_rl rfl (.tmp 4) (.tmp 43) rfl RR.out id (n % 65536) (by rfl) (by rfl) ?_
      intro v1 hOq hKq
      have RR := Lib.hid hOq
      have OR := Lib.hid (OR.out.kept22 hKq (by omega))
      have hS1 := Lib.hid (And.intro (OthersKept.below hHeld.1 hKq (fun k hk e => by omega)) (hKq.heap hHeld.2 (by omega)))
      clear hOq hKq hHeld
      refine hK.out _ _ ?_ (fun hHeld => ?_)
      · exact hS1.out
      clear hK K
      (try simp only [Act.put, List.setIfInBounds_toArray, List.set_cons_zero, List.set_cons_succ])
      refine wpAnyH_ready (rs := [11]) (by kernel_rfl) (by simp) (AllReadyH.cons (o := { dst := none, op := Go.Op.store 40 (Go.Operand.tmp 5) (Go.Operand.tmp 48), type := 0, pos := "seg.go:169", after := #[{ on := 9, ground := Go.Ground.data }, { on := 10, ground := Go.Ground.chain }, { on := 0, ground := Go.Ground.phase }, { on := 1, ground := Go.Ground.phase }, { on := 2, ground := Go.Ground.phase }, { on := 3, ground := Go.Ground.phase }, { on := 4, ground := Go.Ground.phase }, { on := 5, ground := Go.Ground.phase }, { on := 6, ground := Go.Ground.phase }, { on := 7, ground := Go.Ground.phase }, { on := 8, ground := Go.Ground.phase }, { on := 9, ground := Go.Ground.phase }, { on := 10, ground := Go.Ground.phase }], guard := none }) rfl (fun K hK => ?_) AllReadyH.nil)
      · refine step_store_op rfl (.tmp 5) (.tmp 48) rfl OR.out ⟨2, id, (n : Nat), 0, l, [], 0, 0, 0⟩ none 0 0 (by rfl) (by rfl) ?_
        intro v2 hOq hKq
        have OR := Lib.hid hOq
        have RR := Lib.hid (RR.out.kept hKq (by omega))
        have hS2 := Lib.hid (And.intro (OthersKept.below hHeld.1 hKq (fun k hk e => by omega)) (hKq.heap hHeld.2 (by omega)))
        clear hOq hKq hHeld
        refine hK.out _ _ ?_ (fun hHeld => ?_)
        · exact hS2.out
        clear hK K
        (try simp only [Act.put, List.setIfInBounds_toArray, List.set_cons_zero, List.set_cons_succ])
        refine wpAnyH_take (i := 12) (oi := { dst := some 6, op := Go.Op.assign (Go.Operand.const (Go.Value.int Go.IntKind.i64 0)), type := 41, pos := "seg.go:169", after := #[{ on := 11, ground := Go.Ground.chain }, { on := 0, ground := Go.Ground.phase }, { on := 1, ground := Go.Ground.phase }, { on := 2, ground := Go.Ground.phase }, { on := 3, ground := Go.Ground.phase }, { on := 4, ground := Go.Ground.phase }, { on := 5, ground := Go.Ground.phase }, { on := 6, ground := Go.Ground.phase }, { on := 7, ground := Go.Ground.phase }, { on := 8, ground := Go.Ground.phase }, { on := 9, ground := Go.Ground.phase }, { on := 10, ground := Go.Ground.phase }, { on := 11, ground := Go.Ground.phase }], guard := none }) (v := ?_) rfl (by kernel_rfl) (by kernel_rfl) (by kernel_rfl) (fun _ _ _ h => h) (Or.inl ⟨by rfl, ?_⟩) hHeld ?_
        rotate_left
        · (intro w hSw; go_simp <;> with_reducible rfl)
        simp only [Act.put, List.setIfInBounds_toArray, List.set_cons_zero, List.set_cons_succ]
        refine wpAnyH_done (by kernel_rfl) ?_ _
        go_wp2_with fail
        refine bodyPost_ret (results_add (p := 4) (q := 5) (u := 6) (a := id) (b := n % 65536) (o := ⟨2, id, (n : Nat), 0, l, [], 0, 0, 0⟩) (sv := .slice none 0 0) (by kernel_rfl) _ _ rfl rfl RR.out OR.out) rfl ?_
        exact ⟨by rw [HD.out]; rfl, hHeld.1⟩
set_option maxHeartbeats 8000000 in
set_option maxRecDepth 100000 in
theorem refSegAdd_any (p : Pg) (sv : Value) (l : List UInt8) (w : World) (hp : p.wf) (ht : TextsAt w sv p.rows) (hb : weightB p.rows ≤ 1000000) (hl : l.length ≤ 1000000) :
    Calls Tryz.prog 10 #[pgV p sv, .string ⟨l.toArray⟩] w fun e w' => e = .returned (.tuple #[rlV (sAddB p l).1.1 (sAddB p l).1.2, odV (sAddB p l).2.1 (.slice none 0 0), .int .i64 (sAddB p l).2.2]) ∧ Below w.heap.size w w' := by
  have CR := Lib.hid fun W (h : TextsAt W sv p.rows) => refRoom06_any p sv W h hb
  rw [roomV_eq] at CR
  have CD : Hid (∀ W, Calls Tryz.prog 31 #[.string ⟨l.toArray⟩] W fun e w' => e = .returned (.tuple #[udV (decB l).1, .int .i64 (decB l).2]) ∧ Below W.heap.size W w') := Lib.hid fun W => by
    have h := refUndoDecode_any ⟨l.toArray⟩ W (by simpa [ByteArray.size] using hl)
    rw [show (⟨l.toArray⟩ : ByteArray).data.toList = l from rfl, decUV_B] at h
    exact h
  have hsz : (⟨l.toArray⟩ : ByteArray).size = l.length := rfl
  have hdef : sAddB p l = (if uFine p then (if decUOk l then (if roomB p.rows < (l.length : Int) then ((0, 0), Od.zero, 4) else ((p.id, p.rows.length % 65536), ⟨2, p.id, (p.rows.length : Nat), 0, l, [], 0, 0, 0⟩, 0)) else ((0, 0), Od.zero, 2)) else ((0, 0), Od.zero, 60)) := rfl
  have hfine : uFine p = (decide (p.kind = 3) && p.may) := rfl
  have CM := Lib.hid fun W (h : TextsAt W sv p.rows) => refMay06_any p sv W hp h hb
  have HT := Lib.hid ht
  have hnb : p.rows.length ≤ 1000000 := by have := weightB_length p.rows; omega
  obtain ⟨n, hn⟩ : ∃ n, n = p.rows.length := ⟨_, rfl⟩
  obtain ⟨A, cp, hsv, h2, h3, h4, h5⟩ := ht
  rw [← hn] at hsv hnb
  subst hsv
  clear h2 h3 h4 h5
  rw [← hn] at hdef
  have hyes : Hid (decUOk l = true → decB l = (uOf l, 0)) := Lib.hid decB_yes
  have hno : Hid (decUOk l = false → decB l = (Ud.zero, 7)) := Lib.hid decB_no
  generalize sAddB p l = res at *
  generalize uFine p = fine at *
  generalize p.may = my at *
  generalize decUOk l = ok at *
  generalize roomB p.rows = rm at *
  generalize decB l = dd at *
  generalize uOf l = uu at *
  clear hp hb
  unfold pgV at *
  obtain ⟨kind, level, id, lsn, next, rows⟩ := p
  obtain ⟨dr, er⟩ := dd
  obtain ⟨d0, d1, d2, d3, d4, d5, d6, d7, d8, d9, d10, d11⟩ := dr
  simp only at *
  unfold udV at CD
  simp only at CD
  have HD := Lib.hid hdef
  have HF := Lib.hid hfine
  have HN := Lib.hid hn
  clear hdef hfine hn
  have B0 := Lib.hid (alloc_below w (.cells #[.int .u8 kind, .int .u8 level, .int .u32 id, .int .u64 lsn, .int .u32 next, .slice A n cp] 26))
  have P0 := Lib.hid (PgBox.new w kind level id lsn next (.slice A n cp))
  obtain ⟨g, hg⟩ : ∃ z, z = w.heap.size := ⟨_, rfl⟩
  have hz1 : (w.alloc (.cells #[.int .u8 kind, .int .u8 level, .int .u32 id, .int .u64 lsn, .int .u32 next, .slice A n cp] 26)).heap.size = w.heap.size + 1 := by simp
  have R0 : Hid (RlBox ((w.alloc (.cells #[.int .u8 kind, .int .u8 level, .int .u32 id, .int .u64 lsn, .int .u32 next, .slice A n cp] 26)).alloc (.cells #[.int .u32 0, .int .u16 0] 30)) (w.heap.size + 1) 0 0) := by
    have h := RlBox.new (w.alloc (.cells #[.int .u8 kind, .int .u8 level, .int .u32 id, .int .u64 lsn, .int .u32 next, .slice A n cp] 26)) 0 0
    rw [hz1] at h
    exact h
  have B0 := Lib.hid (B0.out.alloc B0.out.size (.cells #[.int .u32 0, .int .u16 0] 30))
  have P0 := Lib.hid (P0.out.keep (.cells #[.int .u32 0, .int .u16 0] 30))
  have hz2 : ((w.alloc (.cells #[.int .u8 kind, .int .u8 level, .int .u32 id, .int .u64 lsn, .int .u32 next, .slice A n cp] 26)).alloc (.cells #[.int .u32 0, .int .u16 0] 30)).heap.size = w.heap.size + 1 + 1 := by simp
  have O0 : Hid (OAt (((w.alloc (.cells #[.int .u8 kind, .int .u8 level, .int .u32 id, .int .u64 lsn, .int .u32 next, .slice A n cp] 26)).alloc (.cells #[.int .u32 0, .int .u16 0] 30)).alloc (.cells #[.int .u8 0, .int .u32 0, .int .i64 0, .int .i64 0, .string ⟨#[]⟩, .slice none 0 0, .int .u8 0, .int .u8 0, .int .u32 0] 40)) (w.heap.size + 1 + 1) Od.zero (.slice none 0 0)) := by
    have h := heap_alloc_new ((w.alloc (.cells #[.int .u8 kind, .int .u8 level, .int .u32 id, .int .u64 lsn, .int .u32 next, .slice A n cp] 26)).alloc (.cells #[.int .u32 0, .int .u16 0] 30)) (.cells #[.int .u8 0, .int .u32 0, .int .i64 0, .int .i64 0, .string ⟨#[]⟩, .slice none 0 0, .int .u8 0, .int .u8 0, .int .u32 0] 40)
    rw [hz2] at h
    exact h
  have B0 := Lib.hid (B0.out.alloc B0.out.size (.cells #[.int .u8 0, .int .u32 0, .int .i64 0, .int .i64 0, .string ⟨#[]⟩, .slice none 0 0, .int .u8 0, .int .u8 0, .int .u32 0] 40))
  have P0 := Lib.hid (P0.out.keep (.cells #[.int .u8 0, .int .u32 0, .int .i64 0, .int .i64 0, .string ⟨#[]⟩, .slice none 0 0, .int .u8 0, .int .u8 0, .int .u32 0] 40))
  have R0 := Lib.hid (R0.out.keep (.cells #[.int .u8 0, .int .u32 0, .int .i64 0, .int .i64 0, .string ⟨#[]⟩, .slice none 0 0, .int .u8 0, .int .u8 0, .int .u32 0] 40))
  clear hz1 hz2
  go_enter Tryz.func10, Tryz.ntmps10
  go_upto_region 1 with fail
  generalize ((w.alloc (.cells #[.int .u8 kind, .int .u8 level, .int .u32 id, .int .u64 lsn, .int .u32 next, .slice A n cp] 26)).alloc (.cells #[.int .u32 0, .int .u16 0] 30)).alloc (.cells #[.int .u8 0, .int .u32 0, .int .i64 0, .int .i64 0, .string ⟨#[]⟩, .slice none 0 0, .int .u8 0, .int .u8 0, .int .u32 0] 40) = w0 at *
  have T0 := Lib.hid (HT.out.below B0.out)
  clear HT
  obtain ⟨p0, p1, p2, p3, p4, p5, p6⟩ := P0.out.cells
  by_cases hk : kind = 3
  case neg =>
    have hki : ((kind : Int) != 3) = true := by simp; omega
    have HF2 : Hid (fine = false) := by show _ = _; rw [HF.out, decide_eq_false hk]; rfl
    replace HD := Lib.hid (show res = ((0, 0), Od.zero, 60) by rw [HD.out, HF2.out]; rfl)
    clear HF HF2 hk
    go_wp2_with (first | (refine wpList_store_rl rfl (.tmp 4) (.tmp 18) rfl R0.out 0 0 (by rfl) (by rfl) ?_; intro wR hR hK; have RS := Lib.hid hR; have KS := Lib.hid hK; have OR := Lib.hid (O0.out.kept22 hK (by omega)); clear hR hK) | (refine wpList_store_op rfl (.tmp 5) (.tmp 19) rfl OR.out Od.zero none 0 0 (by rfl) (by rfl) ?_; intro wS hO hK; have OS := Lib.hid hO; have RT := Lib.hid (RS.out.kept hK (by omega)); have KT := Lib.hid hK; clear hO hK))
    refine bodyPost_ret (results_add (p := 4) (q := 5) (u := 6) (a := 0) (b := 0) (o := Od.zero) (sv := .slice none 0 0) (by kernel_rfl) _ _ rfl rfl RT.out OS.out) rfl ?_
    exact ⟨by rw [HD.out]; rfl, OthersKept.below (OthersKept.below B0.out KS.out (fun k hk e => by omega)) KT.out (fun k hk e => by omega)⟩
  have hki : ((kind : Int) != 3) = false := by rw [hk]; rfl
  replace HF := Lib.hid (show fine = my by rw [HF.out, decide_eq_true hk]; rfl)
  clear hk
  go_wp2_with fail
  refine (CM.out _ T0.out).mono ?_
  rintro e w1 ⟨rfl, hb⟩
  clear CM p0 p1 p2 p3 p4 p5 p6
  have B1 := Lib.hid (below_then B0.out hb)
  have P1 := Lib.hid (P0.out.below hb)
  have R1 := Lib.hid (R0.out.below hb)
  have O1 := Lib.hid (O0.out.under hb)
  have T1 := Lib.hid (T0.out.below hb)
  clear hb B0 P0 R0 O0 T0
  cases my with
  | false =>
    replace HD := Lib.hid (show res = ((0, 0), Od.zero, 60) by rw [HD.out, HF.out]; rfl)
    go_wp2_with (first | (refine wpList_store_rl rfl (.tmp 4) (.tmp 18) rfl R1.out 0 0 (by rfl) (by rfl) ?_; intro wR hR hK; have RS := Lib.hid hR; have KS := Lib.hid hK; have OR := Lib.hid (O1.out.kept22 hK (by omega)); clear hR hK) | (refine wpList_store_op rfl (.tmp 5) (.tmp 19) rfl OR.out Od.zero none 0 0 (by rfl) (by rfl) ?_; intro wS hO hK; have OS := Lib.hid hO; have RT := Lib.hid (RS.out.kept hK (by omega)); have KT := Lib.hid hK; clear hO hK))
    refine bodyPost_ret (results_add (p := 4) (q := 5) (u := 6) (a := 0) (b := 0) (o := Od.zero) (sv := .slice none 0 0) (by kernel_rfl) _ _ rfl rfl RT.out OS.out) rfl ?_
    exact ⟨by rw [HD.out]; rfl, OthersKept.below (OthersKept.below B1.out KS.out (fun k hk e => by omega)) KT.out (fun k hk e => by omega)⟩
  | true =>
  replace HD := Lib.hid (show res = (if ok then (if rm < (l.length : Int) then ((0, 0), Od.zero, 4) else ((id, n % 65536), ⟨2, id, (n : Nat), 0, l, [], 0, 0, 0⟩, 0)) else ((0, 0), Od.zero, 2)) by rw [HD.out, HF.out]; rfl)
  clear HF
  go_wp2_with fail
  refine (CD.out _).mono ?_
  rintro e w2 ⟨rfl, hb⟩
  clear CD
  have B2 := Lib.hid (below_then B1.out hb)
  have P2 := Lib.hid (P1.out.below hb)
  have R2 := Lib.hid (R1.out.below hb)
  have O2 := Lib.hid (O1.out.under hb)
  have T2 := Lib.hid (T1.out.below hb)
  clear hb B1 P1 R1 O1 T1
  cases ok with
  | false =>
    have h7 := hno.out rfl
    injection h7 with h8 h9
    subst h9
    clear h8 hyes hno
    replace HD := Lib.hid (show res = ((0, 0), Od.zero, 2) from HD.out)
    go_upto_region 4 with fail
    have hb := Lib.hid (alloc_below w2 (.cells #[.int .u8 d0, .int .u64 d1, .int .u32 d2, .int .u16 d3, .string d4, .string d5, .bool d6, .int .u64 d7, .int .u32 d8, .int .u16 d9, .string d10, .int .i64 d11] 34))
    generalize w2.alloc (.cells #[.int .u8 d0, .int .u64 d1, .int .u32 d2, .int .u16 d3, .string d4, .string d5, .bool d6, .int .u64 d7, .int .u32 d8, .int .u16 d9, .string d10, .int .i64 d11] 34) = w3 at *
    have hb := hb.out
    have B3 := Lib.hid (below_then B2.out hb)
    have P3 := Lib.hid (P2.out.below hb)
    have R3 := Lib.hid (R2.out.below hb)
    have O3 := Lib.hid (O2.out.under hb)
    have T3 := Lib.hid (T2.out.below hb)
    clear hb B2 P2 R2 O2 T2
    go_wp2_with (first | (refine wpList_store_rl rfl (.tmp 4) (.tmp 27) rfl R3.out 0 0 (by rfl) (by rfl) ?_; intro wR hR hK; have RS := Lib.hid hR; have KS := Lib.hid hK; have OR := Lib.hid (O3.out.kept22 hK (by omega)); clear hR hK) | (refine wpList_store_op rfl (.tmp 5) (.tmp 28) rfl OR.out Od.zero none 0 0 (by rfl) (by rfl) ?_; intro wS hO hK; have OS := Lib.hid hO; have RT := Lib.hid (RS.out.kept hK (by omega)); have KT := Lib.hid hK; clear hO hK))
    refine bodyPost_ret (results_add (p := 4) (q := 5) (u := 6) (a := 0) (b := 0) (o := Od.zero) (sv := .slice none 0 0) (by kernel_rfl) _ _ rfl rfl RT.out OS.out) rfl ?_
    exact ⟨by rw [HD.out]; rfl, OthersKept.below (OthersKept.below B3.out KS.out (fun k hk e => by omega)) KT.out (fun k hk e => by omega)⟩
  | true =>
    have h7 := hyes.out rfl
    injection h7 with h8 h9
    subst h9
    clear h8 hyes hno
    replace HD := Lib.hid (show res = (if rm < (l.length : Int) then ((0, 0), Od.zero, 4) else ((id, n % 65536), ⟨2, id, (n : Nat), 0, l, [], 0, 0, 0⟩, 0)) by rw [HD.out]; rfl)
    go_upto_region 4 with fail
    have hb := Lib.hid (alloc_below w2 (.cells #[.int .u8 d0, .int .u64 d1, .int .u32 d2, .int .u16 d3, .string d4, .string d5, .bool d6, .int .u64 d7, .int .u32 d8, .int .u16 d9, .string d10, .int .i64 d11] 34))
    generalize w2.alloc (.cells #[.int .u8 d0, .int .u64 d1, .int .u32 d2, .int .u16 d3, .string d4, .string d5, .bool d6, .int .u64 d7, .int .u32 d8, .int .u16 d9, .string d10, .int .i64 d11] 34) = w3 at *
    have hb := hb.out
    have B3 := Lib.hid (below_then B2.out hb)
    have P3 := Lib.hid (P2.out.below hb)
    have R3 := Lib.hid (R2.out.below hb)
    have O3 := Lib.hid (O2.out.under hb)
    have T3 := Lib.hid (T2.out.below hb)
    clear hb B2 P2 R2 O2 T2
    obtain ⟨p0, p1, p2, p3, p4, p5, p6⟩ := P3.out.cells
    go_wp2_with fail
    refine (CR.out _ T3.out).mono ?_
    rintro e w4 ⟨rfl, hb⟩
    clear CR p0 p1 p2 p3 p4 p5 p6
    have B4 := Lib.hid (below_then B3.out hb)
    have P4 := Lib.hid (P3.out.below hb)
    have R4 := Lib.hid (R3.out.below hb)
    have O4 := Lib.hid (O3.out.under hb)
    have T4 := Lib.hid (T3.out.below hb)
    clear hb B3 P3 R3 O3 T3
    by_cases hr : rm < (l.length : Int)
    case pos =>
      replace HD := Lib.hid (show res = ((0, 0), Od.zero, 4) by rw [HD.out, if_pos hr])
      have hrd : decide (rm < (l.length : Int)) = true := decide_eq_true hr
      go_wp2_with (first | (refine wpList_store_rl rfl (.tmp 4) (.tmp 34) rfl R4.out 0 0 (by rfl) (by rfl) ?_; intro wR hR hK; have RS := Lib.hid hR; have KS := Lib.hid hK; have OR := Lib.hid (O4.out.kept22 hK (by omega)); clear hR hK) | (refine wpList_store_op rfl (.tmp 5) (.tmp 35) rfl OR.out Od.zero none 0 0 (by rfl) (by rfl) ?_; intro wS hO hK; have OS := Lib.hid hO; have RT := Lib.hid (RS.out.kept hK (by omega)); have KT := Lib.hid hK; clear hO hK))
      refine bodyPost_ret (results_add (p := 4) (q := 5) (u := 6) (a := 0) (b := 0) (o := Od.zero) (sv := .slice none 0 0) (by kernel_rfl) _ _ rfl rfl RT.out OS.out) rfl ?_
      exact ⟨by rw [HD.out]; rfl, OthersKept.below (OthersKept.below B4.out KS.out (fun k hk e => by omega)) KT.out (fun k hk e => by omega)⟩
    replace HD := Lib.hid (show res = ((id, n % 65536), ⟨2, id, (n : Nat), 0, l, [], 0, 0, 0⟩, 0) by rw [HD.out, if_neg hr])
    have hrd : decide (rm < (l.length : Int)) = false := decide_eq_false hr
    clear hr
    obtain ⟨p0, p1, p2, p3, p4, p5, p6⟩ := P4.out.cells
    have hwn : IntKind.u16.wrap (n : Int) = ((n % 65536 : Nat) : Int) := by
      have h1 : IntKind.u16.signed = false := rfl
      have h2 : IntKind.u16.bits = 16 := rfl
      simp [IntKind.wrap, h1, h2]
    go_upto_region 9 with fail
    clear p0 p1 p2 p3 p4 p5 p6
    refine wp_region_held_drew (S := fun W => Below w.heap.size w W ∧ PgBox W w.heap.size kind level id lsn next (.slice A n cp)) (by kernel_rfl) (⟨B4.out.drew, P4.out⟩) (fun hHeld => ?_)
    have RR : Hid (RlBox w4.drew (w.heap.size + 1) 0 0) := R4
    have OR : Hid (OAt w4.drew (w.heap.size + 1 + 1) Od.zero (.slice none 0 0)) := O4
    clear R4 O4 P4 B4 T4
    generalize w4.drew = v0 at *
    refine wpAnyH_take (i := 0) (oi := { dst := some 39, op := Go.Op.fieldAddr 26 (Go.Operand.tmp 2) 2, type := 0, pos := "ref.go:151", after := #[], guard := none }) (v := ?_) rfl (by kernel_rfl) (by kernel_rfl) (by kernel_rfl) (fun _ _ _ h => h) (Or.inl ⟨by rfl, ?_⟩) hHeld ?_
    rotate_left
    · (intro w hSw; go_simp <;> with_reducible rfl)
    simp only [Act.put, List.setIfInBounds_toArray, List.set_cons_zero, List.set_cons_succ]
    refine wpAnyH_take (i := 1) (oi := { dst := some 40, op := Go.Op.load 22 (Go.Operand.tmp 39), type := 22, pos := "ref.go:151", after := #[{ on := 0, ground := Go.Ground.data }], guard := none }) (v := ?_) rfl (by kernel_rfl) (by kernel_rfl) (by kernel_rfl) (fun _ _ _ h => h) (Or.inl ⟨by rfl, ?_⟩) hHeld ?_
    rotate_left
    · (intro w hSw; obtain ⟨p0, p1, p2, p3, p4, p5, p6⟩ := PgBox.cells hSw.2; go_simp <;> with_reducible rfl)
    simp only [Act.put, List.setIfInBounds_toArray, List.set_cons_zero, List.set_cons_succ]
    refine wpAnyH_take (i := 2) (oi := { dst := some 41, op := Go.Op.move (Go.Operand.tmp 9), type := 3, pos := "ref.go:151", after := #[], guard := none }) (v := ?_) rfl (by kernel_rfl) (by kernel_rfl) (by kernel_rfl) (fun _ _ _ h => h) (Or.inl ⟨by rfl, ?_⟩) hHeld ?_
    rotate_left
    · (intro w hSw; go_simp <;> with_reducible rfl)
    simp only [Act.put, List.setIfInBounds_toArray, List.set_cons_zero, List.set_cons_succ]
    refine wpAnyH_take (i := 3) (oi := { dst := some 42, op := Go.Op.convert 3 28 (Go.Operand.tmp 41), type := 28, pos := "ref.go:151", after := #[{ on := 2, ground := Go.Ground.data }], guard := none }) (v := ?_) rfl (by kernel_rfl) (by kernel_rfl) (by kernel_rfl) (fun _ _ _ h => h) (Or.inl ⟨by rfl, ?_⟩) hHeld ?_
    rotate_left
    · (intro w hSw; go_simp <;> with_reducible rfl)
    simp only [Act.put, List.setIfInBounds_toArray, List.set_cons_zero, List.set_cons_succ]
    refine wpAnyH_take (i := 4) (oi := { dst := some 43, op := Go.Op.build 30 #[(0, Go.Operand.tmp 40), (1, Go.Operand.tmp 42)], type := 30, pos := "ref.go:151", after := #[{ on := 1, ground := Go.Ground.data }, { on := 3, ground := Go.Ground.data }], guard := none }) (v := ?_) rfl (by kernel_rfl) (by kernel_rfl) (by kernel_rfl) (fun _ _ _ h => h) (Or.inl ⟨by rfl, ?_⟩) hHeld ?_
    rotate_left
    · (intro w hSw; go_simp <;> with_reducible rfl)
    simp only [Act.put, List.setIfInBounds_toArray, List.set_cons_zero, List.set_cons_succ]
    refine wpAnyH_take (i := 5) (oi := { dst := some 44, op := Go.Op.fieldAddr 26 (Go.Operand.tmp 2) 2, type := 0, pos := "ref.go:151", after := #[{ on := 10, ground := Go.Ground.gcOnly Go.Departure.lateStores }], guard := none }) (v := ?_) rfl (by kernel_rfl) (by kernel_rfl) (by kernel_rfl) (fun _ _ _ h => h) (Or.inl ⟨by rfl, ?_⟩) hHeld ?_
    rotate_left
    · (intro w hSw; go_simp <;> with_reducible rfl)
    simp only [Act.put, List.setIfInBounds_toArray, List.set_cons_zero, List.set_cons_succ]
    refine wpAnyH_take (i := 6) (oi := { dst := some 45, op := Go.Op.load 22 (Go.Operand.tmp 44), type := 22, pos := "ref.go:151", after := #[{ on := 5, ground := Go.Ground.data }, { on := 10, ground := Go.Ground.gcOnly Go.Departure.lateStores }], guard := none }) (v := ?_) rfl (by kernel_rfl) (by kernel_rfl) (by kernel_rfl) (fun _ _ _ h => h) (Or.inl ⟨by rfl, ?_⟩) hHeld ?_
    rotate_left
    · (intro w hSw; obtain ⟨p0, p1, p2, p3, p4, p5, p6⟩ := PgBox.cells hSw.2; go_simp <;> with_reducible rfl)
    simp only [Act.put, List.setIfInBounds_toArray, List.set_cons_zero, List.set_cons_succ]
    refine wpAnyH_take (i := 7) (oi := { dst := some 46, op := Go.Op.move (Go.Operand.tmp 9), type := 3, pos := "ref.go:151", after := #[{ on := 10, ground := Go.Ground.gcOnly Go.Departure.lateStores }], guard := none }) (v := ?_) rfl (by kernel_rfl) (by kernel_rfl) (by kernel_rfl) (fun _ _ _ h => h) (Or.inl ⟨by rfl, ?_⟩) hHeld ?_
    rotate_left
    · (intro w hSw; go_simp <;> with_reducible rfl)
    simp only [Act.put, List.setIfInBounds_toArray, List.set_cons_zero, List.set_cons_succ]
    refine wpAnyH_take (i := 8) (oi := { dst := some 47, op := Go.Op.move (Go.Operand.tmp 1), type := 9, pos := "ref.go:151", after := #[{ on := 10, ground := Go.Ground.gcOnly Go.Departure.lateStores }], guard := none }) (v := ?_) rfl (by kernel_rfl) (by kernel_rfl) (by kernel_rfl) (fun _ _ _ h => h) (Or.inl ⟨by rfl, ?_⟩) hHeld ?_
    rotate_left
    · (intro w hSw; go_simp <;> with_reducible rfl)
    simp only [Act.put, List.setIfInBounds_toArray, List.set_cons_zero, List.set_cons_succ]
    refine wpAnyH_take (i := 9) (oi := { dst := some 48, op := Go.Op.build 40 #[(0, Go.Operand.const (Go.Value.int Go.IntKind.u8 2)), (1, Go.Operand.tmp 45), (2, Go.Operand.tmp 46), (4, Go.Operand.tmp 47)], type := 40, pos := "ref.go:151", after := #[{ on := 6, ground := Go.Ground.data }, { on := 7, ground := Go.Ground.data }, { on := 8, ground := Go.Ground.data }, { on := 10, ground := Go.Ground.gcOnly Go.Departure.lateStores }], guard := none }) (v := ?_) rfl (by kernel_rfl) (by kernel_rfl) (by kernel_rfl) (fun _ _ _ h => h) (Or.inl ⟨by rfl, ?_⟩) hHeld ?_
    rotate_left
    · (intro w hSw; go_simp <;> with_reducible rfl)
    simp only [Act.put, List.setIfInBounds_toArray, List.set_cons_zero, List.set_cons_succ]
    refine wpAnyH_ready (rs := [10]) (by kernel_rfl) (by simp) (AllReadyH.cons (o := { dst := none, op := Go.Op.store 30 (Go.Operand.tmp 4) (Go.Operand.tmp 43), type := 0, pos := "ref.go:151", after := #[{ on := 4, ground := Go.Ground.data }, { on := 0, ground := Go.Ground.phase }, { on := 1, ground := Go.Ground.phase }, { on := 2, ground := Go.Ground.phase }, { on := 3, ground := Go.Ground.phase }, { on := 4, ground := Go.Ground.phase }, { on := 5, ground := Go.Ground.textOnly Go.Departure.lateStores }, { on := 6, ground := Go.Ground.textOnly Go.Departure.lateStores }, { on := 7, ground := Go.Ground.textOnly Go.Departure.lateStores }, { on := 8, ground := Go.Ground.textOnly Go.Departure.lateStores }, { on := 9, ground := Go.Ground.textOnly Go.Departure.lateStores }], guard := none }) rfl (fun K hK => ?_) AllReadyH.nil)
    · refine step_store_rl rfl (.tmp 4) (.tmp 43) rfl RR.out id (n % 65536) (by rfl) (by rfl) ?_
      intro v1 hOq hKq
      have RR := Lib.hid hOq
      have OR := Lib.hid (OR.out.kept22 hKq (by omega))
      have hS1 := Lib.hid (And.intro (OthersKept.below hHeld.1 hKq (fun k hk e => by omega)) (hKq.heap hHeld.2 (by omega)))
      clear hOq hKq hHeld
      refine hK.out _ _ ?_ (fun hHeld => ?_)
      · exact hS1.out
      clear hK K
      (try simp only [Act.put, List.setIfInBounds_toArray, List.set_cons_zero, List.set_cons_succ])
      refine wpAnyH_ready (rs := [11]) (by kernel_rfl) (by simp) (AllReadyH.cons (o := { dst := none, op := Go.Op.store 40 (Go.Operand.tmp 5) (Go.Operand.tmp 48), type := 0, pos := "ref.go:151", after := #[{ on := 9, ground := Go.Ground.data }, { on := 10, ground := Go.Ground.chain }, { on := 0, ground := Go.Ground.phase }, { on := 1, ground := Go.Ground.phase }, { on := 2, ground := Go.Ground.phase }, { on := 3, ground := Go.Ground.phase }, { on := 4, ground := Go.Ground.phase }, { on := 5, ground := Go.Ground.phase }, { on := 6, ground := Go.Ground.phase }, { on := 7, ground := Go.Ground.phase }, { on := 8, ground := Go.Ground.phase }, { on := 9, ground := Go.Ground.phase }, { on := 10, ground := Go.Ground.phase }], guard := none }) rfl (fun K hK => ?_) AllReadyH.nil)
      · refine step_store_op rfl (.tmp 5) (.tmp 48) rfl OR.out ⟨2, id, (n : Nat), 0, l, [], 0, 0, 0⟩ none 0 0 (by rfl) (by rfl) ?_
        intro v2 hOq hKq
        have OR := Lib.hid hOq
        have RR := Lib.hid (RR.out.kept hKq (by omega))
        have hS2 := Lib.hid (And.intro (OthersKept.below hHeld.1 hKq (fun k hk e => by omega)) (hKq.heap hHeld.2 (by omega)))
        clear hOq hKq hHeld
        refine hK.out _ _ ?_ (fun hHeld => ?_)
        · exact hS2.out
        clear hK K
        (try simp only [Act.put, List.setIfInBounds_toArray, List.set_cons_zero, List.set_cons_succ])
        refine wpAnyH_take (i := 12) (oi := { dst := some 6, op := Go.Op.assign (Go.Operand.const (Go.Value.int Go.IntKind.i64 0)), type := 41, pos := "ref.go:151", after := #[{ on := 11, ground := Go.Ground.chain }, { on := 0, ground := Go.Ground.phase }, { on := 1, ground := Go.Ground.phase }, { on := 2, ground := Go.Ground.phase }, { on := 3, ground := Go.Ground.phase }, { on := 4, ground := Go.Ground.phase }, { on := 5, ground := Go.Ground.phase }, { on := 6, ground := Go.Ground.phase }, { on := 7, ground := Go.Ground.phase }, { on := 8, ground := Go.Ground.phase }, { on := 9, ground := Go.Ground.phase }, { on := 10, ground := Go.Ground.phase }, { on := 11, ground := Go.Ground.phase }], guard := none }) (v := ?_) rfl (by kernel_rfl) (by kernel_rfl) (by kernel_rfl) (fun _ _ _ h => h) (Or.inl ⟨by rfl, ?_⟩) hHeld ?_
        rotate_left
        · (intro w hSw; go_simp <;> with_reducible rfl)
        simp only [Act.put, List.setIfInBounds_toArray, List.set_cons_zero, List.set_cons_succ]
        refine wpAnyH_done (by kernel_rfl) ?_ _
        go_wp2_with fail
        refine bodyPost_ret (results_add (p := 4) (q := 5) (u := 6) (a := id) (b := n % 65536) (o := ⟨2, id, (n : Nat), 0, l, [], 0, 0, 0⟩) (sv := .slice none 0 0) (by kernel_rfl) _ _ rfl rfl RR.out OR.out) rfl ?_
        exact ⟨by rw [HD.out]; rfl, hHeld.1⟩
set_option maxHeartbeats 8000000 in
set_option maxRecDepth 100000 in
theorem segGet_any (p : Pg) (sv : Value) (slot : Nat) (w : World) (hp : p.wf) (ht : TextsAt w sv p.rows) (hb : weightB p.rows ≤ 1000000) (hs : slot < 65536) :
    Calls Tryz.prog 11 #[pgV p sv, .int .u16 slot] w fun e w' => e = .returned (.tuple #[udV (sGetB p slot).1, .int .i64 (sGetB p slot).2]) ∧ Below w.heap.size w w' := by
  have CD : Hid (∀ W l, l.length ≤ 1000000 → Calls Tryz.prog 28 #[.string ⟨l.toArray⟩] W fun e w' => e = .returned (.tuple #[udV (decB l).1, .int .i64 (decB l).2]) ∧ Below W.heap.size W w') := Lib.hid fun W l hl => by
    have h := undoDecode_any ⟨l.toArray⟩ W (by simpa [ByteArray.size] using hl)
    rw [show (⟨l.toArray⟩ : ByteArray).data.toList = l from rfl, decUV_B] at h
    exact h
  have hdef : sGetB p slot = (if uFine p then (if slot < p.rows.length then (if decUOk (p.rows.getD slot []) then (uOf (p.rows.getD slot []), 0) else (Ud.zero, 60)) else (Ud.zero, 3)) else (Ud.zero, 60)) := rfl
  have hfine : uFine p = (decide (p.kind = 3) && p.may) := rfl
  have HLN : Hid (∀ l ∈ p.rows, l.length ≤ 1000000) := Lib.hid fun l h => by have := weightB_mem h; omega
  have CM := Lib.hid fun W (h : TextsAt W sv p.rows) => pageMay_any p sv W hp h hb
  have HT := Lib.hid ht
  have hnb : p.rows.length ≤ 1000000 := by have := weightB_length p.rows; omega
  obtain ⟨n, hn⟩ : ∃ n, n = p.rows.length := ⟨_, rfl⟩
  obtain ⟨A, cp, hsv, h2, h3, h4, h5⟩ := ht
  rw [← hn] at hsv hnb
  subst hsv
  clear h2 h3 h4 h5
  rw [← hn] at hdef
  generalize sGetB p slot = res at *
  generalize uFine p = fine at *
  generalize p.may = my at *
  clear hp hb
  unfold pgV at *
  obtain ⟨kind, level, id, lsn, next, rows⟩ := p
  simp only at *
  have HD := Lib.hid hdef
  have HF := Lib.hid hfine
  have HN := Lib.hid hn
  clear hdef hfine hn
  have B0 := Lib.hid (alloc_below w (.cells #[.int .u8 kind, .int .u8 level, .int .u32 id, .int .u64 lsn, .int .u32 next, .slice A n cp] 26))
  have P0 := Lib.hid (PgBox.new w kind level id lsn next (.slice A n cp))
  obtain ⟨g, hg⟩ : ∃ z, z = w.heap.size := ⟨_, rfl⟩
  have hz1 : (w.alloc (.cells #[.int .u8 kind, .int .u8 level, .int .u32 id, .int .u64 lsn, .int .u32 next, .slice A n cp] 26)).heap.size = w.heap.size + 1 := by simp
  have U0 : Hid (UdBox ((w.alloc (.cells #[.int .u8 kind, .int .u8 level, .int .u32 id, .int .u64 lsn, .int .u32 next, .slice A n cp] 26)).alloc (.cells #[.int .u8 0, .int .u64 0, .int .u32 0, .int .u16 0, .string ⟨#[]⟩, .string ⟨#[]⟩, .bool false, .int .u64 0, .int .u32 0, .int .u16 0, .string ⟨#[]⟩, .int .i64 0] 34)) (w.heap.size + 1) Ud.zero) := by
    have h := UdBox.new (w.alloc (.cells #[.int .u8 kind, .int .u8 level, .int .u32 id, .int .u64 lsn, .int .u32 next, .slice A n cp] 26)) Ud.zero
    rw [hz1] at h
    exact h
  have B0 := Lib.hid (B0.out.alloc B0.out.size (.cells #[.int .u8 0, .int .u64 0, .int .u32 0, .int .u16 0, .string ⟨#[]⟩, .string ⟨#[]⟩, .bool false, .int .u64 0, .int .u32 0, .int .u16 0, .string ⟨#[]⟩, .int .i64 0] 34))
  have P0 := Lib.hid (P0.out.keep (.cells #[.int .u8 0, .int .u64 0, .int .u32 0, .int .u16 0, .string ⟨#[]⟩, .string ⟨#[]⟩, .bool false, .int .u64 0, .int .u32 0, .int .u16 0, .string ⟨#[]⟩, .int .i64 0] 34))
  clear hz1
  go_enter Tryz.func11, Tryz.ntmps11
  go_upto_region 1 with fail
  generalize (w.alloc (.cells #[.int .u8 kind, .int .u8 level, .int .u32 id, .int .u64 lsn, .int .u32 next, .slice A n cp] 26)).alloc (.cells #[.int .u8 0, .int .u64 0, .int .u32 0, .int .u16 0, .string ⟨#[]⟩, .string ⟨#[]⟩, .bool false, .int .u64 0, .int .u32 0, .int .u16 0, .string ⟨#[]⟩, .int .i64 0] 34) = w0 at *
  have T0 := Lib.hid (HT.out.below B0.out)
  clear HT
  obtain ⟨p0, p1, p2, p3, p4, p5, p6⟩ := P0.out.cells
  by_cases hk : kind = 3
  case neg =>
    have hki : ((kind : Int) != 3) = true := by simp; omega
    have HF2 : Hid (fine = false) := by show _ = _; rw [HF.out, decide_eq_false hk]; rfl
    replace HD := Lib.hid (show res = (Ud.zero, 60) by rw [HD.out, HF2.out]; rfl)
    clear HF HF2 hk
    go_wp2_with (refine wpList_store_ud rfl (.tmp 4) (.tmp 15) rfl U0.out Ud.zero (by rfl) (by rfl) ?_; intro wS hO hK; have OS := Lib.hid hO; have KS := Lib.hid hK; clear hO hK)
    refine bodyPost_ret (results_ud (p := 4) (u := 5) (d := Ud.zero) (by kernel_rfl) _ _ rfl OS.out) rfl ?_
    exact ⟨by rw [HD.out]; rfl, OthersKept.below B0.out KS.out (fun k hk e => by omega)⟩
  have hki : ((kind : Int) != 3) = false := by rw [hk]; rfl
  replace HF := Lib.hid (show fine = my by rw [HF.out, decide_eq_true hk]; rfl)
  clear hk
  go_wp2_with fail
  refine (CM.out _ T0.out).mono ?_
  rintro e w1 ⟨rfl, hb⟩
  clear CM p0 p1 p2 p3 p4 p5 p6
  have B1 := Lib.hid (below_then B0.out hb)
  have P1 := Lib.hid (P0.out.below hb)
  have U1 := Lib.hid (U0.out.below hb)
  have T1 := Lib.hid (T0.out.below hb)
  clear hb B0 P0 U0 T0
  cases my with
  | false =>
    replace HD := Lib.hid (show res = (Ud.zero, 60) by rw [HD.out, HF.out]; rfl)
    go_wp2_with (refine wpList_store_ud rfl (.tmp 4) (.tmp 15) rfl U1.out Ud.zero (by rfl) (by rfl) ?_; intro wS hO hK; have OS := Lib.hid hO; have KS := Lib.hid hK; clear hO hK)
    refine bodyPost_ret (results_ud (p := 4) (u := 5) (d := Ud.zero) (by kernel_rfl) _ _ rfl OS.out) rfl ?_
    exact ⟨by rw [HD.out]; rfl, OthersKept.below B1.out KS.out (fun k hk e => by omega)⟩
  | true =>
  replace HD := Lib.hid (show res = (if slot < n then (if decUOk (rows.getD slot []) then (uOf (rows.getD slot []), 0) else (Ud.zero, 60)) else (Ud.zero, 3)) by rw [HD.out, HF.out]; rfl)
  clear HF
  obtain ⟨p0, p1, p2, p3, p4, p5, p6⟩ := P1.out.cells
  by_cases hsn : slot < n
  case neg =>
    replace HD := Lib.hid (show res = (Ud.zero, 3) by rw [HD.out, if_neg hsn])
    have hsd : decide (n ≤ slot) = true := decide_eq_true (by omega)
    have hsi : (n : Int) ≤ (slot : Int) := by omega
    go_wp2_with (refine wpList_store_ud rfl (.tmp 4) (.tmp 23) rfl U1.out Ud.zero (by rfl) (by rfl) ?_; intro wS hO hK; have OS := Lib.hid hO; have KS := Lib.hid hK; clear hO hK)
    refine bodyPost_ret (results_ud (p := 4) (u := 5) (d := Ud.zero) (by kernel_rfl) _ _ rfl OS.out) rfl ?_
    exact ⟨by rw [HD.out]; rfl, OthersKept.below B1.out KS.out (fun k hk e => by omega)⟩
  have hsd : decide (n ≤ slot) = false := decide_eq_false (by omega)
  have hsi : ¬ (n : Int) ≤ (slot : Int) := by omega
  have hs0 : (0 : Int) ≤ (slot : Int) := by omega
  have hs1 : (slot : Int) < (n : Int) := by omega
  have hil : slot < rows.length := by rw [← HN.out]; exact hsn
  obtain ⟨_, _, hvv, _, _, _, hcc⟩ := T1.out
  obtain ⟨b, o, hA, hbl, hcell⟩ := hcc (by omega)
  have hAA : A = some ⟨b, o, none⟩ := by injection hvv with e1 _ _; exact e1.trans hA
  subst hAA
  have c0 := hcell slot hil
  have hlr := HLN.out rows[slot] (List.getElem_mem hil)
  have hgd : rows.getD slot [] = rows[slot] := by rw [List.getD_eq_getElem?_getD, List.getElem?_eq_getElem hil]; rfl
  replace HD := Lib.hid (show res = (if decUOk rows[slot] then (uOf rows[slot], 0) else (Ud.zero, 60)) by rw [HD.out, if_pos hsn, hgd])
  clear hcell hcc hvv hA hsn hgd
  have hyes : Hid (decUOk rows[slot] = true → decB rows[slot] = (uOf rows[slot], 0)) := Lib.hid decB_yes
  have hno : Hid (decUOk rows[slot] = false → decB rows[slot] = (Ud.zero, 7)) := Lib.hid decB_no
  have CD := Lib.hid fun W => CD.out W rows[slot] hlr
  generalize rows[slot] = l at *
  have hrz : (⟨l.toArray⟩ : ByteArray).size = l.length := rfl
  clear HLN hil
  generalize decUOk l = ok at *
  generalize decB l = dd at *
  generalize uOf l = uu at *
  obtain ⟨dr, er⟩ := dd
  obtain ⟨d0, d1, d2, d3, d4, d5, d6, d7, d8, d9, d10, d11⟩ := dr
  unfold udV at CD
  simp only at CD
  go_wp2_with fail
  refine (CD.out _).mono ?_
  rintro e w2 ⟨rfl, hb⟩
  clear CD p0 p1 p2 p3 p4 p5 p6 c0
  have B2 := Lib.hid (below_then B1.out hb)
  have P2 := Lib.hid (P1.out.below hb)
  have U2 := Lib.hid (U1.out.below hb)
  have T2 := Lib.hid (T1.out.below hb)
  clear hb B1 P1 U1 T1
  go_upto_region 7 with fail
  have hb := Lib.hid (alloc_below w2 (.cells #[.int .u8 d0, .int .u64 d1, .int .u32 d2, .int .u16 d3, .string d4, .string d5, .bool d6, .int .u64 d7, .int .u32 d8, .int .u16 d9, .string d10, .int .i64 d11] 34))
  have D3 := Lib.hid (UdBox.new w2 ⟨d0, d1, d2, d3, d4, d5, d6, d7, d8, d9, d10, d11⟩)
  simp only at D3
  generalize w2.alloc (.cells #[.int .u8 d0, .int .u64 d1, .int .u32 d2, .int .u16 d3, .string d4, .string d5, .bool d6, .int .u64 d7, .int .u32 d8, .int .u16 d9, .string d10, .int .i64 d11] 34) = w3 at *
  have hb := hb.out
  have B3 := Lib.hid (below_then B2.out hb)
  have P3 := Lib.hid (P2.out.below hb)
  have U3 := Lib.hid (U2.out.below hb)
  have T3 := Lib.hid (T2.out.below hb)
  clear hb B2 P2 U2 T2
  cases ok with
  | false =>
    have h7 := hno.out rfl
    injection h7 with h8 h9
    subst h9
    clear h8 hyes hno
    replace HD := Lib.hid (show res = (Ud.zero, 60) from HD.out)
    go_wp2_with (refine wpList_store_ud rfl (.tmp 4) (.tmp 35) rfl U3.out Ud.zero (by rfl) (by rfl) ?_; intro wS hO hK; have OS := Lib.hid hO; have KS := Lib.hid hK; clear hO hK)
    refine bodyPost_ret (results_ud (p := 4) (u := 5) (d := Ud.zero) (by kernel_rfl) _ _ rfl OS.out) rfl ?_
    exact ⟨by rw [HD.out]; rfl, OthersKept.below B3.out KS.out (fun k hk e => by omega)⟩
  | true =>
    have h7 := hyes.out rfl
    injection h7 with h8 h9
    subst h9
    replace HD := Lib.hid (show res = (⟨d0, d1, d2, d3, d4, d5, d6, d7, d8, d9, d10, d11⟩, 0) by rw [HD.out, h8]; rfl)
    clear h8 hyes hno
    obtain ⟨q0, q1, q2, q3, q4, q5, q6, q7, q8, q9, q10, q11, q12⟩ := D3.out.cells
    simp only at q1 q2 q3 q4 q5 q6 q7 q8 q9 q10 q11 q12
    go_wp2_with (refine wpList_store_ud rfl (.tmp 4) (.tmp 36) rfl U3.out ⟨d0, d1, d2, d3, d4, d5, d6, d7, d8, d9, d10, d11⟩ (by rfl) (by rfl) ?_; intro wS hO hK; have OS := Lib.hid hO; have KS := Lib.hid hK; clear hO hK)
    refine bodyPost_ret (results_ud (p := 4) (u := 5) (d := ⟨d0, d1, d2, d3, d4, d5, d6, d7, d8, d9, d10, d11⟩) (by kernel_rfl) _ _ rfl OS.out) rfl ?_
    exact ⟨by rw [HD.out]; rfl, OthersKept.below B3.out KS.out (fun k hk e => by omega)⟩
set_option maxHeartbeats 8000000 in
set_option maxRecDepth 100000 in
theorem refSegGet_any (p : Pg) (sv : Value) (slot : Nat) (w : World) (hp : p.wf) (ht : TextsAt w sv p.rows) (hb : weightB p.rows ≤ 1000000) (hs : slot < 65536) :
    Calls Tryz.prog 12 #[pgV p sv, .int .u16 slot] w fun e w' => e = .returned (.tuple #[udV (sGetB p slot).1, .int .i64 (sGetB p slot).2]) ∧ Below w.heap.size w w' := by
  have CD : Hid (∀ W l, l.length ≤ 1000000 → Calls Tryz.prog 31 #[.string ⟨l.toArray⟩] W fun e w' => e = .returned (.tuple #[udV (decB l).1, .int .i64 (decB l).2]) ∧ Below W.heap.size W w') := Lib.hid fun W l hl => by
    have h := refUndoDecode_any ⟨l.toArray⟩ W (by simpa [ByteArray.size] using hl)
    rw [show (⟨l.toArray⟩ : ByteArray).data.toList = l from rfl, decUV_B] at h
    exact h
  have hdef : sGetB p slot = (if uFine p then (if slot < p.rows.length then (if decUOk (p.rows.getD slot []) then (uOf (p.rows.getD slot []), 0) else (Ud.zero, 60)) else (Ud.zero, 3)) else (Ud.zero, 60)) := rfl
  have hfine : uFine p = (decide (p.kind = 3) && p.may) := rfl
  have HLN : Hid (∀ l ∈ p.rows, l.length ≤ 1000000) := Lib.hid fun l h => by have := weightB_mem h; omega
  have CM := Lib.hid fun W (h : TextsAt W sv p.rows) => refMay06_any p sv W hp h hb
  have HT := Lib.hid ht
  have hnb : p.rows.length ≤ 1000000 := by have := weightB_length p.rows; omega
  obtain ⟨n, hn⟩ : ∃ n, n = p.rows.length := ⟨_, rfl⟩
  obtain ⟨A, cp, hsv, h2, h3, h4, h5⟩ := ht
  rw [← hn] at hsv hnb
  subst hsv
  clear h2 h3 h4 h5
  rw [← hn] at hdef
  generalize sGetB p slot = res at *
  generalize uFine p = fine at *
  generalize p.may = my at *
  clear hp hb
  unfold pgV at *
  obtain ⟨kind, level, id, lsn, next, rows⟩ := p
  simp only at *
  have HD := Lib.hid hdef
  have HF := Lib.hid hfine
  have HN := Lib.hid hn
  clear hdef hfine hn
  have B0 := Lib.hid (alloc_below w (.cells #[.int .u8 kind, .int .u8 level, .int .u32 id, .int .u64 lsn, .int .u32 next, .slice A n cp] 26))
  have P0 := Lib.hid (PgBox.new w kind level id lsn next (.slice A n cp))
  obtain ⟨g, hg⟩ : ∃ z, z = w.heap.size := ⟨_, rfl⟩
  have hz1 : (w.alloc (.cells #[.int .u8 kind, .int .u8 level, .int .u32 id, .int .u64 lsn, .int .u32 next, .slice A n cp] 26)).heap.size = w.heap.size + 1 := by simp
  have U0 : Hid (UdBox ((w.alloc (.cells #[.int .u8 kind, .int .u8 level, .int .u32 id, .int .u64 lsn, .int .u32 next, .slice A n cp] 26)).alloc (.cells #[.int .u8 0, .int .u64 0, .int .u32 0, .int .u16 0, .string ⟨#[]⟩, .string ⟨#[]⟩, .bool false, .int .u64 0, .int .u32 0, .int .u16 0, .string ⟨#[]⟩, .int .i64 0] 34)) (w.heap.size + 1) Ud.zero) := by
    have h := UdBox.new (w.alloc (.cells #[.int .u8 kind, .int .u8 level, .int .u32 id, .int .u64 lsn, .int .u32 next, .slice A n cp] 26)) Ud.zero
    rw [hz1] at h
    exact h
  have B0 := Lib.hid (B0.out.alloc B0.out.size (.cells #[.int .u8 0, .int .u64 0, .int .u32 0, .int .u16 0, .string ⟨#[]⟩, .string ⟨#[]⟩, .bool false, .int .u64 0, .int .u32 0, .int .u16 0, .string ⟨#[]⟩, .int .i64 0] 34))
  have P0 := Lib.hid (P0.out.keep (.cells #[.int .u8 0, .int .u64 0, .int .u32 0, .int .u16 0, .string ⟨#[]⟩, .string ⟨#[]⟩, .bool false, .int .u64 0, .int .u32 0, .int .u16 0, .string ⟨#[]⟩, .int .i64 0] 34))
  clear hz1
  go_enter Tryz.func12, Tryz.ntmps12
  go_upto_region 1 with fail
  generalize (w.alloc (.cells #[.int .u8 kind, .int .u8 level, .int .u32 id, .int .u64 lsn, .int .u32 next, .slice A n cp] 26)).alloc (.cells #[.int .u8 0, .int .u64 0, .int .u32 0, .int .u16 0, .string ⟨#[]⟩, .string ⟨#[]⟩, .bool false, .int .u64 0, .int .u32 0, .int .u16 0, .string ⟨#[]⟩, .int .i64 0] 34) = w0 at *
  have T0 := Lib.hid (HT.out.below B0.out)
  clear HT
  obtain ⟨p0, p1, p2, p3, p4, p5, p6⟩ := P0.out.cells
  by_cases hk : kind = 3
  case neg =>
    have hki : ((kind : Int) != 3) = true := by simp; omega
    have HF2 : Hid (fine = false) := by show _ = _; rw [HF.out, decide_eq_false hk]; rfl
    replace HD := Lib.hid (show res = (Ud.zero, 60) by rw [HD.out, HF2.out]; rfl)
    clear HF HF2 hk
    go_wp2_with (refine wpList_store_ud rfl (.tmp 4) (.tmp 16) rfl U0.out Ud.zero (by rfl) (by rfl) ?_; intro wS hO hK; have OS := Lib.hid hO; have KS := Lib.hid hK; clear hO hK)
    refine bodyPost_ret (results_ud (p := 4) (u := 5) (d := Ud.zero) (by kernel_rfl) _ _ rfl OS.out) rfl ?_
    exact ⟨by rw [HD.out]; rfl, OthersKept.below B0.out KS.out (fun k hk e => by omega)⟩
  have hki : ((kind : Int) != 3) = false := by rw [hk]; rfl
  replace HF := Lib.hid (show fine = my by rw [HF.out, decide_eq_true hk]; rfl)
  clear hk
  go_wp2_with fail
  refine (CM.out _ T0.out).mono ?_
  rintro e w1 ⟨rfl, hb⟩
  clear CM p0 p1 p2 p3 p4 p5 p6
  have B1 := Lib.hid (below_then B0.out hb)
  have P1 := Lib.hid (P0.out.below hb)
  have U1 := Lib.hid (U0.out.below hb)
  have T1 := Lib.hid (T0.out.below hb)
  clear hb B0 P0 U0 T0
  cases my with
  | false =>
    replace HD := Lib.hid (show res = (Ud.zero, 60) by rw [HD.out, HF.out]; rfl)
    go_wp2_with (refine wpList_store_ud rfl (.tmp 4) (.tmp 16) rfl U1.out Ud.zero (by rfl) (by rfl) ?_; intro wS hO hK; have OS := Lib.hid hO; have KS := Lib.hid hK; clear hO hK)
    refine bodyPost_ret (results_ud (p := 4) (u := 5) (d := Ud.zero) (by kernel_rfl) _ _ rfl OS.out) rfl ?_
    exact ⟨by rw [HD.out]; rfl, OthersKept.below B1.out KS.out (fun k hk e => by omega)⟩
  | true =>
  replace HD := Lib.hid (show res = (if slot < n then (if decUOk (rows.getD slot []) then (uOf (rows.getD slot []), 0) else (Ud.zero, 60)) else (Ud.zero, 3)) by rw [HD.out, HF.out]; rfl)
  clear HF
  obtain ⟨p0, p1, p2, p3, p4, p5, p6⟩ := P1.out.cells
  by_cases hsn : slot < n
  case neg =>
    replace HD := Lib.hid (show res = (Ud.zero, 3) by rw [HD.out, if_neg hsn])
    have hsd : decide (n ≤ slot) = true := decide_eq_true (by omega)
    have hsi : (n : Int) ≤ (slot : Int) := by omega
    go_wp2_with (refine wpList_store_ud rfl (.tmp 4) (.tmp 23) rfl U1.out Ud.zero (by rfl) (by rfl) ?_; intro wS hO hK; have OS := Lib.hid hO; have KS := Lib.hid hK; clear hO hK)
    refine bodyPost_ret (results_ud (p := 4) (u := 5) (d := Ud.zero) (by kernel_rfl) _ _ rfl OS.out) rfl ?_
    exact ⟨by rw [HD.out]; rfl, OthersKept.below B1.out KS.out (fun k hk e => by omega)⟩
  have hsd : decide (n ≤ slot) = false := decide_eq_false (by omega)
  have hsi : ¬ (n : Int) ≤ (slot : Int) := by omega
  have hs0 : (0 : Int) ≤ (slot : Int) := by omega
  have hs1 : (slot : Int) < (n : Int) := by omega
  have hil : slot < rows.length := by rw [← HN.out]; exact hsn
  obtain ⟨_, _, hvv, _, _, _, hcc⟩ := T1.out
  obtain ⟨b, o, hA, hbl, hcell⟩ := hcc (by omega)
  have hAA : A = some ⟨b, o, none⟩ := by injection hvv with e1 _ _; exact e1.trans hA
  subst hAA
  have c0 := hcell slot hil
  have hlr := HLN.out rows[slot] (List.getElem_mem hil)
  have hgd : rows.getD slot [] = rows[slot] := by rw [List.getD_eq_getElem?_getD, List.getElem?_eq_getElem hil]; rfl
  replace HD := Lib.hid (show res = (if decUOk rows[slot] then (uOf rows[slot], 0) else (Ud.zero, 60)) by rw [HD.out, if_pos hsn, hgd])
  clear hcell hcc hvv hA hsn hgd
  have hyes : Hid (decUOk rows[slot] = true → decB rows[slot] = (uOf rows[slot], 0)) := Lib.hid decB_yes
  have hno : Hid (decUOk rows[slot] = false → decB rows[slot] = (Ud.zero, 7)) := Lib.hid decB_no
  have CD := Lib.hid fun W => CD.out W rows[slot] hlr
  generalize rows[slot] = l at *
  have hrz : (⟨l.toArray⟩ : ByteArray).size = l.length := rfl
  clear HLN hil
  generalize decUOk l = ok at *
  generalize decB l = dd at *
  generalize uOf l = uu at *
  obtain ⟨dr, er⟩ := dd
  obtain ⟨d0, d1, d2, d3, d4, d5, d6, d7, d8, d9, d10, d11⟩ := dr
  unfold udV at CD
  simp only at CD
  go_wp2_with fail
  refine (CD.out _).mono ?_
  rintro e w2 ⟨rfl, hb⟩
  clear CD p0 p1 p2 p3 p4 p5 p6 c0
  have B2 := Lib.hid (below_then B1.out hb)
  have P2 := Lib.hid (P1.out.below hb)
  have U2 := Lib.hid (U1.out.below hb)
  have T2 := Lib.hid (T1.out.below hb)
  clear hb B1 P1 U1 T1
  go_upto_region 6 with fail
  have hb := Lib.hid (alloc_below w2 (.cells #[.int .u8 d0, .int .u64 d1, .int .u32 d2, .int .u16 d3, .string d4, .string d5, .bool d6, .int .u64 d7, .int .u32 d8, .int .u16 d9, .string d10, .int .i64 d11] 34))
  have D3 := Lib.hid (UdBox.new w2 ⟨d0, d1, d2, d3, d4, d5, d6, d7, d8, d9, d10, d11⟩)
  simp only at D3
  generalize w2.alloc (.cells #[.int .u8 d0, .int .u64 d1, .int .u32 d2, .int .u16 d3, .string d4, .string d5, .bool d6, .int .u64 d7, .int .u32 d8, .int .u16 d9, .string d10, .int .i64 d11] 34) = w3 at *
  have hb := hb.out
  have B3 := Lib.hid (below_then B2.out hb)
  have P3 := Lib.hid (P2.out.below hb)
  have U3 := Lib.hid (U2.out.below hb)
  have T3 := Lib.hid (T2.out.below hb)
  clear hb B2 P2 U2 T2
  cases ok with
  | false =>
    have h7 := hno.out rfl
    injection h7 with h8 h9
    subst h9
    clear h8 hyes hno
    replace HD := Lib.hid (show res = (Ud.zero, 60) from HD.out)
    go_wp2_with (refine wpList_store_ud rfl (.tmp 4) (.tmp 35) rfl U3.out Ud.zero (by rfl) (by rfl) ?_; intro wS hO hK; have OS := Lib.hid hO; have KS := Lib.hid hK; clear hO hK)
    refine bodyPost_ret (results_ud (p := 4) (u := 5) (d := Ud.zero) (by kernel_rfl) _ _ rfl OS.out) rfl ?_
    exact ⟨by rw [HD.out]; rfl, OthersKept.below B3.out KS.out (fun k hk e => by omega)⟩
  | true =>
    have h7 := hyes.out rfl
    injection h7 with h8 h9
    subst h9
    replace HD := Lib.hid (show res = (⟨d0, d1, d2, d3, d4, d5, d6, d7, d8, d9, d10, d11⟩, 0) by rw [HD.out, h8]; rfl)
    clear h8 hyes hno
    obtain ⟨q0, q1, q2, q3, q4, q5, q6, q7, q8, q9, q10, q11, q12⟩ := D3.out.cells
    simp only at q1 q2 q3 q4 q5 q6 q7 q8 q9 q10 q11 q12
    go_wp2_with (refine wpList_store_ud rfl (.tmp 4) (.tmp 36) rfl U3.out ⟨d0, d1, d2, d3, d4, d5, d6, d7, d8, d9, d10, d11⟩ (by rfl) (by rfl) ?_; intro wS hO hK; have OS := Lib.hid hO; have KS := Lib.hid hK; clear hO hK)
    refine bodyPost_ret (results_ud (p := 4) (u := 5) (d := ⟨d0, d1, d2, d3, d4, d5, d6, d7, d8, d9, d10, d11⟩) (by kernel_rfl) _ _ rfl OS.out) rfl ?_
    exact ⟨by rw [HD.out]; rfl, OthersKept.below B3.out KS.out (fun k hk e => by omega)⟩
end Go.Proofs.YtienlhnbmobinaaGreat
end
