/- Kept of our texts for this claim: SegHist SegCommit SegWork SegNum SegWorks SegLast -/
import Derived.Test.YtienlhnbmobinaaRows
import Derived.Test.YtienlhnbmobinaaStayKAf
import Derived.Test.YtienlhnbmobinaaStayKAn
import Derived.Test.YtienlhnbmobinaaStayKAo
import Derived.Test.YtienlhnbmobinaaStayKAc
import Derived.Test.YtienlhnbmobinaaStayKAd
import Derived.Test.YtienlhnbmobinaaStayKAa
import Derived.Deep.LoopGhost
import Derived.Deep.CutBlock
import Derived.WalkKit
import Derived.WalkLawsBesides
import Derived.WalkSpells
import Derived.LoopTactic
import Derived.WalkMore
import Derived.LoopN
import Derived.Laws.BitsAllLaws
import Derived.Laws.IdiomStrings
import Derived.BigQuiet
import Derived.Deep.QuietTactic
import Derived.Deep.DeepCutAuto
import Derived.Deep.RegionHeld3
import Derived.Deep.DrawnRows
import Derived.Lib.Hide
import Derived.Outline
import Derived.Deep.DeepMust
import Derived.Handy
import Derived.Test.YtienlhnbmobinaaStayKAj
import Derived.Test.YtienlhnbmobinaaStayKAb
import Derived.Test.YtienlhnbmobinaaStayKAi
import Derived.Test.YtienlhnbmobinaaStayKAe
import Derived.Test.YtienlhnbmobinaaStayKAm
import Derived.Test.YtienlhnbmobinaaStayKAk
import Derived.Test.YtienlhnbmobinaaStayKAg
import Derived.Deep.OwnRows
section
/- chapter 22: History, Active -/
namespace Go.Proofs.Ytienlhnbmobinaa
open Go.RowKit
set_option linter.unusedVariables false
set_option linter.unusedSimpArgs false
theorem OwnSegs.parts {w : World} {base : Nat} {v : Value} {L : List Sg} (h : OwnSegs w base v L) : (v = .slice none 0 0 ∧ L = []) ∨ ∃ g cp, v = .slice (some ⟨g, 0, none⟩) L.length cp ∧ base ≤ g ∧ RowS w g L.length cp L.toArray := by
  obtain ⟨hl, h1⟩ := h
  rcases h1 with ⟨rfl, h0'⟩ | ⟨g, cap, cur, rfl, hg, hb, hn, hc, hz, ht⟩
  · exact .inl ⟨rfl, List.eq_nil_of_length_eq_zero h0'⟩
  · refine .inr ⟨g, cap, rfl, hg, by simp, ⟨hn, hc⟩, cur, hb, fun j hj i v hv => ?_⟩
    rw [getElem!_pos _ j (by simpa using hj)] at hv
    have h3 := flat_getS L j i v hj (by simpa using hv)
    rw [← ht, List.getElem?_take] at h3
    split at h3
    · simpa using h3
    · cases h3
set_option maxHeartbeats 4000000 in
set_option maxRecDepth 100000 in
theorem segHistory_any (ps : List (Pg × Value)) (v : Value) (w : World) (hv : PgsIn w v ps) (hwf : ∀ e ∈ ps, e.1.wf ∧ weightB e.1.rows ≤ 1000000) (hn : ps.length ≤ 100) (h20 : (allB 2 (ps.map Prod.fst)).length < 20) :
    Calls Try.prog 78 #[v] w fun e w' => ∃ u H, e = .returned u ∧ SegsAt w' u H ∧ H.Perm (allB 2 (ps.map Prod.fst)) ∧ H.Pairwise (fun a b => cmpHL b a = false) ∧ Below w.heap.size w w' := by
  have CA := Lib.hid fun W h => segAll_any ps 2 v W h hwf hn
  have HV := Lib.hid hv
  clear hv hwf hn
  generalize allB 2 (ps.map Prod.fst) = L at *
  go_enter Try.func78, Try.ntmps78
  go_wp2_with fail
  refine (CA.out _ HV.out).mono ?_
  rintro e w1 ⟨u, rfl, hO, hb⟩
  have B1 := Lib.hid hb
  clear hb CA HV
  rcases hO.parts with ⟨rfl, rfl⟩ | ⟨g, cp, rfl, hg, hR⟩
  · have C := Lib.hid fun W => sortnilH_any W
    go_wp2_with fail
    refine (C.out _).mono ?_
    rintro e w2 ⟨rfl, rfl⟩
    go_wp2_with fail
    go_ret
    exact ⟨_, [], rfl, ⟨none, 0, rfl, Nat.le_refl _, Nat.zero_le _, fun h => absurd h (Nat.lt_irrefl 0)⟩, List.Perm.refl _, List.Pairwise.nil, B1.out⟩
  · have hs := sorted_list cmpH_swo L.toArray
    have hsz : L.toArray.size = L.length := by simp
    rw [hsz] at hs
    obtain ⟨n, hn⟩ : ∃ z, z = L.length := ⟨_, rfl⟩
    rw [← hn] at hR hs h20 ⊢
    have C := Lib.hid fun W (h : RowS W g n cp L.toArray) => sortH_any g n cp L.toArray W h20 h
    have HS := Lib.hid hs
    have R1 := Lib.hid hR
    clear hs hsz hR hn hO
    go_wp2_with fail
    refine (C.out _ R1.out).mono ?_
    rintro e w2 ⟨rfl, hR2, hK⟩
    have R2 := Lib.hid hR2
    have B2 := Lib.hid (OthersKept.below B1.out hK (fun k hk e => by omega))
    clear hR2 hK C R1
    go_wp2_with fail
    go_ret
    exact ⟨_, _, rfl, R2.out.at_, by simpa using HS.out.1, HS.out.2, B2.out⟩
set_option maxHeartbeats 4000000 in
set_option maxRecDepth 100000 in
theorem segActive_any (ps : List (Pg × Value)) (v : Value) (w : World) (hv : PgsIn w v ps) (hwf : ∀ e ∈ ps, e.1.wf ∧ weightB e.1.rows ≤ 1000000) (hn : ps.length ≤ 100) (h20 : (allB 1 (ps.map Prod.fst)).length < 20) :
    Calls Try.prog 80 #[v] w fun e w' => ∃ u H, e = .returned u ∧ SegsAt w' u H ∧ H.Perm (allB 1 (ps.map Prod.fst)) ∧ H.Pairwise (fun a b => cmpAL b a = false) ∧ Below w.heap.size w w' := by
  have CA := Lib.hid fun W h => segAll_any ps 1 v W h hwf hn
  have HV := Lib.hid hv
  clear hv hwf hn
  generalize allB 1 (ps.map Prod.fst) = L at *
  go_enter Try.func80, Try.ntmps80
  go_wp2_with fail
  refine (CA.out _ HV.out).mono ?_
  rintro e w1 ⟨u, rfl, hO, hb⟩
  have B1 := Lib.hid hb
  clear hb CA HV
  rcases hO.parts with ⟨rfl, rfl⟩ | ⟨g, cp, rfl, hg, hR⟩
  · have C := Lib.hid fun W => sortnilA_any W
    go_wp2_with fail
    refine (C.out _).mono ?_
    rintro e w2 ⟨rfl, rfl⟩
    go_wp2_with fail
    go_ret
    exact ⟨_, [], rfl, ⟨none, 0, rfl, Nat.le_refl _, Nat.zero_le _, fun h => absurd h (Nat.lt_irrefl 0)⟩, List.Perm.refl _, List.Pairwise.nil, B1.out⟩
  · have hs := sorted_list cmpA_swo L.toArray
    have hsz : L.toArray.size = L.length := by simp
    rw [hsz] at hs
    obtain ⟨n, hn⟩ : ∃ z, z = L.length := ⟨_, rfl⟩
    rw [← hn] at hR hs h20 ⊢
    have C := Lib.hid fun W (h : RowS W g n cp L.toArray) => sortA_any g n cp L.toArray W h20 h
    have HS := Lib.hid hs
    have R1 := Lib.hid hR
    clear hs hsz hR hn hO
    go_wp2_with fail
    refine (C.out _ R1.out).mono ?_
    rintro e w2 ⟨rfl, hR2, hK⟩
    have R2 := Lib.hid hR2
    have B2 := Lib.hid (OthersKept.below B1.out hK (fun k hk e => by omega))
    clear hR2 hK C R1
    go_wp2_with fail
    go_ret
    exact ⟨_, _, rfl, R2.out.at_, by simpa using HS.out.1, HS.out.2, B2.out⟩
end Go.Proofs.Ytienlhnbmobinaa
end

section
/- chapter 22: Commit -/
namespace Go.Proofs.Ytienlhnbmobinaa
open Go.RowKit
set_option linter.unusedVariables false
set_option linter.unusedSimpArgs false
theorem OAt.kept22 {w w' : World} {q : Nat → Prop} {g : Nat} {o : Od} {sv : Value} (h : OAt w g o sv) (hk : OthersKept w w' q) (hq : ¬ q g) : OAt w' g o sv := by
  unfold OAt at *
  exact hk.heap h hq
/-- Texts that came in stand where they stood, whatever was written in newer blocks. -/
theorem TextsAt.old {w w1 w2 : World} {sv : Value} {ts : List (List UInt8)} {q : Nat → Prop} (h : TextsAt w sv ts) (hb : Below w.heap.size w w1) (hk : OthersKept w1 w2 q) (hq : ∀ k, k < w.heap.size → ¬ q k) : TextsAt w2 sv ts :=
  h.below (OthersKept.below hb hk (fun k hk e => hq k hk e))
theorem seg_wf_of {p : Pg} {L : List Sg} (h : segsB p = some L) : ∀ s ∈ L, s.may = true ∧ s.wf := by
  unfold segsB at h
  split at h
  · exact fun s hs => ⟨((segGo_all h).2.1 s hs).1, ((segGo_all h).2.1 s hs).2.1⟩
  · cases h
theorem seg_done_wf {s : Sg} {n : Nat} (h : s.wf) (hn : n < 256 ^ 8) : (s.done n).wf := by
  obtain ⟨a, b, c, d, e, f, g⟩ := h
  exact ⟨a, (show 2 < 256 by decide), hn, d, e, f, g⟩
/-- What putting a row that is there gives. -/
theorem sPutB_set {p : Pg} {L : List Sg} (h : segsB p = some L) {s : Sg} (hm : s.may = true) (hi : segIs L s.tx = true) : sPutB p s = (⟨3, p.id, (segAt L s.tx : Nat), 0, s.enc, [], 0, 0, 0⟩, 0) := by
  unfold sPutB sPutO
  rw [h]
  simp only
  rw [if_pos hm, hi, if_pos rfl]
set_option maxHeartbeats 4000000 in
set_option maxRecDepth 100000 in
theorem segCommit_any (p : Pg) (sv : Value) (tx m : Nat) (w : World) (hp : p.wf) (ht : TextsAt w sv p.rows) (hb : weightB p.rows ≤ 1000000) (hm8 : m < 256 ^ 8) :
    Calls Try.prog 74 #[pgV p sv, .int .u64 tx, .int .u64 m] w fun e w' => e = .returned (.tuple #[odV (sCommitB p tx m).1 (.slice none 0 0), .int .i64 (sCommitB p tx m).2]) ∧ Below w.heap.size w w' := by
  have CF := Lib.hid fun W (h : TextsAt W sv p.rows) => segfind_any p sv tx W hp h hb
  have CP := Lib.hid fun s W (h : TextsAt W sv p.rows) (hs : s.wf) => segPut_any p sv s W hp h hb hs
  have hdef : sCommitB p tx m = (match segsB p with | none => (Od.zero, 60) | some L => if segIs L tx then (if (L.getD (segAt L tx) Sg.zero).st = 2 then (Od.zero, 8) else if m = 0 then (Od.zero, 2) else (⟨3, p.id, (segAt L tx : Nat), 0, ((L.getD (segAt L tx) Sg.zero).done m).enc, [], 0, 0, 0⟩, 0)) else (Od.zero, 3)) := rfl
  have hset : Hid (∀ L, segsB p = some L → segIs L tx = true → (L.getD (segAt L tx) Sg.zero).wf ∧ (m ≠ 0 → sPutB p ((L.getD (segAt L tx) Sg.zero).done m) = (⟨3, p.id, (segAt L tx : Nat), 0, ((L.getD (segAt L tx) Sg.zero).done m).enc, [], 0, 0, 0⟩, 0))) := fun L hL hi => by
    obtain ⟨s, hs, hst, hg⟩ := seg_is_yes hi
    rw [hg]
    have hmw := seg_wf_of hL _ hs
    refine ⟨hmw.2, fun hm0 => ?_⟩
    have h1 : segIs L (s.done m).tx = true := by
      show segIs L s.tx = true
      rw [hst]; exact hi
    rw [sPutB_set hL (sg_done hmw.1 (by omega)) h1]
    have h2 : segAt L (s.done m).tx = segAt L tx := by
      show segAt L s.tx = _
      rw [hst]
    rw [h2]
  have HT := Lib.hid ht
  have hnb : p.rows.length ≤ 1000000 := by have := weightB_length p.rows; omega
  obtain ⟨n, hn⟩ : ∃ n, n = p.rows.length := ⟨_, rfl⟩
  obtain ⟨A, cp, hsv, _, _, _, _⟩ := ht
  rw [← hn] at hsv
  subst hsv
  generalize hRR : segsB p = R at *
  clear hRR
  have CP2 := Lib.hid fun s W h hs => CP.out s W h hs
  generalize sCommitB p tx m = res at *
  generalize hSP : (fun s => sPutB p s) = SP at *
  have hsp : ∀ s, sPutB p s = SP s := fun s => by rw [← hSP]
  simp only [hsp] at CP2 hset
  clear hp hb hn hnb CP hSP hsp
  unfold pgV at *
  obtain ⟨kind, level, id, lsn, next, rows⟩ := p
  simp only at *
  have HD := Lib.hid hdef
  clear hdef
  have P0 : Hid (PgBox (w.alloc (.cells #[.int .u8 kind, .int .u8 level, .int .u32 id, .int .u64 lsn, .int .u32 next, .slice A n cp] 26)) w.heap.size kind level id lsn next (.slice A n cp)) := PgBox.new w kind level id lsn next (.slice A n cp)
  have B0 := Lib.hid (alloc_below w (.cells #[.int .u8 kind, .int .u8 level, .int .u32 id, .int .u64 lsn, .int .u32 next, .slice A n cp] 26))
  have hz1 : ((w.alloc (.cells #[.int .u8 kind, .int .u8 level, .int .u32 id, .int .u64 lsn, .int .u32 next, .slice A n cp] 26))).heap.size = w.heap.size + 1 := by simp
  have O0 : Hid (OAt ((w.alloc (.cells #[.int .u8 kind, .int .u8 level, .int .u32 id, .int .u64 lsn, .int .u32 next, .slice A n cp] 26)).alloc (.cells #[.int .u8 0, .int .u32 0, .int .i64 0, .int .i64 0, .string ⟨#[]⟩, .slice none 0 0, .int .u8 0, .int .u8 0, .int .u32 0] 28)) (w.heap.size + 1) Od.zero (.slice none 0 0)) := by
    have h := heap_alloc_new (w.alloc (.cells #[.int .u8 kind, .int .u8 level, .int .u32 id, .int .u64 lsn, .int .u32 next, .slice A n cp] 26)) (.cells #[.int .u8 0, .int .u32 0, .int .i64 0, .int .i64 0, .string ⟨#[]⟩, .slice none 0 0, .int .u8 0, .int .u8 0, .int .u32 0] 28)
    rw [hz1] at h
    exact h
  have B0 := Lib.hid (B0.out.alloc B0.out.size (.cells #[.int .u8 0, .int .u32 0, .int .i64 0, .int .i64 0, .string ⟨#[]⟩, .slice none 0 0, .int .u8 0, .int .u8 0, .int .u32 0] 28))
  have P0 := Lib.hid (P0.out.keep (.cells #[.int .u8 0, .int .u32 0, .int .i64 0, .int .i64 0, .string ⟨#[]⟩, .slice none 0 0, .int .u8 0, .int .u8 0, .int .u32 0] 28))
  clear hz1
  go_enter Try.func74, Try.ntmps74
  go_upto_region 1 with fail
  generalize ((w.alloc (.cells #[.int .u8 kind, .int .u8 level, .int .u32 id, .int .u64 lsn, .int .u32 next, .slice A n cp] 26)).alloc (.cells #[.int .u8 0, .int .u32 0, .int .i64 0, .int .i64 0, .string ⟨#[]⟩, .slice none 0 0, .int .u8 0, .int .u8 0, .int .u32 0] 28)) = w0 at *
  have T0 := Lib.hid (HT.out.below B0.out)
  have HT0 := Lib.hid HT.out
  clear HT
  obtain ⟨p0, p1, p2, p3, p4, p5, p6⟩ := P0.out.cells
  go_wp2_with fail
  refine (CF.out _ T0.out).mono ?_
  rintro e w1 ⟨v, rfl, hO, hb⟩
  have V1 := Lib.hid (OwnSegs.mono hO B0.out.size)
  clear hO CF
  clear p0 p1 p2 p3 p4 p5 p6
  have B1 := Lib.hid (below_then B0.out hb)
  have P1 := Lib.hid (P0.out.below hb)
  have O1 := Lib.hid (O0.out.under hb)
  have T1 := Lib.hid (T0.out.below hb)
  clear hb B0 P0 O0 T0
  cases R with
  | none =>
    simp only [Option.isSome_none] at *
    (try simp only [Bool.false_eq_true, if_false] at *)
    go_wp2_with (refine wpList_store_op rfl (.tmp 6) (.tmp 24) rfl O1.out Od.zero none 0 0 (by rfl) (by rfl) ?_; intro wS hO hK; have OS := Lib.hid hO; have KS := Lib.hid hK; clear hO hK)
    refine bodyPost_ret (results_op2 (p := 6) (u := 7) (o := Od.zero) (sv := .slice none 0 0) (by kernel_rfl) _ _ rfl OS.out) rfl ?_
    exact ⟨by rw [HD.out]; rfl, OthersKept.below B1.out KS.out (fun k hk e => by omega)⟩
  | some L =>
    simp only [Option.isSome_some, Option.getD_some, if_true] at *
    obtain ⟨ia, hia⟩ : ∃ z : Nat, z = segAt L tx := ⟨_, rfl⟩
    obtain ⟨ib, hib⟩ : ∃ z : Bool, z = segIs L tx := ⟨_, rfl⟩
    have hil : Hid (ib = true → ia < L.length) := fun h => by rw [hia]; exact segIs_lt (by rw [← hib]; exact h)
    have hset2 := Lib.hid (hset.out L rfl)
    rw [← hia, ← hib] at HD ⊢
    rw [← hia, ← hib] at hset2
    clear hia hib hset
    cases ib with
    | false =>
      go_wp2_with (refine wpList_store_op rfl (.tmp 6) (.tmp 29) rfl O1.out Od.zero none 0 0 (by rfl) (by rfl) ?_; intro wS hO hK; have OS := Lib.hid hO; have KS := Lib.hid hK; clear hO hK)
      refine bodyPost_ret (results_op2 (p := 6) (u := 7) (o := Od.zero) (sv := .slice none 0 0) (by kernel_rfl) _ _ rfl OS.out) rfl ?_
      exact ⟨by rw [HD.out]; rfl, OthersKept.below B1.out KS.out (fun k hk e => by omega)⟩
    | true =>
      have hlt := hil.out rfl
      obtain ⟨A2, cp2, rfl, _, _, h52⟩ := V1.out.at_
      obtain ⟨b0, o0, rfl, hb0, hcell⟩ := h52 (by omega)
      obtain ⟨hwf, hput⟩ := hset2.out rfl
      have k0 := hcell ia hlt 0 _ rfl
      have k1 := hcell ia hlt 1 _ rfl
      have k2 := hcell ia hlt 2 _ rfl
      have k3 := hcell ia hlt 3 _ rfl
      have k4 := hcell ia hlt 4 _ rfl
      have k5 := hcell ia hlt 5 _ rfl
      have k6 := hcell ia hlt 6 _ rfl
      have hg : L.getD ia Sg.zero = L[ia] := by rw [List.getD_eq_getElem?_getD, List.getElem?_eq_getElem hlt]; rfl
      rw [hg] at HD hwf hput
      have hli : (ia : Int) < (L.length : Int) := by omega
      have hl0 : (0 : Int) ≤ (ia : Int) := by omega
      obtain ⟨ln, hln⟩ : ∃ z, z = L.length := ⟨_, rfl⟩
      rw [← hln] at hli ⊢
      have hdw := seg_done_wf hwf hm8
      have HPUT := Lib.hid hput
      clear hcell h52 hg V1 hil hln hset2 hput hwf
      generalize L[ia] = y at *
      obtain ⟨y0, y1, y2, y3, y4, y5, y6⟩ := y
      simp only [Nat.add_zero] at k0 k1 k2 k3 k4 k5 k6
      by_cases h2 : y1 = 2
      · have h2i : ((y1 : Int) == 2) = true := by simp [h2]
        have HD2 : Hid (res = (Od.zero, 8)) := by show _ = _; rw [HD.out, if_pos rfl, if_pos h2]
        clear h2
        go_wp2_with (refine wpList_store_op rfl (.tmp 6) (.tmp 37) rfl O1.out Od.zero none 0 0 (by rfl) (by rfl) ?_; intro wS hO hK; have OS := Lib.hid hO; have KS := Lib.hid hK; clear hO hK)
        refine bodyPost_ret (results_op2 (p := 6) (u := 7) (o := Od.zero) (sv := .slice none 0 0) (by kernel_rfl) _ _ rfl OS.out) rfl ?_
        exact ⟨by rw [HD2.out]; rfl, OthersKept.below B1.out KS.out (fun k hk e => by omega)⟩
      · have h2i : ((y1 : Int) == 2) = false := by simp; omega
        by_cases hm0 : m = 0
        · have HD2 : Hid (res = (Od.zero, 2)) := by show _ = _; rw [HD.out, if_pos rfl, if_neg h2, if_pos hm0]
          subst hm0
          go_wp2_with (refine wpList_store_op rfl (.tmp 6) (.tmp 41) rfl O1.out Od.zero none 0 0 (by rfl) (by rfl) ?_; intro wS hO hK; have OS := Lib.hid hO; have KS := Lib.hid hK; clear hO hK)
          refine bodyPost_ret (results_op2 (p := 6) (u := 7) (o := Od.zero) (sv := .slice none 0 0) (by kernel_rfl) _ _ rfl OS.out) rfl ?_
          exact ⟨by rw [HD2.out]; rfl, OthersKept.below B1.out KS.out (fun k hk e => by omega)⟩
        · have hm0i : ((m : Int) == 0) = false := by simp; omega
          have hp2 := HPUT.out hm0
          have HD2 := Lib.hid (HD.out.trans ((if_pos rfl).trans ((if_neg h2).trans (if_neg hm0))))
          have CQ := Lib.hid fun W h => CP2.out (Sg.done ⟨y0, y1, y2, y3, y4, y5, y6⟩ m) W h hdw
          rw [hp2] at CQ
          unfold Sg.done at CQ HD2
          unfold sgV odV at CQ
          simp only at CQ HD2
          generalize Sg.enc ⟨y0, 2, m, y3, y4, y5, y6⟩ = en at *
          clear hp2 HPUT HD CP2 hdw h2
          have hb := alloc_below w1 (.cells #[.int .u64 y0, .int .u8 y1, .int .u64 y2, .int .u32 y3, .int .u32 y4, .int .u32 y5, .int .u16 y6] 83)
          have S2 : Hid (SgBox (w1.alloc (.cells #[.int .u64 y0, .int .u8 y1, .int .u64 y2, .int .u32 y3, .int .u32 y4, .int .u32 y5, .int .u16 y6] 83)) w1.heap.size ⟨y0, y1, y2, y3, y4, y5, y6⟩) := heap_alloc_new w1 _
          have hlo := O1.out.lt
          have hlp := P1.out.lt
          go_upto_region 11 with fail
          generalize w1.alloc (.cells #[.int .u64 y0, .int .u8 y1, .int .u64 y2, .int .u32 y3, .int .u32 y4, .int .u32 y5, .int .u16 y6] 83) = w2 at *
          obtain ⟨X, hX⟩ : ∃ X, X = w1.heap.size := ⟨_, rfl⟩
          have hw1 := B1.out.size
          rw [← hX] at S2 hlo hlp hw1 ⊢
          clear k0 k1 k2 k3 k4 k5 k6
          have B2 := Lib.hid (below_then B1.out hb)
          have P2 := Lib.hid (P1.out.below hb)
          have O2 := Lib.hid (O1.out.under hb)
          have T2 := Lib.hid (T1.out.below hb)
          clear hb B1 P1 O1 T1
          clear hX
          obtain ⟨sl, s0, s1, s2, s3, s4, s5, s6⟩ := S2.out.cells
          obtain ⟨f0, f1, f2, f3, f4, f5, f6⟩ := S2.out.fr
          simp only at s0 s1 s2 s3 s4 s5 s6
          have S3 : Hid (SgBox ((w2.setCell ⟨X, 1, none⟩ (.int .u8 2)).setCell ⟨X, 2, none⟩ (.int .u64 m)) X ⟨y0, 2, m, y3, y4, y5, y6⟩) := by
            have h := blk_set (blk_set S2.out 1 (.int .u8 2)) 2 (.int .u64 m)
            exact h
          have hK := (one_kept w2 X 1 (.int .u8 2)).trans (one_kept _ X 2 (.int .u64 m)) (fun _ _ h => h)
          have P3 := Lib.hid (P2.out.kept hK (by omega))
          have O3 := Lib.hid (OAt.kept22 O2.out hK (by omega))
          have T3 := Lib.hid (TextsAt.old HT0.out B2.out hK (fun k hk e => by omega))
          have B3 := Lib.hid (OthersKept.below B2.out hK (fun k hk e => by omega))
          go_upto_region 12 with fail
          generalize (w2.setCell ⟨X, 1, none⟩ (.int .u8 2)).setCell ⟨X, 2, none⟩ (.int .u64 m) = w3 at *
          clear hK P2 O2 T2 B2 S2 sl s0 s1 s2 s3 s4 s5 s6 f0 f1 f2 f3 f4 f5 f6
          obtain ⟨p0, p1, p2, p3, p4, p5, p6⟩ := P3.out.cells
          obtain ⟨sl, s0, s1, s2, s3, s4, s5, s6⟩ := S3.out.cells
          simp only at s0 s1 s2 s3 s4 s5 s6
          go_wp2_with fail
          refine (CQ.out _ T3.out).mono ?_
          rintro e w4 ⟨rfl, hb⟩
          clear CQ
          clear p0 p1 p2 p3 p4 p5 p6
          clear sl s0 s1 s2 s3 s4 s5 s6
          have B4 := Lib.hid (below_then B3.out hb)
          have P4 := Lib.hid (P3.out.below hb)
          have O4 := Lib.hid (O3.out.under hb)
          clear hb B3 P3 O3
          go_wp2_with (refine wpList_store_op rfl (.tmp 6) (.tmp 52) rfl O4.out ⟨3, id, (ia : Nat), 0, en, [], 0, 0, 0⟩ none 0 0 (by rfl) (by rfl) ?_; intro wS hO hK; have OS := Lib.hid hO; have KS := Lib.hid hK; clear hO hK)
          refine bodyPost_ret (results_op2 (p := 6) (u := 7) (o := ⟨3, id, (ia : Nat), 0, en, [], 0, 0, 0⟩) (sv := .slice none 0 0) (by kernel_rfl) _ _ rfl OS.out) rfl ?_
          exact ⟨by rw [HD2.out]; rfl, OthersKept.below B4.out KS.out (fun k hk e => by omega)⟩
end Go.Proofs.Ytienlhnbmobinaa
end

section
/- chapter 22: Head, copied, SameOp of an op and itself; what works shows -/
namespace Go.Proofs.Ytienlhnbmobinaa
open Go.RowKit
set_option linter.unusedVariables false
set_option linter.unusedSimpArgs false
theorem PgBox.zero (w : World) : PgBox (w.alloc (.cells #[.int .u8 0, .int .u8 0, .int .u32 0, .int .u64 0, .int .u32 0, .slice none 0 0] 26)) w.heap.size 0 0 0 0 0 (.slice none 0 0) := PgBox.new w 0 0 0 0 0 (.slice none 0 0)
theorem TextsAt.off_pg {w w' : World} {g kind level id lsn next : Nat} {sv v : Value} {ts : List (List UInt8)} (h : TextsAt w v ts) (hp : PgBox w g kind level id lsn next sv) (hs : ∀ s, sv ≠ .string s) (hk : OthersKept w w' (fun k => k = g)) : TextsAt w' v ts := by
  obtain ⟨A, cp, h1, h2, h3, h4, h5⟩ := h
  refine ⟨A, cp, h1, h2, h3, h4, fun h0 => ?_⟩
  obtain ⟨b, o, h6, h7, h8⟩ := h5 h0
  have hne : b ≠ g := by
    intro e
    subst e
    have h9 := h8 0 h0
    rw [blk_cell hp] at h9
    have h10 : o + 0 < 6 := by
      have := (Array.getElem?_eq_some_iff.1 h9).1
      simpa using this
    obtain rfl | rfl | rfl | rfl | rfl | rfl : o = 0 ∨ o = 1 ∨ o = 2 ∨ o = 3 ∨ o = 4 ∨ o = 5 := by omega
    all_goals first
      | (simp at h9; done)
      | (simp at h9; exact hs _ h9)
  exact ⟨b, o, h6, Nat.lt_of_lt_of_le h7 hk.size, fun j hj => hk.cell (h8 j hj) hne⟩
theorem results_pg1 {fn : Func} {p : Tmp} (h : fn.results = #[.cell p 26]) (tmps : Array Value) (w : World) {g kind level id lsn next : Nat} {sv : Value} (hp : tmps.getD p undef = .pointer (some ⟨g, 0, none⟩)) (hb : PgBox w g kind level id lsn next sv) :
    (results fn tmps).run Try.prog w = .ok (.agg #[.int .u8 kind, .int .u8 level, .int .u32 id, .int .u64 lsn, .int .u32 next, sv]) w := by
  unfold PgBox at hb
  have hp2 : tmps[p]?.getD undef = .pointer (some ⟨g, 0, none⟩) := by simpa using hp
  simp [results, h, hp2, asAddr, run_loadVar_row w g 26 26 _ (0, 0) _ hb Try.underlying26 rfl (by kernel_rfl), Result.andThen]
theorem eqSegSelf (s : Sg) (w : World) : (binOp .eql 83 (.agg #[.int .u64 s.tx, .int .u8 s.st, .int .u64 s.num, .int .u32 s.fp, .int .u32 s.lp, .int .u32 s.hp, .int .u16 s.hs]) (.agg #[.int .u64 s.tx, .int .u8 s.st, .int .u64 s.num, .int .u32 s.fp, .int .u32 s.lp, .int .u32 s.hp, .int .u16 s.hs])).run Try.prog w = .ok (.bool true) w := by
  simp [go_sem]
theorem head22_any (id : Nat) (w : World) : Calls Try.prog 77 #[.int .u32 id] w fun e w' => e = .returned (pgV ⟨5, 0, id, 0, 0, []⟩ (.slice none 0 0)) ∧ Below w.heap.size w w' := by
  have P0 := Lib.hid (PgBox.new w 0 0 0 0 0 (.slice none 0 0))
  have B0 := Lib.hid (alloc_below w (.cells #[.int .u8 (0 : Nat), .int .u8 (0 : Nat), .int .u32 (0 : Nat), .int .u64 (0 : Nat), .int .u32 (0 : Nat), .slice none 0 0] 26))
  go_enter Try.func77, Try.ntmps77
  go_upto_region 1 with fail
  have hw0 : ∃ w0, w0 = w.alloc (.cells #[.int .u8 0, .int .u8 0, .int .u32 0, .int .u64 0, .int .u32 0, .slice none 0 0] 26) := ⟨_, rfl⟩
  obtain ⟨w0, hw0⟩ := hw0
  have P1 : Hid (PgBox w0 w.heap.size 0 0 0 0 0 (.slice none 0 0)) := by rw [hw0]; exact P0.out
  have B1 : Hid (Below w.heap.size w w0) := by rw [hw0]; exact B0.out
  rw [← hw0]
  clear hw0 P0 B0
  go_wp2_with (refine wpList_store_pg rfl (.tmp 2) (.tmp 4) rfl P1.out 5 0 id 0 0 none 0 0 (by rfl) (by rfl) ?_; intro wS hP hK; have PF := Lib.hid hP; have KF := Lib.hid hK; clear hP hK)
  have hres := results_pg1 (fn := Try.f77) (p := 2) (by kernel_rfl)
  refine bodyPost_ret (hres _ _ rfl PF.out) rfl ⟨rfl, OthersKept.below B1.out KF.out (fun k hk e => by omega)⟩
def wS : Sg := ⟨7, 1, 0, 9, 9, 9, 0⟩
def wP0 : Pg := ⟨5, 0, 3, 0, 0, []⟩
theorem SegP.fits {p : Pg} {L : List Sg} (h : SegP p L) : p.wf ∧ weightB p.rows ≤ 1000 ∧ p.rows.length ≤ 13 := by
  refine ⟨h.1, ?_, ?_⟩
  · rw [h.2.2.2.1, weight_enc]
    have := h.2.2.2.2.2.2
    omega
  · rw [h.2.2.2.1, List.length_map]
    exact h.2.2.2.2.2.2
theorem works_law : ∃ o q c r, sPutB wP0 wS = (o, 0) ∧ (o.wf ∧ o.small ∧ o.rows = []) ∧ applyB wP0 o 1 = (q, 0) ∧ (q.wf ∧ weightB q.rows ≤ 1000 ∧ q.rows.length ≤ 13) ∧ sFindB q 7 = (wS, true) ∧ sCommitB q 7 4 = (c, 0) ∧ (c.wf ∧ c.small ∧ c.rows = []) ∧ applyB q c 2 = (r, 0) ∧ (r.wf ∧ weightB r.rows ≤ 1000 ∧ r.rows.length ≤ 13) ∧ allB 2 [r, wP0] = [wS.done 4] ∧ allB 1 [q] = [wS] ∧ sDropB wP0 7 = (Od.zero, 3) := by
  have h0 : SegP wP0 [] := head_seg 3 (by decide) (by decide)
  have hm : wS.may = true := by decide
  have hw : wS.wf := by unfold wS Sg.wf; decide
  have hmd : (wS.done 4).may = true := by decide
  have hwd : (wS.done 4).wf := by unfold wS Sg.done Sg.wf; decide
  obtain ⟨e1, e2⟩ := apply_put (s := wS) (lsn := 1) h0 (by decide) hm hw rfl (by decide)
  have hL1 : segWith [] wS = [wS] := rfl
  rw [hL1] at e1 e2
  obtain ⟨e3, e4⟩ := apply_set (s := wS.done 4) (lsn := 2) e2 (by decide) hmd hwd rfl
  have hL2 : segWith [wS] (wS.done 4) = [wS.done 4] := rfl
  rw [hL2] at e3 e4
  refine ⟨_, _, _, _, ?_, ⟨?_, ?_, ?_⟩, e1, e2.fits, ?_, ?_, ⟨?_, ?_, ?_⟩, e3, e4.fits, ?_, ?_, ?_⟩
  · unfold sPutB sPutO
    rw [h0.to]
    simp only
    rw [if_pos hm]
    rfl
  · exact od_wf (by decide) (by decide) (by decide)
  · exact od_small (by rw [sg_len]; decide)
  · rfl
  · unfold sFindB
    rw [e2.to]
    rfl
  · unfold sCommitB
    rw [e2.to]
    rfl
  · exact od_wf (by decide) (by decide) (by decide)
  · exact od_small (by rw [sg_len]; decide)
  · rfl
  · unfold allB
    simp only [List.flatMap_cons, List.flatMap_nil]
    rw [e4.to, h0.to]
    rfl
  · unfold allB
    simp only [List.flatMap_cons, List.flatMap_nil]
    rw [e2.to]
    rfl
  · unfold sDropB
    rw [h0.to]
    rfl
theorem of22_any (tx : Nat) (w : World) (h : tx < 256 ^ 8) : Calls Try.prog 76 #[.int .u64 tx] w fun e w' => e = .returned (.int .i64 ((tx % 4 : Nat) : Int)) ∧ w = w' := by
  have hx : (tx : Int) % 4 = ((tx % 4 : Nat) : Int) := by omega
  have h4 := Nat.mod_lt tx (show 4 > 0 by omega)
  obtain ⟨r, hr⟩ : ∃ r, r = tx % 4 := ⟨_, rfl⟩
  rw [← hr] at hx h4 ⊢
  clear hr
  go_enter Try.func76, Try.ntmps76
  go_wp2_with fail
  go_ret
  exact ⟨by first | rfl | (rw [← hx]; rfl) | (simp [hx]), rfl⟩
end Go.Proofs.Ytienlhnbmobinaa
end

section
/- rows of 64-bit numbers; blocks that lie apart -/
namespace Go.Proofs.Ytienlhnbmobinaa
open Go.RowKit
set_option linter.unusedVariables false
set_option linter.unusedSimpArgs false
def n64 (ts : List Nat) : List Value := ts.map fun (t : Nat) => .int .u64 (t : Int)
theorem n64_append (a b : List Nat) : n64 (a ++ b) = n64 a ++ n64 b := by simp [n64]
theorem Try.infoU64 : (Try.prog.info? 23).map (fun i => (i.zero, i.size, i.bytes)) = some (some (.int .u64 0), 1, 8) := by kernel_rfl
/-- A slice of numbers that can be read. -/
def N64At (w : World) (sv : Value) (xs : List Nat) : Prop :=
  ∃ A cp, sv = .slice A xs.length cp ∧ xs.length ≤ cp ∧ cp ≤ maxLen ∧ (A = none → xs = [] ∧ cp = 0) ∧ (0 < xs.length → ∃ b o, A = some ⟨b, o, none⟩ ∧ b < w.heap.size ∧ ∀ j (h : j < xs.length), w.cell? ⟨b, o + j, none⟩ = some (.int .u64 (xs[j] : Nat)))
theorem N64At.below {w w' : World} {sv : Value} {xs : List Nat} (h : N64At w sv xs) (hb : Below w.heap.size w w') : N64At w' sv xs := by
  obtain ⟨A, cp, h1, h2, h3, h4, h5⟩ := h
  refine ⟨A, cp, h1, h2, h3, h4, fun h0 => ?_⟩
  obtain ⟨b, o, h6, h7, h8⟩ := h5 h0
  exact ⟨b, o, h6, Nat.lt_of_lt_of_le h7 hb.size, fun j hj => keep_cell hb (h8 j hj)⟩
theorem n64_get (xs : List Nat) (j : Nat) (h : j < xs.length) : (n64 xs)[j]? = some (.int .u64 (xs[j] : Nat)) := by
  unfold n64
  rw [List.getElem?_map, List.getElem?_eq_getElem h]
  rfl
theorem n64_own {w : World} {base n : Nat} {v : Value} {xs : List Nat} (h : w.ownsRow base 23 1 v n (n64 xs)) : N64At w v xs ∧ xs.length = n := by
  have hl : xs.length = n := by have := h.1; simpa [n64] using this
  refine ⟨?_, hl⟩
  subst hl
  rcases h.2 with ⟨rfl, h0⟩ | ⟨g, cap, cur, rfl, hb, hg, h1, h2, _⟩
  · exact ⟨none, 0, by rw [h0], by omega, Nat.zero_le _, fun _ => ⟨List.eq_nil_of_length_eq_zero h0, rfl⟩, fun h => by omega⟩
  · refine ⟨_, cap, rfl, h1, h2, fun h => by (cases h), fun _ => ⟨g, 0, rfl, blk_lt hg, fun j hj => ?_⟩⟩
    rw [Nat.zero_add]
    exact own_cell h j _ (n64_get xs j hj)
theorem N64At.reads {w : World} {sv : Value} {xs : List Nat} (h : N64At w sv xs) : Reads w sv xs.length 1 (n64 xs) := by
  obtain ⟨A, cp, rfl, h2, h3, h4, h5⟩ := h
  rcases Nat.eq_zero_or_pos xs.length with h0 | h0
  · obtain rfl := List.eq_nil_of_length_eq_zero h0
    cases A with
    | none => obtain ⟨_, rfl⟩ := h4 rfl; exact .inl ⟨rfl, rfl, rfl⟩
    | some a => exact .inr ⟨a, cp, rfl, rfl, fun j u hu => by simp [n64] at hu⟩
  · obtain ⟨b, o, rfl, _, hc⟩ := h5 h0
    refine .inr ⟨_, cp, rfl, by simp [n64], fun j u hu => ?_⟩
    have hj : j < xs.length := by
      have := (List.getElem?_eq_some_iff.1 hu).1
      simpa [n64] using this
    rw [n64_get xs j hj] at hu
    injection hu with hu
    rw [← hu, Addr.add_lit]
    exact hc j hj
/-- A slice that is not empty lies in another block than a row. -/
def Far (u v : Value) (n : Nat) : Prop := 0 < n → ∀ k, u.ownBlock = some k → v.ownBlock ≠ some k
theorem TextsAt.grown {w w' : World} {sv : Value} {ts : List (List UInt8)} {x : Option Nat} (h : TextsAt w sv ts) (hg : w.grownBy w' x) (hf : 0 < ts.length → ∀ k, sv.ownBlock = some k → x ≠ some k) : TextsAt w' sv ts := by
  obtain ⟨A, cp, h1, h2, h3, h4, h5⟩ := h
  refine ⟨A, cp, h1, h2, h3, h4, fun h0 => ?_⟩
  obtain ⟨b, o, e1, e2, e3⟩ := h5 h0
  exact ⟨b, o, e1, Nat.lt_of_lt_of_le e2 hg.size, fun j hj => hg.cell (e3 j hj) fun e => hf h0 b (by rw [h1, e1]; rfl) e.symm⟩
theorem TextsAt.block_lt {w : World} {sv : Value} {ts : List (List UInt8)} (h : TextsAt w sv ts) (h0 : 0 < ts.length) : ∀ k, sv.ownBlock = some k → k < w.heap.size := by
  obtain ⟨A, cp, h1, h2, h3, h4, h5⟩ := h
  obtain ⟨b, o, e1, e2, e3⟩ := h5 h0
  intro k hk
  rw [h1, e1] at hk
  injection hk with hk
  rw [← hk]
  exact e2
end Go.Proofs.Ytienlhnbmobinaa
end

section
/- chapter 22: works -/
namespace Go.Proofs.Ytienlhnbmobinaa
open Go.RowKit
set_option linter.unusedVariables false
set_option linter.unusedSimpArgs false
theorem PgsIn.one (w : World) (p : Pg) (sp : Value) (hp : TextsAt w sp p.rows) : PgsIn (w.alloc (.cells #[.int .u8 p.kind, .int .u8 p.level, .int .u32 p.id, .int .u64 p.lsn, .int .u32 p.next, sp] 26)) (.slice (some ⟨w.heap.size, 0, none⟩) 1 1) [(p, sp)] := by
  have hb := heap_alloc_new w (.cells #[.int .u8 p.kind, .int .u8 p.level, .int .u32 p.id, .int .u64 p.lsn, .int .u32 p.next, sp] 26)
  refine ⟨_, rfl, by simp, fun j hj => ?_⟩
  have hj0 : j = 0 := by simp at hj; omega
  subst hj0
  exact ⟨hp.below (alloc_below _ _), by rw [blk_cell hb]; rfl, by rw [blk_cell hb]; rfl, by rw [blk_cell hb]; rfl, by rw [blk_cell hb]; rfl, by rw [blk_cell hb]; rfl, by rw [blk_cell hb]; rfl⟩
theorem PgsIn.two (w : World) (p q : Pg) (sp sq : Value) (hp : TextsAt w sp p.rows) (hq : TextsAt w sq q.rows) : PgsIn (w.alloc (.cells #[.int .u8 p.kind, .int .u8 p.level, .int .u32 p.id, .int .u64 p.lsn, .int .u32 p.next, sp, .int .u8 q.kind, .int .u8 q.level, .int .u32 q.id, .int .u64 q.lsn, .int .u32 q.next, sq] 26)) (.slice (some ⟨w.heap.size, 0, none⟩) 2 2) [(p, sp), (q, sq)] := by
  have hb := heap_alloc_new w (.cells #[.int .u8 p.kind, .int .u8 p.level, .int .u32 p.id, .int .u64 p.lsn, .int .u32 p.next, sp, .int .u8 q.kind, .int .u8 q.level, .int .u32 q.id, .int .u64 q.lsn, .int .u32 q.next, sq] 26)
  refine ⟨_, rfl, by simp, fun j hj => ?_⟩
  match j, hj with
  | 0, _ => exact ⟨hp.below (alloc_below _ _), by rw [blk_cell hb]; rfl, by rw [blk_cell hb]; rfl, by rw [blk_cell hb]; rfl, by rw [blk_cell hb]; rfl, by rw [blk_cell hb]; rfl, by rw [blk_cell hb]; rfl⟩
  | 1, _ => exact ⟨hq.below (alloc_below _ _), by rw [blk_cell hb]; rfl, by rw [blk_cell hb]; rfl, by rw [blk_cell hb]; rfl, by rw [blk_cell hb]; rfl, by rw [blk_cell hb]; rfl, by rw [blk_cell hb]; rfl⟩
  | n + 2, h => exact absurd h (by simp)
set_option maxHeartbeats 8000000 in
set_option maxRecDepth 100000 in
theorem works22_any (w : World) : Calls Try.prog 56 #[] w fun e w' => e = .returned (.bool true) ∧ Below w.heap.size w w' := by
  obtain ⟨o, q, c, r, hput, ⟨ho1, ho2, ho3⟩, hap, ⟨hq1, hq2, hq3⟩, hfind, hcom, ⟨hc1, hc2, hc3⟩, hap2, ⟨hr1, hr2, hr3⟩, hall2, hall1, hdrop⟩ := works_law
  have hw0 : wP0.wf := (head_seg 3 (by decide) (by decide)).1
  have CH : ∀ W, Calls Try.prog 77 #[.int .u32 3] W fun e w' => ∃ sv, e = .returned (pgV wP0 sv) ∧ TextsAt w' sv wP0.rows ∧ Below W.heap.size W w' := fun W => (head22_any 3 W).mono fun e w' ⟨h1, h2⟩ => ⟨.slice none 0 0, h1, TextsAt.nil _, h2⟩
  have CP : ∀ sv W, TextsAt W sv wP0.rows → Calls Try.prog 70 #[pgV wP0 sv, .agg #[.int .u64 7, .int .u8 1, .int .u64 0, .int .u32 9, .int .u32 9, .int .u32 9, .int .u16 0]] W fun e w' => e = .returned (.tuple #[odV o (.slice none 0 0), .int .i64 0]) ∧ Below W.heap.size W w' := fun sv W h => by
    have := segPut_any wP0 sv wS W hw0 h (by decide) (by unfold wS Sg.wf; decide)
    rw [hput] at this
    exact this
  have CA := fun sv W (h : TextsAt W sv wP0.rows) => opApply_any wP0 o sv (.slice none 0 0) 1 W h (by rw [ho3]; exact TextsAt.nil W) hw0 ho1 ho2 (by decide) (by decide) (by decide)
  rw [hap] at CA
  have CF : ∀ sv W, TextsAt W sv q.rows → Calls Try.prog 67 #[pgV q sv, .int .u64 7] W fun e w' => e = .returned (.tuple #[.agg #[.int .u64 7, .int .u8 1, .int .u64 0, .int .u32 9, .int .u32 9, .int .u32 9, .int .u16 0], .bool true]) ∧ Below W.heap.size W w' := fun sv W h => by
    have := segFind_any q sv 7 W hq1 h (by omega)
    rw [hfind] at this
    exact this
  have CC : ∀ sv W, TextsAt W sv q.rows → Calls Try.prog 74 #[pgV q sv, .int .u64 7, .int .u64 4] W fun e w' => e = .returned (.tuple #[odV c (.slice none 0 0), .int .i64 0]) ∧ Below W.heap.size W w' := fun sv W h => by
    have := segCommit_any q sv 7 4 W hq1 h (by omega) (by decide)
    rw [hcom] at this
    exact this
  have CB := fun sv W (h : TextsAt W sv q.rows) => opApply_any q c sv (.slice none 0 0) 2 W h (by rw [hc3]; exact TextsAt.nil W) hq1 hc1 hc2 (by decide) (by omega) (by omega)
  rw [hap2] at CB
  have CI : ∀ v s1 s2 W, PgsIn W v [(r, s1), (wP0, s2)] → Calls Try.prog 78 #[v] W fun e w' => ∃ u, e = .returned u ∧ SegsAt w' u [wS.done 4] ∧ Below W.heap.size W w' := fun v s1 s2 W h => by
    refine (segHistory_any [(r, s1), (wP0, s2)] v W h (fun e he => ?_) (by simp) (by simp only [List.map_cons, List.map_nil]; rw [hall2]; decide)).mono fun e w' ⟨u, H, e1, e2, e3, _, e4⟩ => ⟨u, e1, ?_, e4⟩
    · rcases List.mem_cons.1 he with rfl | he
      · exact ⟨hr1, by show weightB r.rows ≤ _; omega⟩
      · rw [List.mem_singleton.1 he]; exact ⟨hw0, (show weightB wP0.rows ≤ 1000000 by decide)⟩
    · simp only [List.map_cons, List.map_nil] at e3
      rw [hall2] at e3
      rw [List.perm_singleton.1 e3] at e2
      exact e2
  have CJ : ∀ v s1 W, PgsIn W v [(q, s1)] → Calls Try.prog 80 #[v] W fun e w' => ∃ u, e = .returned u ∧ SegsAt w' u [wS] ∧ Below W.heap.size W w' := fun v s1 W h => by
    refine (segActive_any [(q, s1)] v W h (fun e he => ?_) (by simp) (by simp only [List.map_cons, List.map_nil]; rw [hall1]; decide)).mono fun e w' ⟨u, H, e1, e2, e3, _, e4⟩ => ⟨u, e1, ?_, e4⟩
    · rw [List.mem_singleton.1 he]; exact ⟨hq1, by show weightB q.rows ≤ _; omega⟩
    · simp only [List.map_cons, List.map_nil] at e3
      rw [hall1] at e3
      rw [List.perm_singleton.1 e3] at e2
      exact e2
  have CD : ∀ sv W, TextsAt W sv wP0.rows → Calls Try.prog 72 #[pgV wP0 sv, .int .u64 7] W fun e w' => e = .returned (.tuple #[odV Od.zero (.slice none 0 0), .int .i64 3]) ∧ Below W.heap.size W w' := fun sv W h => by
    have := segDrop_any wP0 sv 7 W hw0 h (by decide)
    rw [hdrop] at this
    exact this
  have CO : ∀ W, Calls Try.prog 76 #[.int .u64 7] W fun e w' => e = .returned (.int .i64 3) ∧ W = w' := fun W => of22_any 7 W (by decide)
  obtain ⟨⟨pa, pb, pc, pd, pe, rowsP⟩, hP⟩ : ∃ P, P = wP0 := ⟨_, rfl⟩
  rw [← hP] at CH CP CA CI CD
  have CH := Lib.hid CH
  have CP := Lib.hid CP
  have CA := Lib.hid CA
  have CF := Lib.hid CF
  have CC := Lib.hid CC
  have CB := Lib.hid CB
  have CI := Lib.hid CI
  have CJ := Lib.hid CJ
  have CD := Lib.hid CD
  have CO := Lib.hid CO
  clear hP hput ho1 ho2 ho3 hap hq1 hq2 hq3 hfind hcom hc1 hc2 hc3 hap2 hr1 hr2 hr3 hall2 hall1 hdrop hw0
  obtain ⟨o0, o1, o2, o3, o4, o5, o6, o7, o8⟩ := o
  obtain ⟨c0, c1, c2, c3, c4, c5, c6, c7, c8⟩ := c
  obtain ⟨qa, qb, qc, qd, qe, rowsQ⟩ := q
  obtain ⟨ra, rb, rc, rd, re, rowsR⟩ := r
  unfold pgV at CH CP CA CF CC CB CD
  unfold odV at CP CA CC CB CD
  unfold Od.zero at CD
  simp only at CH CP CA CF CC CB CD
  have B0 := Lib.hid (Below.refl w.heap.size w)
  go_enter Try.func56, Try.ntmps56
  obtain ⟨w0, hw0⟩ : ∃ v, v = w := ⟨_, rfl⟩
  rw [← hw0]
  have B0 : Hid (Below w.heap.size w w0) := by rw [hw0]; exact Lib.hid (Below.refl _ _)
  have HW0 := Lib.hid hw0
  clear hw0
  go_wp2_with fail
  refine (CH.out _).mono ?_
  rintro e w1 ⟨sv1, rfl, G, hb⟩
  (try simp only at G)
  obtain ⟨np, hnp⟩ : ∃ z, z = rowsP.length := ⟨_, rfl⟩
  have Hnp := Lib.hid hnp
  clear hnp
  have T1 := Lib.hid G
  obtain ⟨A1, cp1, hv1, _, _, _, _⟩ := G
  rw [← Hnp.out] at hv1
  subst hv1
  have B1 := Lib.hid (below_then B0.out hb)
  clear hb B0 
  (try unfold pgV)
  (try simp only)
  go_upto_region 2 with fail
  have BN := Lib.hid (alloc_below w1 (.cells #[.int .u8 pa, .int .u8 pb, .int .u32 pc, .int .u64 pd, .int .u32 pe, .slice A1 np cp1] 26))
  have P2 := Lib.hid (PgBox.new w1 pa pb pc pd pe (.slice A1 np cp1))
  generalize w1.alloc (.cells #[.int .u8 pa, .int .u8 pb, .int .u32 pc, .int .u64 pd, .int .u32 pe, .slice A1 np cp1] 26) = w2 at *
  have hb := BN.out
  clear BN
  have B2 := Lib.hid (below_then B1.out hb)
  have T2 := Lib.hid (T1.out.below hb)
  clear hb B1 T1
  go_upto_region 3 with fail
  have BN := Lib.hid (alloc_below w2 (.cells #[.int .u64 7, .int .u8 1, .int .u64 0, .int .u32 9, .int .u32 9, .int .u32 9, .int .u16 0] 83))
  have G3 : Hid (SgBox (w2.alloc (.cells #[.int .u64 7, .int .u8 1, .int .u64 0, .int .u32 9, .int .u32 9, .int .u32 9, .int .u16 0] 83)) w2.heap.size ⟨7, 1, 0, 9, 9, 9, 0⟩) := heap_alloc_new w2 _
  generalize w2.alloc (.cells #[.int .u64 7, .int .u8 1, .int .u64 0, .int .u32 9, .int .u32 9, .int .u32 9, .int .u16 0] 83) = w3 at *
  have hb := BN.out
  clear BN
  have B3 := Lib.hid (below_then B2.out hb)
  have T3 := Lib.hid (T2.out.below hb)
  have P3 := Lib.hid (P2.out.below hb)
  clear hb B2 T2 P2
  obtain ⟨x0, x1, x2, x3, x4, x5, x6⟩ := P3.out.cells
  obtain ⟨s0, s1, s2, s3, s4, s5, s6, s7⟩ := G3.out.cells
  simp only at s1 s2 s3 s4 s5 s6 s7
  go_wp2_with fail
  clear x0 x1 x2 x3 x4 x5 x6 s0 s1 s2 s3 s4 s5 s6 s7
  refine (CP.out _ _ T3.out).mono ?_
  rintro e w4 ⟨rfl, hb⟩
  have B4 := Lib.hid (below_then B3.out hb)
  have T4 := Lib.hid (T3.out.below hb)
  have P4 := Lib.hid (P3.out.below hb)
  have G4 := Lib.hid (G3.out.below hb)
  clear hb B3 T3 P3 G3
  obtain ⟨x0, x1, x2, x3, x4, x5, x6⟩ := P4.out.cells
  obtain ⟨s0, s1, s2, s3, s4, s5, s6, s7⟩ := G4.out.cells
  simp only at s1 s2 s3 s4 s5 s6 s7
  (try unfold odV)
  (try simp only)
  go_upto_region 4 with fail
  clear x0 x1 x2 x3 x4 x5 x6 s0 s1 s2 s3 s4 s5 s6 s7
  have BN := Lib.hid (alloc_below w4 (.cells #[.int .u8 o0, .int .u32 o1, .int .i64 o2, .int .i64 o3, .string ⟨o4.toArray⟩, .slice none 0 0, .int .u8 o6, .int .u8 o7, .int .u32 o8] 28))
  have O5 := Lib.hid (OAt.new w4 ⟨o0, o1, o2, o3, o4, o5, o6, o7, o8⟩ (.slice none 0 0))
  generalize w4.alloc (.cells #[.int .u8 o0, .int .u32 o1, .int .i64 o2, .int .i64 o3, .string ⟨o4.toArray⟩, .slice none 0 0, .int .u8 o6, .int .u8 o7, .int .u32 o8] 28) = w5 at *
  have hb := BN.out
  clear BN
  have B5 := Lib.hid (below_then B4.out hb)
  have T5 := Lib.hid (T4.out.below hb)
  have P5 := Lib.hid (P4.out.below hb)
  have G5 := Lib.hid (G4.out.below hb)
  clear hb B4 T4 P4 G4
  obtain ⟨x0, x1, x2, x3, x4, x5, x6⟩ := P5.out.cells
  obtain ⟨s0, s1, s2, s3, s4, s5, s6, s7⟩ := G5.out.cells
  simp only at s1 s2 s3 s4 s5 s6 s7
  obtain ⟨y0, y1, y2, y3, y4, y5, y6, y7, y8⟩ := O5.out.cells
  simp only at y0 y1 y2 y3 y4 y5 y6 y7 y8
  have y9 := blk_lt O5.out
  go_wp2_with fail
  clear x0 x1 x2 x3 x4 x5 x6 s0 s1 s2 s3 s4 s5 s6 s7 y0 y1 y2 y3 y4 y5 y6 y7 y8 y9
  refine (CA.out _ _ T5.out).mono ?_
  rintro e w6 ⟨sv6, rfl, G, hb⟩
  (try simp only at G)
  obtain ⟨nq, hnq⟩ : ∃ z, z = rowsQ.length := ⟨_, rfl⟩
  have Hnq := Lib.hid hnq
  clear hnq
  have U6 := Lib.hid G
  obtain ⟨A6, cp6, hv6, _, _, _, _⟩ := G
  rw [← Hnq.out] at hv6
  subst hv6
  have B6 := Lib.hid (below_then B5.out hb)
  have T6 := Lib.hid (T5.out.below hb)
  have P6 := Lib.hid (P5.out.below hb)
  have G6 := Lib.hid (G5.out.below hb)
  have O6 := Lib.hid (O5.out.below hb)
  clear hb B5 T5 P5 G5 O5
  obtain ⟨x0, x1, x2, x3, x4, x5, x6⟩ := P6.out.cells
  obtain ⟨s0, s1, s2, s3, s4, s5, s6, s7⟩ := G6.out.cells
  simp only at s1 s2 s3 s4 s5 s6 s7
  obtain ⟨y0, y1, y2, y3, y4, y5, y6, y7, y8⟩ := O6.out.cells
  simp only at y0 y1 y2 y3 y4 y5 y6 y7 y8
  have y9 := blk_lt O6.out
  (try unfold pgV)
  (try simp only)
  go_upto_region 5 with fail
  clear x0 x1 x2 x3 x4 x5 x6 s0 s1 s2 s3 s4 s5 s6 s7 y0 y1 y2 y3 y4 y5 y6 y7 y8 y9
  have BN := Lib.hid (alloc_below w6 (.cells #[.int .u8 qa, .int .u8 qb, .int .u32 qc, .int .u64 qd, .int .u32 qe, .slice A6 nq cp6] 26))
  have Q7 := Lib.hid (PgBox.new w6 qa qb qc qd qe (.slice A6 nq cp6))
  generalize w6.alloc (.cells #[.int .u8 qa, .int .u8 qb, .int .u32 qc, .int .u64 qd, .int .u32 qe, .slice A6 nq cp6] 26) = w7 at *
  have hb := BN.out
  clear BN
  have B7 := Lib.hid (below_then B6.out hb)
  have T7 := Lib.hid (T6.out.below hb)
  have P7 := Lib.hid (P6.out.below hb)
  have G7 := Lib.hid (G6.out.below hb)
  have O7 := Lib.hid (O6.out.below hb)
  have U7 := Lib.hid (U6.out.below hb)
  clear hb B6 T6 P6 G6 O6 U6
  obtain ⟨x0, x1, x2, x3, x4, x5, x6⟩ := P7.out.cells
  obtain ⟨s0, s1, s2, s3, s4, s5, s6, s7⟩ := G7.out.cells
  simp only at s1 s2 s3 s4 s5 s6 s7
  obtain ⟨y0, y1, y2, y3, y4, y5, y6, y7, y8⟩ := O7.out.cells
  simp only at y0 y1 y2 y3 y4 y5 y6 y7 y8
  have y9 := blk_lt O7.out
  obtain ⟨z0, z1, z2, z3, z4, z5, z6⟩ := Q7.out.cells
  go_wp2_with fail
  clear x0 x1 x2 x3 x4 x5 x6 s0 s1 s2 s3 s4 s5 s6 s7 y0 y1 y2 y3 y4 y5 y6 y7 y8 y9 z0 z1 z2 z3 z4 z5 z6
  refine (CF.out _ _ U7.out).mono ?_
  rintro e w8 ⟨rfl, hb⟩
  have B8 := Lib.hid (below_then B7.out hb)
  have T8 := Lib.hid (T7.out.below hb)
  have P8 := Lib.hid (P7.out.below hb)
  have G8 := Lib.hid (G7.out.below hb)
  have O8 := Lib.hid (O7.out.below hb)
  have U8 := Lib.hid (U7.out.below hb)
  have Q8 := Lib.hid (Q7.out.below hb)
  clear hb B7 T7 P7 G7 O7 U7 Q7
  obtain ⟨x0, x1, x2, x3, x4, x5, x6⟩ := P8.out.cells
  obtain ⟨s0, s1, s2, s3, s4, s5, s6, s7⟩ := G8.out.cells
  simp only at s1 s2 s3 s4 s5 s6 s7
  obtain ⟨y0, y1, y2, y3, y4, y5, y6, y7, y8⟩ := O8.out.cells
  simp only at y0 y1 y2 y3 y4 y5 y6 y7 y8
  have y9 := blk_lt O8.out
  obtain ⟨z0, z1, z2, z3, z4, z5, z6⟩ := Q8.out.cells
  go_upto_region 6 with fail
  clear x0 x1 x2 x3 x4 x5 x6 s0 s1 s2 s3 s4 s5 s6 s7 y0 y1 y2 y3 y4 y5 y6 y7 y8 y9 z0 z1 z2 z3 z4 z5 z6
  have BN := Lib.hid (alloc_below w8 (.cells #[.int .u64 7, .int .u8 1, .int .u64 0, .int .u32 9, .int .u32 9, .int .u32 9, .int .u16 0] 83))
  have GX9 : Hid (SgBox (w8.alloc (.cells #[.int .u64 7, .int .u8 1, .int .u64 0, .int .u32 9, .int .u32 9, .int .u32 9, .int .u16 0] 83)) w8.heap.size ⟨7, 1, 0, 9, 9, 9, 0⟩) := heap_alloc_new w8 _
  generalize w8.alloc (.cells #[.int .u64 7, .int .u8 1, .int .u64 0, .int .u32 9, .int .u32 9, .int .u32 9, .int .u16 0] 83) = w9 at *
  have hb := BN.out
  clear BN
  have B9 := Lib.hid (below_then B8.out hb)
  have T9 := Lib.hid (T8.out.below hb)
  have P9 := Lib.hid (P8.out.below hb)
  have G9 := Lib.hid (G8.out.below hb)
  have O9 := Lib.hid (O8.out.below hb)
  have U9 := Lib.hid (U8.out.below hb)
  have Q9 := Lib.hid (Q8.out.below hb)
  clear hb B8 T8 P8 G8 O8 U8 Q8
  clear O9
  obtain ⟨x0, x1, x2, x3, x4, x5, x6⟩ := P9.out.cells
  obtain ⟨s0, s1, s2, s3, s4, s5, s6, s7⟩ := G9.out.cells
  simp only at s1 s2 s3 s4 s5 s6 s7
  obtain ⟨z0, z1, z2, z3, z4, z5, z6⟩ := Q9.out.cells
  obtain ⟨f0, f1, f2, f3, f4, f5, f6, f7⟩ := GX9.out.cells
  simp only at f1 f2 f3 f4 f5 f6 f7
  go_wp2_with fail
  clear x0 x1 x2 x3 x4 x5 x6 s0 s1 s2 s3 s4 s5 s6 s7 z0 z1 z2 z3 z4 z5 z6 f0 f1 f2 f3 f4 f5 f6 f7
  refine (CC.out _ _ U9.out).mono ?_
  rintro e w10 ⟨rfl, hb⟩
  have B10 := Lib.hid (below_then B9.out hb)
  have T10 := Lib.hid (T9.out.below hb)
  have P10 := Lib.hid (P9.out.below hb)
  have G10 := Lib.hid (G9.out.below hb)
  have U10 := Lib.hid (U9.out.below hb)
  have Q10 := Lib.hid (Q9.out.below hb)
  have GX10 := Lib.hid (GX9.out.below hb)
  clear hb B9 T9 P9 G9 U9 Q9 GX9
  obtain ⟨x0, x1, x2, x3, x4, x5, x6⟩ := P10.out.cells
  obtain ⟨s0, s1, s2, s3, s4, s5, s6, s7⟩ := G10.out.cells
  simp only at s1 s2 s3 s4 s5 s6 s7
  obtain ⟨z0, z1, z2, z3, z4, z5, z6⟩ := Q10.out.cells
  obtain ⟨f0, f1, f2, f3, f4, f5, f6, f7⟩ := GX10.out.cells
  simp only at f1 f2 f3 f4 f5 f6 f7
  (try unfold odV)
  (try simp only)
  go_upto_region 7 with fail
  clear x0 x1 x2 x3 x4 x5 x6 s0 s1 s2 s3 s4 s5 s6 s7 z0 z1 z2 z3 z4 z5 z6 f0 f1 f2 f3 f4 f5 f6 f7
  have BN := Lib.hid (alloc_below w10 (.cells #[.int .u8 c0, .int .u32 c1, .int .i64 c2, .int .i64 c3, .string ⟨c4.toArray⟩, .slice none 0 0, .int .u8 c6, .int .u8 c7, .int .u32 c8] 28))
  have OC11 := Lib.hid (OAt.new w10 ⟨c0, c1, c2, c3, c4, c5, c6, c7, c8⟩ (.slice none 0 0))
  generalize w10.alloc (.cells #[.int .u8 c0, .int .u32 c1, .int .i64 c2, .int .i64 c3, .string ⟨c4.toArray⟩, .slice none 0 0, .int .u8 c6, .int .u8 c7, .int .u32 c8] 28) = w11 at *
  have hb := BN.out
  clear BN
  have B11 := Lib.hid (below_then B10.out hb)
  have T11 := Lib.hid (T10.out.below hb)
  have P11 := Lib.hid (P10.out.below hb)
  have G11 := Lib.hid (G10.out.below hb)
  have U11 := Lib.hid (U10.out.below hb)
  have Q11 := Lib.hid (Q10.out.below hb)
  have GX11 := Lib.hid (GX10.out.below hb)
  clear hb B10 T10 P10 G10 U10 Q10 GX10
  obtain ⟨x0, x1, x2, x3, x4, x5, x6⟩ := P11.out.cells
  obtain ⟨s0, s1, s2, s3, s4, s5, s6, s7⟩ := G11.out.cells
  simp only at s1 s2 s3 s4 s5 s6 s7
  obtain ⟨z0, z1, z2, z3, z4, z5, z6⟩ := Q11.out.cells
  obtain ⟨f0, f1, f2, f3, f4, f5, f6, f7⟩ := GX11.out.cells
  simp only at f1 f2 f3 f4 f5 f6 f7
  obtain ⟨v0, v1, v2, v3, v4, v5, v6, v7, v8⟩ := OC11.out.cells
  simp only at v0 v1 v2 v3 v4 v5 v6 v7 v8
  have v9 := blk_lt OC11.out
  go_wp2_with fail
  clear x0 x1 x2 x3 x4 x5 x6 s0 s1 s2 s3 s4 s5 s6 s7 z0 z1 z2 z3 z4 z5 z6 f0 f1 f2 f3 f4 f5 f6 f7 v0 v1 v2 v3 v4 v5 v6 v7 v8 v9
  refine (CB.out _ _ U11.out).mono ?_
  rintro e w12 ⟨sv12, rfl, G, hb⟩
  (try simp only at G)
  obtain ⟨nr, hnr⟩ : ∃ z, z = rowsR.length := ⟨_, rfl⟩
  have Hnr := Lib.hid hnr
  clear hnr
  have S12 := Lib.hid G
  obtain ⟨A12, cp12, hv12, _, _, _, _⟩ := G
  rw [← Hnr.out] at hv12
  subst hv12
  have B12 := Lib.hid (below_then B11.out hb)
  have T12 := Lib.hid (T11.out.below hb)
  have P12 := Lib.hid (P11.out.below hb)
  have G12 := Lib.hid (G11.out.below hb)
  have U12 := Lib.hid (U11.out.below hb)
  have Q12 := Lib.hid (Q11.out.below hb)
  have GX12 := Lib.hid (GX11.out.below hb)
  have OC12 := Lib.hid (OC11.out.below hb)
  clear hb B11 T11 P11 G11 U11 Q11 GX11 OC11
  obtain ⟨x0, x1, x2, x3, x4, x5, x6⟩ := P12.out.cells
  obtain ⟨s0, s1, s2, s3, s4, s5, s6, s7⟩ := G12.out.cells
  simp only at s1 s2 s3 s4 s5 s6 s7
  obtain ⟨z0, z1, z2, z3, z4, z5, z6⟩ := Q12.out.cells
  obtain ⟨f0, f1, f2, f3, f4, f5, f6, f7⟩ := GX12.out.cells
  simp only at f1 f2 f3 f4 f5 f6 f7
  obtain ⟨v0, v1, v2, v3, v4, v5, v6, v7, v8⟩ := OC12.out.cells
  simp only at v0 v1 v2 v3 v4 v5 v6 v7 v8
  have v9 := blk_lt OC12.out
  (try unfold pgV)
  (try simp only)
  go_upto_region 8 with fail
  clear x0 x1 x2 x3 x4 x5 x6 s0 s1 s2 s3 s4 s5 s6 s7 z0 z1 z2 z3 z4 z5 z6 f0 f1 f2 f3 f4 f5 f6 f7 v0 v1 v2 v3 v4 v5 v6 v7 v8 v9
  have BN := Lib.hid (alloc_below w12 (.cells #[.int .u8 ra, .int .u8 rb, .int .u32 rc, .int .u64 rd, .int .u32 re, .slice A12 nr cp12] 26))
  have R13 := Lib.hid (PgBox.new w12 ra rb rc rd re (.slice A12 nr cp12))
  generalize w12.alloc (.cells #[.int .u8 ra, .int .u8 rb, .int .u32 rc, .int .u64 rd, .int .u32 re, .slice A12 nr cp12] 26) = w13 at *
  have hb := BN.out
  clear BN
  have B13 := Lib.hid (below_then B12.out hb)
  have T13 := Lib.hid (T12.out.below hb)
  have P13 := Lib.hid (P12.out.below hb)
  have G13 := Lib.hid (G12.out.below hb)
  have U13 := Lib.hid (U12.out.below hb)
  have Q13 := Lib.hid (Q12.out.below hb)
  have GX13 := Lib.hid (GX12.out.below hb)
  have OC13 := Lib.hid (OC12.out.below hb)
  have S13 := Lib.hid (S12.out.below hb)
  clear hb B12 T12 P12 G12 U12 Q12 GX12 OC12 S12
  clear OC13
  obtain ⟨x0, x1, x2, x3, x4, x5, x6⟩ := P13.out.cells
  obtain ⟨s0, s1, s2, s3, s4, s5, s6, s7⟩ := G13.out.cells
  simp only at s1 s2 s3 s4 s5 s6 s7
  obtain ⟨z0, z1, z2, z3, z4, z5, z6⟩ := Q13.out.cells
  obtain ⟨f0, f1, f2, f3, f4, f5, f6, f7⟩ := GX13.out.cells
  simp only at f1 f2 f3 f4 f5 f6 f7
  obtain ⟨t0, t1, t2, t3, t4, t5, t6⟩ := R13.out.cells
  have PI := Lib.hid (PgsIn.two w13 ⟨ra, rb, rc, rd, re, rowsR⟩ ⟨pa, pb, pc, pd, pe, rowsP⟩ (.slice A12 nr cp12) (.slice A1 np cp1) S13.out T13.out)
  simp only at PI
  have hb2 := alloc_below w13 (.cells #[.int .u8 ra, .int .u8 rb, .int .u32 rc, .int .u64 rd, .int .u32 re, .slice A12 nr cp12, .int .u8 pa, .int .u8 pb, .int .u32 pc, .int .u64 pd, .int .u32 pe, .slice A1 np cp1] 26)
  go_wp2_with fail
  refine (CI.out _ _ _ _ PI.out).mono ?_
  rintro e w14 ⟨u, rfl, hU, hb1⟩
  have hb := below_then hb2 hb1
  have UU14 := Lib.hid hU
  obtain ⟨UA, ucp, hu, _, _, hu2⟩ := hU
  simp only [List.length_singleton] at hu
  subst hu
  clear hb1 hb2 PI hu2
  clear x0 x1 x2 x3 x4 x5 x6 s0 s1 s2 s3 s4 s5 s6 s7 z0 z1 z2 z3 z4 z5 z6 f0 f1 f2 f3 f4 f5 f6 f7 t0 t1 t2 t3 t4 t5 t6
  have B14 := Lib.hid (below_then B13.out hb)
  have T14 := Lib.hid (T13.out.below hb)
  have P14 := Lib.hid (P13.out.below hb)
  have G14 := Lib.hid (G13.out.below hb)
  have U14 := Lib.hid (U13.out.below hb)
  have Q14 := Lib.hid (Q13.out.below hb)
  have GX14 := Lib.hid (GX13.out.below hb)
  have S14 := Lib.hid (S13.out.below hb)
  have R14 := Lib.hid (R13.out.below hb)
  clear hb B13 T13 P13 G13 U13 Q13 GX13 S13 R13
  obtain ⟨x0, x1, x2, x3, x4, x5, x6⟩ := P14.out.cells
  obtain ⟨s0, s1, s2, s3, s4, s5, s6, s7⟩ := G14.out.cells
  simp only at s1 s2 s3 s4 s5 s6 s7
  obtain ⟨z0, z1, z2, z3, z4, z5, z6⟩ := Q14.out.cells
  obtain ⟨f0, f1, f2, f3, f4, f5, f6, f7⟩ := GX14.out.cells
  simp only at f1 f2 f3 f4 f5 f6 f7
  obtain ⟨t0, t1, t2, t3, t4, t5, t6⟩ := R14.out.cells
  go_wp2_with fail
  clear x0 x1 x2 x3 x4 x5 x6 s0 s1 s2 s3 s4 s5 s6 s7 z0 z1 z2 z3 z4 z5 z6 f0 f1 f2 f3 f4 f5 f6 f7 t0 t1 t2 t3 t4 t5 t6
  refine (CD.out _ _ T14.out).mono ?_
  rintro e w15 ⟨rfl, hb⟩
  have B15 := Lib.hid (below_then B14.out hb)
  have T15 := Lib.hid (T14.out.below hb)
  have P15 := Lib.hid (P14.out.below hb)
  have G15 := Lib.hid (G14.out.below hb)
  have U15 := Lib.hid (U14.out.below hb)
  have Q15 := Lib.hid (Q14.out.below hb)
  have GX15 := Lib.hid (GX14.out.below hb)
  have S15 := Lib.hid (S14.out.below hb)
  have R15 := Lib.hid (R14.out.below hb)
  have UU15 := Lib.hid (UU14.out.below hb)
  clear hb B14 T14 P14 G14 U14 Q14 GX14 S14 R14 UU14
  go_upto_region 10 with fail
  generalize hwz : w15.alloc _ = wz
  have hb : Below w15.heap.size w15 wz := by rw [← hwz]; exact alloc_below _ _
  clear hwz
  generalize wz = w16 at *
  have B16 := Lib.hid (below_then B15.out hb)
  have T16 := Lib.hid (T15.out.below hb)
  have P16 := Lib.hid (P15.out.below hb)
  have G16 := Lib.hid (G15.out.below hb)
  have U16 := Lib.hid (U15.out.below hb)
  have Q16 := Lib.hid (Q15.out.below hb)
  have GX16 := Lib.hid (GX15.out.below hb)
  have S16 := Lib.hid (S15.out.below hb)
  have R16 := Lib.hid (R15.out.below hb)
  have UU16 := Lib.hid (UU15.out.below hb)
  clear hb B15 T15 P15 G15 U15 Q15 GX15 S15 R15 UU15
  obtain ⟨UA2, ucp2, hv2, _, _, hu2⟩ := UU16.out
  obtain ⟨ub, uo, hA2, hub, hcell⟩ := hu2 (by simp)
  have hUU : UA = some ⟨ub, uo, none⟩ := by injection hv2 with e1; exact e1.trans hA2
  subst hUU
  have u2 : w16.cell? ⟨ub, uo + 2, none⟩ = some (.int .u64 4) := hcell 0 (by simp) 2 _ rfl
  clear hv2 hA2 hu2 hcell
  have EQ : ∀ W, (binOp .eql 83 (.agg #[.int .u64 7, .int .u8 1, .int .u64 0, .int .u32 9, .int .u32 9, .int .u32 9, .int .u16 0]) (.agg #[.int .u64 7, .int .u8 1, .int .u64 0, .int .u32 9, .int .u32 9, .int .u32 9, .int .u16 0])).run Try.prog W = .ok (.bool true) W := fun W => eqSegSelf ⟨7, 1, 0, 9, 9, 9, 0⟩ W
  have PJ := Lib.hid (PgsIn.one w16 ⟨qa, qb, qc, qd, qe, rowsQ⟩ (.slice A6 nq cp6) U16.out)
  simp only at PJ
  have hb2 := alloc_below w16 (.cells #[.int .u8 qa, .int .u8 qb, .int .u32 qc, .int .u64 qd, .int .u32 qe, .slice A6 nq cp6] 26)
  obtain ⟨x0, x1, x2, x3, x4, x5, x6⟩ := P16.out.cells
  obtain ⟨s0, s1, s2, s3, s4, s5, s6, s7⟩ := G16.out.cells
  simp only at s1 s2 s3 s4 s5 s6 s7
  obtain ⟨z0, z1, z2, z3, z4, z5, z6⟩ := Q16.out.cells
  obtain ⟨f0, f1, f2, f3, f4, f5, f6, f7⟩ := GX16.out.cells
  simp only at f1 f2 f3 f4 f5 f6 f7
  obtain ⟨t0, t1, t2, t3, t4, t5, t6⟩ := R16.out.cells
  go_wp2_with fail
  refine (CJ.out _ _ _ PJ.out).mono ?_
  rintro e w17 ⟨u, rfl, hU, hb1⟩
  obtain ⟨VA, vcp, hv, _, _, _⟩ := hU
  simp only [List.length_singleton] at hv
  subst hv
  have BF := Lib.hid (below_then (below_then B16.out hb2) hb1)
  clear hb1 hb2 PJ
  go_wp2_with fail
  refine (CO.out _).mono ?_
  rintro e w18 ⟨rfl, rfl⟩
  go_wp2_with fail
  go_ret
  exact ⟨rfl, by rw [HW0.out]; exact BF.out⟩
end Go.Proofs.Ytienlhnbmobinaa
end

section
/- which commits are the last of their transaction -/
namespace Go.Proofs.Ytienlhnbmobinaa
open Go.RowKit
set_option linter.unusedVariables false
set_option linter.unusedSimpArgs false
theorem histI_split (cs : List Nat) (st : Nat → Nat) (a b : Nat) : ∃ t, histI cs st (a + b) = histI cs st a ++ t := by
  induction b with
  | zero => exact ⟨[], by simp⟩
  | succ b ih =>
    obtain ⟨t, ht⟩ := ih
    exact ⟨t ++ if okC cs st (a + b) then [a + b] else [], by rw [← Nat.add_assoc, histI_next, ht, List.append_assoc]⟩
theorem histI_at {cs : List Nat} {st : Nat → Nat} {j n : Nat} (hj : j < n) (hok : okC cs st j = true) : ∃ h : (histI cs st j).length < (histI cs st n).length, (histI cs st n)[(histI cs st j).length] = j := by
  obtain ⟨t, ht⟩ := histI_split cs st (j + 1) (n - (j + 1))
  rw [show j + 1 + (n - (j + 1)) = n by omega, histI_next, if_pos hok] at ht
  have h1 : (histI cs st j).length < (histI cs st n).length := by rw [ht]; simp
  refine ⟨h1, ?_⟩
  simp [ht]
/-- What stands in the history at a commit that counts. -/
theorem hist_at {H : List Sg} {cs : List Nat} {st : Nat → Nat} {j : Nat} (hH : H.map Sg.tx = (histI cs st cs.length).map (cs.getD · 0)) (hj : j < cs.length) (hok : okC cs st j = true) : ∃ h : (histI cs st j).length < H.length, (H[(histI cs st j).length]).tx = cs[j] := by
  obtain ⟨h1, h2⟩ := histI_at hj hok
  have hl : H.length = (histI cs st cs.length).length := by
    have := congrArg List.length hH
    simpa using this
  refine ⟨by omega, ?_⟩
  have h3 : (H.map Sg.tx)[(histI cs st j).length]? = some (cs[j]) := by
    rw [hH, List.getElem?_map, List.getElem?_eq_getElem h1, h2, Option.map_some, List.getD_eq_getElem?_getD, List.getElem?_eq_getElem hj]
    rfl
  rw [List.getElem?_map, List.getElem?_eq_getElem (by omega : (histI cs st j).length < H.length), Option.map_some] at h3
  injection h3
theorem hist_len {H : List Sg} {cs : List Nat} {st : Nat → Nat} (hH : H.map Sg.tx = (histI cs st cs.length).map (cs.getD · 0)) : (histI cs st cs.length).length = H.length := by
  have := congrArg List.length hH
  simpa using this.symm
theorem histI_step (cs : List Nat) (st : Nat → Nat) (j : Nat) : (histI cs st (j + 1)).length = (histI cs st j).length + if okC cs st j then 1 else 0 := by
  rw [histI_next, List.length_append]
  split <;> rfl
set_option maxHeartbeats 2000000 in
set_option maxRecDepth 100000 in
theorem last_any (cs : List Nat) (v : Value) (i : Nat) (w : World) (h : N64At w v cs) (hi : i < cs.length) (hn : cs.length ≤ 1000000) :
    Calls Try.prog 79 #[v, .int .i64 i] w fun e w' => e = .returned (.bool (lastC cs i)) ∧ Below w.heap.size w w' := by
  obtain ⟨NA, cp, hv, h2, h3, _, h5⟩ := h
  obtain ⟨b, o, hA, hb, hc⟩ := h5 (by omega)
  subst hA
  subst hv
  have HC := Lib.hid hc
  obtain ⟨m, hmx⟩ : ∃ z, z = cs.length := ⟨_, rfl⟩
  have HM := Lib.hid hmx
  rw [← hmx] at hi hn h2 ⊢
  have him : (i : Int) < (m : Int) := by omega
  have hi0 : (0 : Int) ≤ (i : Int) := by omega
  have c2 := hc i (by rw [← hmx]; exact hi)
  have HI : Hid (cs.getD i 0 = cs[i]'(by rw [← hmx]; exact hi)) := by
    show _ = _
    rw [List.getD_eq_getElem?_getD, List.getElem?_eq_getElem]
    rfl
  generalize cs[i]'(by rw [← hmx]; exact hi) = y at *
  obtain ⟨j1, hj1⟩ : ∃ z, z = i + 1 := ⟨_, rfl⟩
  have hji : (i : Int) + 1 = (j1 : Int) := by omega
  have hjm : j1 ≤ m := by omega
  have HJ := Lib.hid hj1
  unfold maxLen at h3
  clear hc h5 hmx hj1
  go_enter Try.func79, Try.ntmps79
  go_wp2_with fail
  go_loopw [5] (fun s5 wr => ∃ k : Nat, s5 = .int .i64 k ∧ j1 ≤ k ∧ k ≤ m ∧ Hid (Below w.heap.size w wr) ∧ Hid (∀ q, q < k → i < q → cs.getD q 0 ≠ cs.getD i 0)) (fun v _ => m - (intOf v).toNat)
  case atStart => exact ⟨j1, rfl, Nat.le_refl _, hjm, Lib.hid (Below.refl _ _), Lib.hid (fun q h1 h2 => by have := HJ.out; omega)⟩
  case round =>
    obtain ⟨k, rfl, hk1, hk2, BB, HQ⟩ := hrel
    by_cases hkm : k < m
    · have hki : (k : Int) < (m : Int) := by omega
      have hk0 : (0 : Int) ≤ (k : Int) := by omega
      have d3 := HC.out k (by rw [← HM.out]; exact hkm)
      have HK : Hid (cs.getD k 0 = cs[k]'(by rw [← HM.out]; exact hkm)) := by
        show _ = _
        rw [List.getD_eq_getElem?_getD, List.getElem?_eq_getElem]
        rfl
      generalize cs[k]'(by rw [← HM.out]; exact hkm) = z at *
      have hbr : b < wr.heap.size := Nat.lt_of_lt_of_le hb BB.out.size
      have z3 := ext_cell ((BB.out.cell (p := ⟨b, o + k, none⟩) hb).trans d3) hbr
      have z2 := ext_cell ((BB.out.cell (p := ⟨b, o + i, none⟩) hb).trans c2) hbr
      obtain ⟨bb, hbb⟩ : ∃ b, ((z : Int) == (y : Int)) = b := ⟨_, rfl⟩
      have HB := Lib.hid hbb
      clear HC c2 d3
      cases bb with
      | true =>
        go_upto_region 4 with fail
        refine wp_region_ext wr.heap.size (by kernel_rfl) (by kernel_rfl) ?_
        repeat (go_big_quiet_step (fail))
        refine wpQuiet_nil ?_
        rintro _ ⟨X, rfl⟩
        have hX := Lib.hid (below_then BB.out X.below)
        clear z3 z2
        go_wp2_with fail
        go_ret
        have hl : lastC cs i = false := decide_eq_false (fun hall => by
          have h9 := HB.out
          simp at h9
          exact hall k (by rw [← HM.out]; exact hkm) (by have := HJ.out; omega) (by rw [HK.out, HI.out]; omega))
        exact ⟨by show _ = Ending.returned (Value.bool (lastC cs i)); rw [hl]; rfl, hX.out⟩
      | false =>
        go_upto_region 4 with fail
        refine wp_region_ext wr.heap.size (by kernel_rfl) (by kernel_rfl) ?_
        repeat (go_big_quiet_step (fail))
        refine wpQuiet_nil ?_
        rintro _ ⟨X, rfl⟩
        have hX := Lib.hid (below_then BB.out X.below)
        clear z3 z2
        go_wp2_with fail
        exact ⟨⟨k + 1, by go_num, by omega, by omega, hX, Lib.hid (fun q h1 h2 => by
          rcases Nat.lt_or_ge q k with h | h
          · exact HQ.out q h h2
          · obtain rfl : q = k := by omega
            rw [HK.out, HI.out]
            have h9 := HB.out
            simp at h9
            omega)⟩, by simp [intOf]; omega⟩
    · have hki : ¬ (k : Int) < (m : Int) := by omega
      have hl : lastC cs i = true := decide_eq_true (fun q h1 h2 => HQ.out q (by have := HM.out; omega) h2)
      have HL := Lib.hid hl
      clear hl HC
      go_wp2_with fail
      go_ret
      exact ⟨by show _ = Ending.returned (Value.bool (lastC cs i)); rw [HL.out]; rfl, BB.out⟩
end Go.Proofs.Ytienlhnbmobinaa
end
