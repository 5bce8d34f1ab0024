/- ref11: Decode -/
import Derived.Test.YtjcfnfpilladfaaRows
import Derived.Test.YtjcfnfpilladfaaOneLaw
import Derived.Test.YtjcfnfpilladfaaRefOne
import Derived.Test.YtjcfnfpilladfaaRefMay11
import Derived.Test.YtjcfnfpilladfaaRefGet
import Derived.Test.YtjcfnfpilladfaaOpDec
import Derived.Test.YtjcfnfpilladfaaOpWrite
import Derived.Test.YtjcfnfpilladfaaOpRead
import Derived.Test.YtjcfnfpilladfaaOpNum
import Derived.Test.YtjcfnfpilladfaaOpPlain
import Derived.Test.YtjcfnfpilladfaaOpPart
import Derived.Test.YtjcfnfpilladfaaOpWord
import Derived.Test.YtjcfnfpilladfaaOpSame
import Derived.Test.YtjcfnfpilladfaaOpLaw
import Derived.Test.YtjcfnfpilladfaaOpIn
import Derived.Test.YtjcfnfpilladfaaOpEnc
import Derived.Test.YtjcfnfpilladfaaHeavy11
import Derived.Test.YtjcfnfpilladfaaTextsMove
import Derived.Test.YtjcfnfpilladfaaTextsP
import Derived.Test.YtjcfnfpilladfaaPlains
import Derived.Test.YtjcfnfpilladfaaBase
import Derived.Test.YtjcfnfpilladfaaWordWalks
import Derived.WalkKit
import Derived.WalkLawsBesides
import Derived.WalkSpells
import Derived.LoopTactic
import Derived.WalkMore
import Derived.LoopN
import Derived.Laws.BitsAllLaws
import Derived.Laws.IdiomStrings
import Derived.BigQuiet
import Derived.Deep.QuietTactic
import Derived.Deep.DeepCutAuto
import Derived.Deep.RegionHeld3
import Derived.Deep.DrawnRows
import Derived.Lib.Hide
import Derived.Outline
import Derived.Deep.DeepMust
import Derived.Handy
namespace Go.Proofs.Ytjcfnfpilladfaa
open Go.RowKit
set_option linter.unusedVariables false
set_option linter.unusedSimpArgs false

theorem own_mono9 {w : World} {base base' size n : Nat} {e : TypeId} {v : Value} {xs : List Value} (h : w.ownsRow base e size v n xs) (hb : base' ≤ base) : w.ownsRow base' e size v n xs := by
  refine ⟨h.1, ?_⟩
  rcases h.2 with h1 | ⟨g, cap, cur, h1, hg, h2⟩
  · exact .inl h1
  · exact .inr ⟨g, cap, cur, h1, by omega, h2⟩
theorem own_ge9 {w : World} {base size n : Nat} {e : TypeId} {v : Value} {xs : List Value} (h : w.ownsRow base e size v n xs) : ∀ j, v.ownBlock = some j → base ≤ j := fun j hj => (h.lt j hj).1
theorem OwnOps.mono {w : World} {base base' : Nat} {v : Value} {L : List Ov} (h : OwnOps w base v L) (hb : base' ≤ base) : OwnOps w base' v L := ⟨own_mono9 h.1 hb, fun e he => own_mono9 (h.2 e he) hb⟩
theorem OwnOps.kept {w w' : World} {base g : Nat} {v : Value} {L : List Ov} (h : OwnOps w base v L) (hk : OthersKept w w' (fun x => x = g)) (hg : g < base) : OwnOps w' base v L :=
  ⟨hk.owns h.1 (fun j hj e => by have := own_ge9 h.1 j hj; omega), fun e he => hk.owns (h.2 e he) (fun j hj e => by have := own_ge9 (h.2 _ he) j hj; omega)⟩
set_option maxHeartbeats 4000000 in
set_option maxRecDepth 100000 in
theorem refDecode11_any (s : List UInt8) (w : World) (hs : s.length ≤ 100000) :
    Calls Try.prog 19 #[.string ⟨s.toArray⟩] w (DecPost w s) := by
  have hsz : (⟨s.toArray⟩ : ByteArray).size = s.length := by simp [ByteArray.size]
  obtain ⟨i0, hif, hz0, hz1, hz2⟩ := info_parts Try.infoOp
  have HI := Lib.hid hif
  have HI0 := Lib.hid hz0
  have HI1 := Lib.hid hz1
  have HI2 := Lib.hid hz2
  clear hif hz0 hz1 hz2
  have G0 : GAt (w.alloc (.cells #[.string ⟨s.toArray⟩, .int .i64 0, .bool false] 114)) w.heap.size ⟨s, 0, false⟩ := heap_alloc_new w _
  have B0 := Lib.hid (alloc_below w (.cells #[.string ⟨s.toArray⟩, .int .i64 0, .bool false] 114))
  obtain ⟨⟨n, c1⟩, q1⟩ : ∃ q, q = Gd.num ⟨s, 0, false⟩ 1 := ⟨_, rfl⟩
  have NU := Lib.hid (getNum_any _ w.heap.size 1 ⟨s, 0, false⟩ G0 hs (Nat.zero_le _) (by omega))
  rw [← q1] at NU
  obtain ⟨hn8, _, _⟩ := num_to q1 (by omega)
  simp only [Nat.reducePow] at hn8
  go_enter Try.func19, Try.ntmps19
  go_wp2_with fail
  generalize w.alloc (.cells #[.string ⟨s.toArray⟩, .int .i64 0, .bool false] 114) = w0 at *
  refine NU.out.mono ?_
  rintro e w1 ⟨rfl, hg, hkp⟩
  have B1 := Lib.hid (OthersKept.below B0.out hkp (fun k hk e => by omega))
  have hgl : w.heap.size < w1.heap.size := blk_lt hg
  clear hkp NU G0 B0
  by_cases h1 : 1 ≤ s.length
  · have hq : (n, c1) = (rdNum s 0 1, (⟨s, 1, false⟩ : Gd)) := by
      rw [q1]
      unfold Gd.num
      rw [if_pos (by simp; omega)]
    simp only [Prod.mk.injEq] at hq
    obtain ⟨hn, rfl⟩ := hq
    clear q1
    obtain ⟨_, k0, k1, k2, kf⟩ := hg.cells
    simp only at k0 k1 k2
    by_cases h2 : n ≤ 32
    · have HD : Hid (decL s = decGo n (s.drop 1)) := by show _ = _; unfold decL; rw [if_pos ⟨h1, by omega⟩, hn]
      have h2i : ¬ (32 : Int) < (n : Int) := by omega
      have HG := Lib.hid hg
      clear hn hg kf
      go_wp2_with fail
      go_loopw [6, 7] (fun s2 s22 wr => ∃ (i a : Nat) (L : List Ov), s22 = .int .i64 i ∧ i ≤ n ∧ a ≤ s.length ∧ Hid (OwnOps wr (w.heap.size + 1) s2 L) ∧ L.length = i ∧ Hid (Below w.heap.size w wr) ∧ Hid (GAt wr w.heap.size ⟨s, a, false⟩) ∧ Hid (decL s = (decGo (n - i) (s.drop a)).map (L.map Ov.o ++ ·))) (fun _ v _ => n - (intOf v).toNat)
      case atStart => exact ⟨0, 1, [], rfl, Nat.zero_le _, h1, Lib.hid (OwnOps.nil _ _), rfl, B1, HG, Lib.hid (by rw [HD.out]; simp)⟩
      case round =>
        obtain ⟨i, a, L, rfl, hi, ha, HO, hLi, HB, HGr, HK⟩ := hrel
        obtain ⟨hgr, k0, k1, k2, kf⟩ := HGr.out.cells
        simp only at k0 k1 k2
        by_cases hc : i < n
        · have hci : (i : Int) < (n : Int) := by omega
          have RD := Lib.hid (getOne_any wr w.heap.size ⟨s, a, false⟩ HGr.out hs (by show a ≤ _; omega))
          have hlaw := Lib.hid (one_read s a ha)
          have hsm := Lib.hid (one_small ⟨s, a, false⟩)
          have HK2 : Hid ((readC (s.drop a)).bad = true → decL s = none) := fun hbad => by
            rw [HK.out, show n - i = (n - i - 1) + 1 by omega, decGo, if_pos hbad]
            rfl
          have HK3 : Hid ((readC (s.drop a)).bad = false → decL s = (decGo (n - (i + 1)) (s.drop (a + (readC (s.drop a)).at_))).map ((L.map Ov.o ++ [(readC (s.drop a)).o]) ++ ·)) := fun hbad => by
            rw [HK.out, show n - i = (n - (i + 1)) + 1 by omega, decGo, if_neg (by rw [hbad]; decide), List.drop_drop, Option.map_map]
            congr 1
            funext x
            simp
          generalize Gd.one ⟨s, a, false⟩ = R at *
          obtain ⟨o, c2⟩ := R
          simp only at hlaw hsm
          have HCC : Hid (c2.bad = false ∧ o.may = true → o = (readC (s.drop a)).o ∧ c2 = ⟨s, a + (readC (s.drop a)).at_, false⟩ ∧ a + (readC (s.drop a)).at_ ≤ s.length ∧ (readC (s.drop a)).bad = false) := by
            intro h
            cases hb : (readC (s.drop a)).bad with
            | true =>
              rcases hlaw.out.1 hb with h3 | h3
              · rw [h.1] at h3; cases h3
              · rw [h.2] at h3; cases h3
            | false =>
              obtain ⟨h3, _, h4, h5⟩ := hlaw.out.2 hb
              exact ⟨h3, h4, h5, rfl⟩
          have HCN : Hid (c2.bad = true ∨ o.may = false → decL s = none) := by
            intro h
            cases hb : (readC (s.drop a)).bad with
            | true => exact HK2.out hb
            | false =>
              obtain ⟨_, h3, h4, _⟩ := hlaw.out.2 hb
              rcases h with h | h
              · rw [h4] at h; cases h
              · rw [h3] at h; cases h
          clear hlaw HK2 HK k0 k1 k2 kf
          go_wp2_with fail
          refine RD.out.mono ?_
          rintro e w2 ⟨sv, rfl, ht, hg, hkp⟩
          simp only at ht hg
          have hhs : wr.heap.size ≤ w2.heap.size := hkp.size
          have B2 := Lib.hid (OthersKept.below HB.out hkp (fun k hk e => by omega))
          have O2 := Lib.hid (HO.out.kept hkp (Nat.lt_succ_self _))
          have HT := Lib.hid (own_mono ht (show w.heap.size + 1 ≤ wr.heap.size from hgr))
          have MM := Lib.hid fun W (hW : Below w2.heap.size w2 W) => refMay11_any o sv W ((texts_own ht).1.below hW) hsm.out
          obtain ⟨b5, c5, rfl, hr1, hr2, _⟩ := own_form ht
          clear ht hkp RD
          obtain ⟨e, he⟩ : ∃ e : Ov, e = ⟨o, b5, c5⟩ := ⟨_, rfl⟩
          (try simp only)
          unfold odV at MM ⊢
          obtain ⟨m5, hm5⟩ : ∃ m, m = o.rows.length := ⟨_, rfl⟩
          rw [← hm5] at HT MM ⊢
          have hE : Hid (#[.int .u8 o.kind, .int .u32 o.page, .int .i64 o.at_, .int .i64 o.off, .string ⟨o.text.toArray⟩, .slice b5 m5 c5, .int .u8 o.pk, .int .u8 o.lv, .int .u32 o.nx] = e.cell.toArray) := by show _ = _; rw [he, hm5]; rfl
          have hEo : Hid (e.o = o ∧ e.sv = .slice b5 m5 c5) := by rw [he, hm5]; exact ⟨rfl, rfl⟩
          have hm5' : Hid (m5 = o.rows.length) := hm5
          clear he hm5
          have A3 := Lib.hid (alloc_below w2 (.cells #[.int .u8 o.kind, .int .u32 o.page, .int .i64 o.at_, .int .i64 o.off, .string ⟨o.text.toArray⟩, .slice b5 m5 c5, .int .u8 o.pk, .int .u8 o.lv, .int .u32 o.nx] 26))
          have B3 := Lib.hid (B2.out.alloc (by have := HB.out.size; omega) (.cells #[.int .u8 o.kind, .int .u32 o.page, .int .i64 o.at_, .int .i64 o.off, .string ⟨o.text.toArray⟩, .slice b5 m5 c5, .int .u8 o.pk, .int .u8 o.lv, .int .u32 o.nx] 26))
          have O3 := Lib.hid (O2.out.below A3.out)
          have HT3 := Lib.hid (own_below HT.out A3.out)
          have G3 := Lib.hid (hg.below A3.out)
          have X3 := Lib.hid (show OAt (w2.alloc (.cells #[.int .u8 o.kind, .int .u32 o.page, .int .i64 o.at_, .int .i64 o.off, .string ⟨o.text.toArray⟩, .slice b5 m5 c5, .int .u8 o.pk, .int .u8 o.lv, .int .u32 o.nx] 26)) w2.heap.size o (.slice b5 m5 c5) from heap_alloc_new _ _)
          have hx3 : w2.heap.size < (w2.alloc (.cells #[.int .u8 o.kind, .int .u32 o.page, .int .i64 o.at_, .int .i64 o.off, .string ⟨o.text.toArray⟩, .slice b5 m5 c5, .int .u8 o.pk, .int .u8 o.lv, .int .u32 o.nx] 26)).heap.size := by simp
          clear O2 HT B2 hg
          go_upto_region 10 with fail
          generalize w2.alloc (.cells #[.int .u8 o.kind, .int .u32 o.page, .int .i64 o.at_, .int .i64 o.off, .string ⟨o.text.toArray⟩, .slice b5 m5 c5, .int .u8 o.pk, .int .u8 o.lv, .int .u32 o.nx] 26) = w3 at *
          obtain ⟨hgr3, k0, k1, k2, kf⟩ := G3.out.cells
          obtain ⟨x0, x1, x2, x3, x4, x5, x6, x7, x8⟩ := X3.out.cells
          cases hbad : c2.bad with
          | true =>
            rw [hbad] at k2
            have HN := Lib.hid (HCN.out (.inl hbad))
            clear HCN HCC hbad
            go_wp2_with fail
            go_ret2
            exact DecPost.no HN.out B3.out
          | false =>
            rw [hbad] at k2
            go_wp2_with fail
            refine (MM.out _ A3.out).mono ?_
            rintro e9 w4 ⟨rfl, hb⟩
            have B4 := Lib.hid (B3.out.trans (hb.mono B3.out.size))
            cases hmay : o.may with
            | false =>
              have HN := Lib.hid (HCN.out (.inr hmay))
              clear HCN HCC hbad hmay hb
              go_wp2_with fail
              go_ret2
              exact DecPost.no HN.out B4.out
            | true =>
              obtain ⟨e1, e2, e3, e4⟩ := HCC.out ⟨hbad, hmay⟩
              have hk3 := HK3.out e4
              rw [← e1] at hk3
              have HK4 := Lib.hid hk3
              obtain ⟨a2, ha2⟩ : ∃ a2, a2 = (readC (s.drop a)).at_ := ⟨_, rfl⟩
              rw [← ha2] at e3 HK4 e2
              have G4 := G3.out.below hb
              rw [e2] at G4
              have HG4 := Lib.hid G4
              have O4 := Lib.hid (O3.out.below hb)
              have HT4 := Lib.hid (own_below HT3.out hb)
              have X4 := X3.out.below hb
              clear ha2 hk3 e1 e2 e4 HK3 HCC HCN hbad hmay hb G4 x0 x1 x2 x3 x4 x5 x6 x7 x8 k0 k1 k2 kf G3 O3 HT3 X3 B3 MM
              obtain ⟨x0, x1, x2, x3, x4, x5, x6, x7, x8⟩ := X4.cells
              have hx4 : w2.heap.size < w4.heap.size := blk_lt X4
              have G5 := Lib.hid (HG4.out.below (alloc_below w4 (.cells #[.int .u8 o.kind, .int .u32 o.page, .int .i64 o.at_, .int .i64 o.off, .string ⟨o.text.toArray⟩, .slice b5 m5 c5, .int .u8 o.pk, .int .u8 o.lv, .int .u32 o.nx] 26)))
              have O5 := Lib.hid (O4.out.below (alloc_below w4 (.cells #[.int .u8 o.kind, .int .u32 o.page, .int .i64 o.at_, .int .i64 o.off, .string ⟨o.text.toArray⟩, .slice b5 m5 c5, .int .u8 o.pk, .int .u8 o.lv, .int .u32 o.nx] 26)))
              have HT5 := Lib.hid (own_below HT4.out (alloc_below w4 (.cells #[.int .u8 o.kind, .int .u32 o.page, .int .i64 o.at_, .int .i64 o.off, .string ⟨o.text.toArray⟩, .slice b5 m5 c5, .int .u8 o.pk, .int .u8 o.lv, .int .u32 o.nx] 26)))
              have B5 := Lib.hid (B4.out.alloc B4.out.size (.cells #[.int .u8 o.kind, .int .u32 o.page, .int .i64 o.at_, .int .i64 o.off, .string ⟨o.text.toArray⟩, .slice b5 m5 c5, .int .u8 o.pk, .int .u8 o.lv, .int .u32 o.nx] 26))
              have RE : Hid (Reads (w4.alloc (.cells #[.int .u8 o.kind, .int .u32 o.page, .int .i64 o.at_, .int .i64 o.off, .string ⟨o.text.toArray⟩, .slice b5 m5 c5, .int .u8 o.pk, .int .u8 o.lv, .int .u32 o.nx] 26)) (.slice (some ⟨w4.heap.size, 0, none⟩) 1 1) 1 9 e.cell) := by
                show Reads _ _ _ _ _
                rw [hE.out]
                exact ov_reads w4 e
              have hs5 : w.heap.size + 1 ≤ (w4.alloc (.cells #[.int .u8 o.kind, .int .u32 o.page, .int .i64 o.at_, .int .i64 o.off, .string ⟨o.text.toArray⟩, .slice b5 m5 c5, .int .u8 o.pk, .int .u8 o.lv, .int .u32 o.nx] 26)).heap.size := by have := blk_lt G5.out; omega
              clear X4 O4 HT4 HG4
              go_wp2_with (at_builtin; refine wpList_append_any _ rfl _ _ 22 rfl (w.heap.size + 1) 26 i0 (.agg #[.int .u8 0, .int .u32 0, .int .i64 0, .int .i64 0, .string ⟨#[]⟩, .slice none 0 0, .int .u8 0, .int .u8 0, .int .u32 0]) 9 72 Try.underlying22 HI.out HI0.out HI1.out HI2.out rfl (by decide) _ _ _ (by rfl) O5.out.1 (.slice (some ⟨w4.heap.size, 0, none⟩) 1 1) 1 e.cell (by rfl) RE.out (ov_one e) (by unfold maxLen; omega) (by omega) hs5 ?_; intro v' w6 hown6 hgrow6; have O6 := Lib.hid (OwnOps.snoc O5.out (by rw [hEo.out.1, hEo.out.2, ← hm5'.out]; exact HT5.out) hown6 hgrow6); have G6 := Lib.hid ((hgrow6.block _ (blk_lt G5.out) (fun e => by have := own_ge9 O5.out.1 _ e.symm; omega)).trans G5.out); have B6 := Lib.hid (B5.out.grown hgrow6 (by omega) (fun j hj => by have := (O5.out.1.lt j hj).1; omega)); clear hown6 hgrow6)
              go_roundw
              case rel => exact ⟨i + 1, a + a2, L ++ [e], by go_num, by omega, by omega, O6, by simp [hLi], B6, G6, by rw [List.map_append, List.map_singleton, hEo.out.1]; exact HK4⟩
              case measure => simp [intOf] <;> omega
        · have hci : ¬ (i : Int) < (n : Int) := by omega
          have hin : n - i = 0 := by omega
          have hk := HK.out
          rw [hin] at hk
          by_cases hae : a = s.length
          · subst hae
            have hne : ((s.length : Int) != (s.length : Int)) = false := by simp
            have HK2 : Hid (decL s = some (L.map Ov.o)) := by
              show _ = _
              rw [hk, decGo, if_pos (by rw [List.length_drop]; omega)]
              simp
            clear hk hin HK
            go_wp2_with fail
            go_ret2
            exact ⟨_, L, by unfold decE; rw [HK2.out]; rfl, HO.out.mono (Nat.le_succ _), by rw [HK2.out]; rfl, HB.out⟩
          · have hne : ((a : Int) != (s.length : Int)) = true := by simp; omega
            have HK2 : Hid (decL s = none) := by
              show _ = _
              rw [hk, decGo, if_neg (by rw [List.length_drop]; omega)]
              rfl
            clear hk hin HK
            go_wp2_with fail
            go_ret2
            exact DecPost.no HK2.out HB.out
    · have h2i : (32 : Int) < (n : Int) := by omega
      have HD : Hid (decL s = none) := by show _ = _; unfold decL; rw [if_neg (fun h => h2 (by rw [hn]; exact h.2))]
      clear hn
      go_wp2_with fail
      go_ret2
      exact DecPost.no HD.out B1.out
  · have hq : (n, c1) = (0, (⟨s, 1, true⟩ : Gd)) := by
      rw [q1]
      unfold Gd.num
      rw [if_neg (by rw [Bool.not_eq_true, Bool.and_eq_false_iff]; exact .inl (decide_eq_false (by show ¬ 0 + 1 ≤ s.length; omega)))]
    simp only [Prod.mk.injEq] at hq
    obtain ⟨rfl, rfl⟩ := hq
    clear q1
    obtain ⟨_, k0, k1, k2, kf⟩ := hg.cells
    simp only at k0 k1 k2
    have HD : Hid (decL s = none) := by show _ = _; unfold decL; rw [if_neg (by omega)]
    go_wp2_with fail
    go_ret2
    exact DecPost.no HD.out B1.out

end Go.Proofs.Ytjcfnfpilladfaa
