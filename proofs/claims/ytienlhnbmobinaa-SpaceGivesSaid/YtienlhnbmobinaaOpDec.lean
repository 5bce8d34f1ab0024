/- op.Decode -/
import Derived.Test.YtienlhnbmobinaaRows
import Derived.Test.YtienlhnbmobinaaOpWrite
import Derived.Test.YtienlhnbmobinaaOpRead
import Derived.Test.YtienlhnbmobinaaOpGo
import Derived.Test.YtienlhnbmobinaaOpFold
import Derived.Test.YtienlhnbmobinaaOpRows
import Derived.Test.YtienlhnbmobinaaOpPart
import Derived.Test.YtienlhnbmobinaaOpPiece
import Derived.Test.YtienlhnbmobinaaOpNum
import Derived.Test.YtienlhnbmobinaaOpPlain
import Derived.Test.YtienlhnbmobinaaOpWord
import Derived.Test.YtienlhnbmobinaaOpSame
import Derived.Test.YtienlhnbmobinaaOpLaw
import Derived.Test.YtienlhnbmobinaaOpIn
import Derived.Test.YtienlhnbmobinaaHeavy11
import Derived.Test.YtienlhnbmobinaaTextsMove
import Derived.Test.YtienlhnbmobinaaTextsP
import Derived.Test.YtienlhnbmobinaaPlains
import Derived.Test.YtienlhnbmobinaaBase
import Derived.WalkKit
import Derived.WalkLawsBesides
import Derived.WalkSpells
import Derived.LoopTactic
import Derived.WalkMore
import Derived.LoopN
import Derived.Laws.BitsAllLaws
import Derived.Laws.IdiomStrings
import Derived.BigQuiet
import Derived.Deep.QuietTactic
import Derived.Deep.DeepCutAuto
import Derived.Deep.RegionHeld3
import Derived.Deep.DrawnRows
import Derived.Lib.Hide
import Derived.Outline
import Derived.Deep.DeepMust
import Derived.Handy
namespace Go.Proofs.Ytienlhnbmobinaa
open Go.RowKit
set_option linter.unusedVariables false
set_option linter.unusedSimpArgs false

/-- An op made here, and its rows. -/
def OwnOps (w : World) (base : Nat) (v : Value) (L : List Ov) : Prop := w.ownsRow base 28 9 v L.length (L.flatMap Ov.cell) ∧ ∀ e ∈ L, w.ownsRow base 9 1 e.sv e.o.rows.length (strs e.o.rows)
theorem OwnOps.nil (w : World) (base : Nat) : OwnOps w base (.slice none 0 0) [] := ⟨World.ownsRow_nil _ _ _ _, fun e he => by cases he⟩
theorem OwnOps.below {w w' : World} {base : Nat} {v : Value} {L : List Ov} (h : OwnOps w base v L) (hb : Below w.heap.size w w') : OwnOps w' base v L := ⟨own_below h.1 hb, fun e he => own_below (h.2 e he) hb⟩
theorem own_other {w : World} {base base' n m size : Nat} {u v : Value} {xs ys : List Value} (h : w.ownsRow base 9 1 u n xs) (h2 : w.ownsRow base' 28 size v m ys) : u.ownBlock = none ∨ u.ownBlock ≠ v.ownBlock := by
  rcases h.2 with ⟨rfl, _⟩ | ⟨g, cap, cur, rfl, _, hg, _⟩
  · exact .inl rfl
  · right
    rcases h2.2 with ⟨rfl, _⟩ | ⟨g2, cap2, cur2, rfl, _, hg2, _⟩
    · intro e; cases e
    · intro e
      injection e with e
      simp only at e
      rw [e, hg2] at hg
      simp at hg
theorem OwnOps.snoc {w w2 : World} {base : Nat} {v v' : Value} {L : List Ov} {e : Ov} (h : OwnOps w base v L) (he : w.ownsRow base 9 1 e.sv e.o.rows.length (strs e.o.rows)) (ho : w2.ownsRow base 28 9 v' (L.length + 1) (L.flatMap Ov.cell ++ e.cell)) (hg : w.grownBy w2 v.ownBlock) : OwnOps w2 base v' (L ++ [e]) := by
  refine ⟨?_, fun x hx => ?_⟩
  · rw [List.length_append, List.flatMap_append]
    simpa using ho
  · rcases List.mem_append.1 hx with hx | hx
    · exact (h.2 x hx).kept hg (own_other (h.2 x hx) h.1)
    · rw [List.mem_singleton.1 hx]
      exact he.kept hg (own_other he h.1)
theorem flat_getO (l : List Ov) : ∀ (j i : Nat) (v : Value) (h : j < l.length), l[j].cell[i]? = some v → (l.flatMap Ov.cell)[j * 9 + i]? = some v := by
  induction l with
  | nil => intro j i v h; simp at h
  | cons r rs ih =>
    intro j i v h hv
    have hr : r.cell.length = 9 := rfl
    rw [List.flatMap_cons]
    cases j with
    | zero =>
      have hi : i < 9 := by have := (List.getElem?_eq_some_iff.1 hv).1; rw [List.getElem_cons_zero, hr] at this; exact this
      rw [List.getElem?_append_left (by rw [hr]; omega)]
      simpa using hv
    | succ j =>
      rw [List.getElem?_append_right (by rw [hr]; omega), hr, show (j + 1) * 9 + i - 9 = j * 9 + i by omega]
      exact ih j i v (by simpa using h) (by simpa using hv)
theorem OwnOps.at_ {w : World} {base : Nat} {v : Value} {L : List Ov} (h : OwnOps w base v L) : OpsAt w v L := by
  obtain ⟨⟨hl, h1⟩, h2⟩ := h
  rcases h1 with ⟨rfl, h0⟩ | ⟨g, cap, cur, rfl, hg, hb, hn, hc, hz, ht⟩
  · have : L = [] := List.eq_nil_of_length_eq_zero h0
    subst this
    exact OpsAt.nil w
  · refine ⟨_, cap, rfl, hn, hc, fun h0 => ⟨g, 0, rfl, blk_lt hb, fun j hj i v hv => ?_⟩, fun e he => (texts_own (h2 e he)).1⟩
    have h3 := flat_getO L j i v hj hv
    rw [← ht, List.getElem?_take] at h3
    split at h3
    · rw [show 0 + j * 9 + i = j * 9 + i by omega, blk_cell hb]
      simpa using h3
    · cases h3
theorem Try.infoOp : (Try.prog.info? 28).map (fun i => (i.zero, i.size, i.bytes)) = some (some (.agg #[.int .u8 0, .int .u32 0, .int .i64 0, .int .i64 0, .string ⟨#[]⟩, .slice none 0 0, .int .u8 0, .int .u8 0, .int .u32 0]), 9, 72) := by kernel_rfl
theorem ov_one (e : Ov) : ∀ u ∈ e.cell, u.oneCell' = true := by
  intro u hu
  simp only [Ov.cell, List.mem_cons, List.not_mem_nil, or_false] at hu
  rcases hu with rfl | rfl | rfl | rfl | rfl | rfl | rfl | rfl | rfl <;> rfl
theorem ov_reads (w : World) (e : Ov) : Reads (w.alloc (.cells e.cell.toArray 28)) (.slice (some ⟨w.heap.size, 0, none⟩) 1 1) 1 9 e.cell := by
  refine .inr ⟨_, 1, rfl, rfl, fun j u hu => ?_⟩
  rw [Addr.add_lit, show 0 + j = j by omega, blk_cell (heap_alloc_new w _)]
  simpa using hu
theorem drop_extract (s : List UInt8) (a : Nat) : (⟨s.toArray⟩ : ByteArray).extract a s.length = ⟨(s.drop a).toArray⟩ := by
  apply bytes_ext
  rw [ByteArray.data_extract]
  simp
  exact List.take_of_length_le (by simp)
/-- What a list's bytes are read as. -/
def decGo : Nat → List UInt8 → Option (List Od)
  | 0, r => if r.length = 0 then some [] else none
  | k + 1, r => if (readC r).bad = true then none else (decGo k (r.drop (readC r).at_)).map ((readC r).o :: ·)
def decL (s : List UInt8) : Option (List Od) := if 1 ≤ s.length ∧ rdNum s 0 1 ≤ 32 then decGo (rdNum s 0 1) (s.drop 1) else none
def decE (s : List UInt8) : Int := if (decL s).isSome = true then 0 else 7
/-- What decoding leaves. -/
def DecPost (w : World) (s : List UInt8) (e : Ending) (w' : World) : Prop := ∃ v L, e = .returned (.tuple #[v, .int .i64 (decE s)]) ∧ OwnOps w' w.heap.size v L ∧ L.map Ov.o = (decL s).getD [] ∧ Below w.heap.size w w'
theorem DecPost.no {w w' : World} {s : List UInt8} (h : decL s = none) (hb : Below w.heap.size w w') : DecPost w s (.returned (.tuple #[.slice none 0 0, .int .i64 7])) w' := by
  refine ⟨_, [], by unfold decE; rw [h]; rfl, OwnOps.nil _ _, by rw [h]; rfl, hb⟩
set_option maxHeartbeats 4000000 in
set_option maxRecDepth 100000 in
theorem opDecode_any (s : List UInt8) (w : World) (hs : s.length ≤ 100000) :
    Calls Try.prog 82 #[.string ⟨s.toArray⟩] w (DecPost w s) := by
  have GE := Lib.hid fun W => wGet s 0 1 W (by omega) (by omega) (by omega) (by omega)
  have hsz : (⟨s.toArray⟩ : ByteArray).size = s.length := by simp [ByteArray.size]
  obtain ⟨i0, hif, hz0, hz1, hz2⟩ := info_parts Try.infoOp
  have HI := Lib.hid hif
  have HI0 := Lib.hid hz0
  have HI1 := Lib.hid hz1
  have HI2 := Lib.hid hz2
  clear hif hz0 hz1 hz2
  go_enter Try.func82, Try.ntmps82
  go_wp2_with fail
  refine (GE.out _).mono ?_
  rintro e w1 ⟨rfl, hb⟩
  have B1 := Lib.hid hb
  clear hb GE
  by_cases h1 : 1 ≤ s.length
  · have h1d : decide (0 + 1 ≤ s.length) = true := decide_eq_true (by omega)
    rw [h1d]
    clear h1d
    by_cases h2 : rdNum s 0 1 ≤ 32
    · have HD : Hid (decL s = decGo (rdNum s 0 1) (s.drop 1)) := by show _ = _; unfold decL; rw [if_pos ⟨h1, h2⟩]
      obtain ⟨n, hn⟩ : ∃ n, n = rdNum s 0 1 := ⟨_, rfl⟩
      rw [← hn] at h2 HD ⊢
      clear hn
      have h2i : ¬ (32 : Int) < (n : Int) := by omega
      go_wp2_with fail
      go_loopw [2, 6, 22] (fun s2 s6 s22 wr => ∃ (i a : Nat) (L : List Ov), s22 = .int .u64 i ∧ i ≤ n ∧ s6 = .int .i64 a ∧ a ≤ s.length ∧ Hid (OwnOps wr w.heap.size s2 L) ∧ L.length = i ∧ Hid (Below w.heap.size w wr) ∧ Hid (decL s = (decGo (n - i) (s.drop a)).map (L.map Ov.o ++ ·))) (fun _ _ v _ => n - (intOf v).toNat)
      case atStart => exact ⟨0, 1, [], rfl, Nat.zero_le _, rfl, h1, Lib.hid (OwnOps.nil _ _), rfl, B1, Lib.hid (by rw [HD.out]; simp)⟩
      case round =>
        obtain ⟨i, a, L, rfl, hi, rfl, ha, HO, hLi, HB, HK⟩ := hrel
        have hai : (a : Int) ≤ (s.length : Int) := by omega
        have ha0 : (0 : Int) ≤ (a : Int) := by omega
        by_cases hc : i < n
        · have hci : (i : Int) < (n : Int) := by omega
          have hdx := drop_extract s a
          have RD := Lib.hid (read_own (s.drop a) wr (by rw [List.length_drop]; omega))
          go_wp2_with fail
          refine RD.out.mono ?_
          rintro e w2 ⟨sv, rfl, ht, hb⟩
          have hhs : wr.heap.size ≤ w2.heap.size := hb.size
          have B2 := Lib.hid (HB.out.trans (hb.mono HB.out.size))
          have O2 := Lib.hid (HO.out.below hb)
          have hbk := Lib.hid fun h => readC_back (l := s.drop a) h
          have HK2 : Hid ((readC (s.drop a)).bad = true → decL s = none) := fun hbad => by
            rw [HK.out, show n - i = (n - i - 1) + 1 by omega, decGo, if_pos hbad]
            rfl
          have HK3 : Hid ((readC (s.drop a)).bad = false → decL s = (decGo (n - (i + 1)) (s.drop (a + (readC (s.drop a)).at_))).map ((L.map Ov.o ++ [(readC (s.drop a)).o]) ++ ·)) := fun hbad => by
            rw [HK.out, show n - i = (n - (i + 1)) + 1 by omega, decGo, if_neg (by rw [hbad]; decide), List.drop_drop, Option.map_map]
            congr 1
            funext x
            simp
          have hdl : (s.drop a).length = s.length - a := by rw [List.length_drop]
          generalize readC (s.drop a) = c at *
          clear hb RD hdx HK
          have HT := Lib.hid (own_mono ht HB.out.size)
          obtain ⟨b5, c5, rfl, hr1, hr2, _⟩ := own_form ht
          clear ht
          obtain ⟨e, he⟩ : ∃ e : Ov, e = ⟨c.o, b5, c5⟩ := ⟨_, rfl⟩
          unfold odV
          obtain ⟨m5, hm5⟩ : ∃ m, m = c.o.rows.length := ⟨_, rfl⟩
          rw [← hm5] at HT ⊢
          have hE : Hid (#[.int .u8 c.o.kind, .int .u32 c.o.page, .int .i64 c.o.at_, .int .i64 c.o.off, .string ⟨c.o.text.toArray⟩, .slice b5 m5 c5, .int .u8 c.o.pk, .int .u8 c.o.lv, .int .u32 c.o.nx] = e.cell.toArray) := by show _ = _; rw [he, hm5]; rfl
          have hEo : Hid (e.o = c.o ∧ e.sv = .slice b5 m5 c5) := by rw [he, hm5]; exact ⟨rfl, rfl⟩
          have hm5' : Hid (m5 = c.o.rows.length) := hm5
          clear he hm5
          cases hbad : c.bad with
          | true =>
            have HN := Lib.hid (HK2.out hbad)
            clear HK2 HK3 hbk hbad
            go_wp2_with fail
            go_ret2
            exact DecPost.no HN.out (B2.out.alloc (by have := HB.out.size; omega) _)
          | false =>
            have hk3 := HK3.out hbad
            have hle := (hbk.out hbad).2.2.2
            replace hle : a + c.at_ ≤ s.length := by omega
            clear hdl
            have HK4 := Lib.hid hk3
            clear HK2 HK3 hbk hbad hk3
            obtain ⟨a2, ha2⟩ : ∃ a2, a2 = c.at_ := ⟨_, rfl⟩
            rw [← ha2] at hle HK4 ⊢
            clear ha2
            have B3 := Lib.hid (B2.out.alloc (by have := HB.out.size; omega) (.cells #[.int .u8 c.o.kind, .int .u32 c.o.page, .int .i64 c.o.at_, .int .i64 c.o.off, .string ⟨c.o.text.toArray⟩, .slice b5 m5 c5, .int .u8 c.o.pk, .int .u8 c.o.lv, .int .u32 c.o.nx] 28))
            have O3 := Lib.hid (O2.out.below (alloc_below w2 (.cells #[.int .u8 c.o.kind, .int .u32 c.o.page, .int .i64 c.o.at_, .int .i64 c.o.off, .string ⟨c.o.text.toArray⟩, .slice b5 m5 c5, .int .u8 c.o.pk, .int .u8 c.o.lv, .int .u32 c.o.nx] 28)))
            have HT3 := Lib.hid (own_below HT.out (alloc_below w2 (.cells #[.int .u8 c.o.kind, .int .u32 c.o.page, .int .i64 c.o.at_, .int .i64 c.o.off, .string ⟨c.o.text.toArray⟩, .slice b5 m5 c5, .int .u8 c.o.pk, .int .u8 c.o.lv, .int .u32 c.o.nx] 28)))
            obtain ⟨x0, x1, x2, x3, x4, x5, x6, x7, x8⟩ := (show OAt (w2.alloc (.cells #[.int .u8 c.o.kind, .int .u32 c.o.page, .int .i64 c.o.at_, .int .i64 c.o.off, .string ⟨c.o.text.toArray⟩, .slice b5 m5 c5, .int .u8 c.o.pk, .int .u8 c.o.lv, .int .u32 c.o.nx] 28)) w2.heap.size c.o (.slice b5 m5 c5) from heap_alloc_new _ _).cells
            have hx3 : w2.heap.size < (w2.alloc (.cells #[.int .u8 c.o.kind, .int .u32 c.o.page, .int .i64 c.o.at_, .int .i64 c.o.off, .string ⟨c.o.text.toArray⟩, .slice b5 m5 c5, .int .u8 c.o.pk, .int .u8 c.o.lv, .int .u32 c.o.nx] 28)).heap.size := by simp
            go_upto_region 10 with fail
            generalize w2.alloc (.cells #[.int .u8 c.o.kind, .int .u32 c.o.page, .int .i64 c.o.at_, .int .i64 c.o.off, .string ⟨c.o.text.toArray⟩, .slice b5 m5 c5, .int .u8 c.o.pk, .int .u8 c.o.lv, .int .u32 c.o.nx] 28) = w3 at *
            have O4 := Lib.hid (O3.out.below (alloc_below w3 (.cells #[.int .u8 c.o.kind, .int .u32 c.o.page, .int .i64 c.o.at_, .int .i64 c.o.off, .string ⟨c.o.text.toArray⟩, .slice b5 m5 c5, .int .u8 c.o.pk, .int .u8 c.o.lv, .int .u32 c.o.nx] 28)))
            have HT4 := Lib.hid (own_below HT3.out (alloc_below w3 (.cells #[.int .u8 c.o.kind, .int .u32 c.o.page, .int .i64 c.o.at_, .int .i64 c.o.off, .string ⟨c.o.text.toArray⟩, .slice b5 m5 c5, .int .u8 c.o.pk, .int .u8 c.o.lv, .int .u32 c.o.nx] 28)))
            have B4 := Lib.hid (B3.out.alloc B3.out.size (.cells #[.int .u8 c.o.kind, .int .u32 c.o.page, .int .i64 c.o.at_, .int .i64 c.o.off, .string ⟨c.o.text.toArray⟩, .slice b5 m5 c5, .int .u8 c.o.pk, .int .u8 c.o.lv, .int .u32 c.o.nx] 28))
            have RE : Hid (Reads (w3.alloc (.cells #[.int .u8 c.o.kind, .int .u32 c.o.page, .int .i64 c.o.at_, .int .i64 c.o.off, .string ⟨c.o.text.toArray⟩, .slice b5 m5 c5, .int .u8 c.o.pk, .int .u8 c.o.lv, .int .u32 c.o.nx] 28)) (.slice (some ⟨w3.heap.size, 0, none⟩) 1 1) 1 9 e.cell) := by
              show Reads _ _ _ _ _
              rw [hE.out]
              exact ov_reads w3 e
            have hs3 : w.heap.size ≤ (w3.alloc (.cells #[.int .u8 c.o.kind, .int .u32 c.o.page, .int .i64 c.o.at_, .int .i64 c.o.off, .string ⟨c.o.text.toArray⟩, .slice b5 m5 c5, .int .u8 c.o.pk, .int .u8 c.o.lv, .int .u32 c.o.nx] 28)).heap.size := B4.out.size
            clear O2 O3 HT HT3 B2 B3
            go_wp2_with (at_builtin; refine wpList_append_any _ rfl _ _ 29 rfl w.heap.size 28 i0 (.agg #[.int .u8 0, .int .u32 0, .int .i64 0, .int .i64 0, .string ⟨#[]⟩, .slice none 0 0, .int .u8 0, .int .u8 0, .int .u32 0]) 9 72 Try.underlying29 HI.out HI0.out HI1.out HI2.out rfl (by decide) _ _ _ (by rfl) O4.out.1 (.slice (some ⟨w3.heap.size, 0, none⟩) 1 1) 1 e.cell (by rfl) RE.out (ov_one e) (by unfold maxLen; omega) (by omega) hs3 ?_; intro v' w6 hown6 hgrow6; have O6 := Lib.hid (OwnOps.snoc O4.out (by rw [hEo.out.1, hEo.out.2, ← hm5'.out]; exact HT4.out) hown6 hgrow6); have B6 := Lib.hid (B4.out.grown hgrow6 hs3 (fun j hj => by have := (O4.out.1.lt j hj).1; omega)); clear hown6 hgrow6)
            go_roundw
            case rel => exact ⟨i + 1, a + a2, L ++ [e], by go_num, by omega, by go_num, by omega, O6, by simp [hLi], B6, by rw [List.map_append, List.map_singleton, hEo.out.1]; exact HK4⟩
            case measure => simp [intOf] <;> omega
        · have hci : ¬ (i : Int) < (n : Int) := by omega
          have hin : n - i = 0 := by omega
          have hk := HK.out
          rw [hin] at hk
          by_cases hae : a = s.length
          · subst hae
            have hne : ((s.length : Int) != (s.length : Int)) = false := by simp
            have HK2 : Hid (decL s = some (L.map Ov.o)) := by
              show _ = _
              rw [hk, decGo, if_pos (by rw [List.length_drop]; omega)]
              simp
            clear hk hin HK
            go_wp2_with fail
            go_ret2
            exact ⟨_, L, by unfold decE; rw [HK2.out]; rfl, HO.out, by rw [HK2.out]; rfl, HB.out⟩
          · have hne : ((a : Int) != (s.length : Int)) = true := by simp; omega
            have HK2 : Hid (decL s = none) := by
              show _ = _
              rw [hk, decGo, if_neg (by rw [List.length_drop]; omega)]
              rfl
            clear hk hin HK
            go_wp2_with fail
            go_ret2
            exact DecPost.no HK2.out HB.out
    · have h2i : (32 : Int) < (rdNum s 0 1 : Int) := by omega
      have HD : Hid (decL s = none) := by show _ = _; unfold decL; rw [if_neg (by omega)]
      go_wp2_with fail
      go_ret2
      exact DecPost.no HD.out B1.out
  · have h1d : decide (0 + 1 ≤ s.length) = false := decide_eq_false (by omega)
    rw [h1d]
    have HD : Hid (decL s = none) := by show _ = _; unfold decL; rw [if_neg (by omega)]
    go_wp2_with fail
    go_ret2
    exact DecPost.no HD.out B1.out

end Go.Proofs.Ytienlhnbmobinaa
