/- Kept of our texts for this claim: OpDoes -/
import Derived.Test.YtienlhnbmobinaaGreatRows
import Derived.Test.YtienlhnbmobinaaGreatAdAu
import Derived.Test.YtienlhnbmobinaaGreatAdAq
import Derived.Test.YtienlhnbmobinaaGreatAdAl
import Derived.Test.YtienlhnbmobinaaGreatAdAk
import Derived.Test.YtienlhnbmobinaaGreatAdAm
import Derived.Test.YtienlhnbmobinaaGreatAdAn
import Derived.Test.YtienlhnbmobinaaGreatAdAv
import Derived.Test.YtienlhnbmobinaaGreatAdAc
import Derived.Test.YtienlhnbmobinaaGreatAdAa
import Derived.Test.YtienlhnbmobinaaGreatAdAb
import Derived.Test.YtienlhnbmobinaaGreatAdAd
import Derived.WalkKit
import Derived.WalkLawsBesides
import Derived.WalkSpells
import Derived.LoopTactic
import Derived.WalkMore
import Derived.LoopN
import Derived.Laws.BitsAllLaws
import Derived.Laws.IdiomStrings
import Derived.BigQuiet
import Derived.Deep.QuietTactic
import Derived.Deep.DeepCutAuto
import Derived.Deep.RegionHeld3
import Derived.Deep.DrawnRows
import Derived.Lib.Hide
import Derived.Outline
import Derived.Deep.DeepMust
import Derived.Handy
section
/- op: what ops do, each -/
namespace Go.Proofs.YtienlhnbmobinaaGreat
open Go.RowKit
set_option linter.unusedVariables false
set_option linter.unusedSimpArgs false
/-- Bytes of a text that become other ones. -/
def setB (s : List UInt8) (f : Nat) (t : List UInt8) : Option (List UInt8) := if f + t.length ≤ s.length then some (s.take f ++ t ++ s.drop (f + t.length)) else none
theorem take_extract (s : List UInt8) (a : Nat) : (⟨s.toArray⟩ : ByteArray).extract 0 a = ⟨(s.take a).toArray⟩ := by
  apply bytes_ext
  rw [ByteArray.data_extract]
  simp
set_option maxHeartbeats 1000000 in
set_option maxRecDepth 100000 in
theorem wSet_any (l : List UInt8) (f : Nat) (t : List UInt8) (w : World) (hl : l.length ≤ 1000000) (hf : f ≤ 1000000) (ht : t.length ≤ 1000000) :
    Calls Tryz.prog 71 #[.string ⟨l.toArray⟩, .int .i64 f, .string ⟨t.toArray⟩] w fun e w' => e = .returned (.tuple #[.string ⟨((setB l f t).getD []).toArray⟩, .bool (setB l f t).isSome]) ∧ Below w.heap.size w w' := by
  have CU := Lib.hid fun W => wCut l f t.length W hl (by omega) (by omega)
  have hz : (⟨t.toArray⟩ : ByteArray).size = t.length := by simp [ByteArray.size]
  have hz2 : (⟨l.toArray⟩ : ByteArray).size = l.length := by simp [ByteArray.size]
  obtain ⟨n, hn⟩ : ∃ n, n = t.length := ⟨_, rfl⟩
  rw [← hn] at hz CU ht
  have HN := Lib.hid hn
  obtain ⟨R, hR⟩ : ∃ R, R = setB l f t := ⟨_, rfl⟩
  rw [← hR]
  unfold setB at hR
  rw [← hn] at hR
  clear hn
  go_enter Tryz.func71, Tryz.ntmps71
  go_wp2_with fail
  refine (CU.out _).mono ?_
  rintro e w1 ⟨rfl, rfl⟩
  by_cases h : f + n ≤ l.length
  · rw [decide_eq_true h]
    rw [if_pos h] at hR
    have HR := Lib.hid hR
    have e1 := take_extract l f
    have e2 := drop_extract l (f + n)
    have i1 : (0 : Int) ≤ (f : Int) := by omega
    have i2 : (f : Int) ≤ (l.length : Int) := by omega
    have i3 : (0 : Int) ≤ (f : Int) + (n : Int) := by omega
    have i4 : (f : Int) + (n : Int) ≤ (l.length : Int) := by omega
    have hl1 : (l.take f).length = f := by rw [List.length_take]; omega
    have hl2 : (l.drop (f + n)).length = l.length - (f + n) := by rw [List.length_drop]
    have HF : Hid (Value.string (((⟨(l.take f).toArray⟩ : ByteArray) ++ ⟨t.toArray⟩) ++ ⟨(l.drop (f + n)).toArray⟩) = .string ⟨((some (l.take f ++ t ++ l.drop (f + n))).getD []).toArray⟩) := by
      show _ = _
      congr 1
    clear hR CU
    go_upto_region 4 with fail
    go_region
    go_wp2_with fail
    (try simp only [Exit.inBlock, Exit.then])
    refine bodyPost_ret (results_tmp2 rfl _ _ _) rfl ?_
    refine ⟨?_, (Below.refl _ _).drew⟩
    rw [HR.out]
    show Ending.returned (.tuple #[Value.string (((⟨(l.take f).toArray⟩ : ByteArray) ++ ⟨t.toArray⟩) ++ ⟨(l.drop (f + n)).toArray⟩), .bool true]) = _
    rw [HF.out]
    rfl
  · rw [decide_eq_false h]
    rw [if_neg h] at hR
    have HR := Lib.hid hR
    clear hR
    go_wp2_with fail
    go_ret2
    exact ⟨by rw [HR.out]; rfl, Below.refl _ _⟩
/-- What an op does to a page: the page, the error. -/
def doB (p : Pg) (o : Od) : Pg × Int :=
  match o.kind with
  | 1 => (⟨o.pk, o.lv, o.page, 0, o.nx, []⟩, 0)
  | 2 => if o.at_.toNat ≤ p.rows.length then (p.with (putRows p.rows o.at_.toNat o.text false), 0) else (p, 3)
  | 3 => if o.at_.toNat < p.rows.length then (p.with (putRows p.rows o.at_.toNat o.text true), 0) else (p, 3)
  | 4 => if o.at_.toNat < p.rows.length then (p.with (p.rows.take o.at_.toNat ++ p.rows.drop (o.at_.toNat + 1)), 0) else (p, 3)
  | 5 => if o.at_.toNat ≤ p.rows.length then (p.with (p.rows.take o.at_.toNat), 0) else (p, 3)
  | 6 => (p.with (p.rows ++ o.rows), 0)
  | 7 => (⟨p.kind, p.level, p.id, p.lsn, o.nx, p.rows⟩, 0)
  | 8 => if o.at_.toNat < p.rows.length then (match setB (p.rows.getD o.at_.toNat []) o.off.toNat o.text with | some r => (p.with (putRows p.rows o.at_.toNat r true), 0) | none => (p, 2)) else (p, 3)
  | _ => (p, 0)
/-- A page in a box, its rows its own. -/
def PRow (w : World) (base gp : Nat) (P : Pg) : Prop := ∃ sv, PgBox w gp P.kind P.level P.id P.lsn P.next sv ∧ w.ownsRow base 9 1 sv P.rows.length (strs P.rows)
def DoesPost (w : World) (base gp : Nat) (R : Pg × Int) (e : Ending) (w' : World) : Prop := e = .returned (.int .i64 R.2) ∧ (R.2 = 0 → PRow w' base gp R.1) ∧ OthersKept w w' (fun x => x = gp ∨ base ≤ x)
theorem own_set_cell {w : World} {base n g cp i : Nat} {xs : List (List UInt8)} {x : List UInt8} (h : w.ownsRow base 9 1 (.slice (some ⟨g, 0, none⟩) n cp) n (strs xs)) (hi : i < xs.length) : (w.setCell ⟨g, i, none⟩ (.string ⟨x.toArray⟩)).ownsRow base 9 1 (.slice (some ⟨g, 0, none⟩) n cp) n (strs (putRows xs i x true)) := by
  obtain ⟨cur, hc, hb, hn, hm, hl, ht, hx⟩ := own_cur h
  rw [strs_length] at hx
  have h2 := blk_set hc i (.string ⟨x.toArray⟩)
  refine own_of_cur (cur := cur.set i (.string ⟨x.toArray⟩)) (by simpa using h2) hb hn hm (by simp [hl]) ?_
  have h3 := set_one cur (strs xs) (.string ⟨x.toArray⟩) n i ht (by omega) (by omega)
  have h4 : spl cur i [Value.string ⟨x.toArray⟩] = cur.set i (.string ⟨x.toArray⟩) := by
    unfold spl
    rw [List.set_eq_take_append_cons_drop, if_pos (by omega)]
    simp
  rw [h4] at h3
  rw [h3]
  simp [putRows, strs]
theorem own_take {w : World} {base n cp k : Nat} {b : Option Addr} {xs : List (List UInt8)} (h : w.ownsRow base 9 1 (.slice b n cp) n (strs xs)) (hk : k ≤ n) : w.ownsRow base 9 1 (.slice b k cp) k (strs (xs.take k)) := by
  obtain ⟨hl, h⟩ := h
  rw [strs_length] at hl
  refine ⟨by rw [strs_length, List.length_take]; omega, ?_⟩
  rcases h with ⟨h1, h2⟩ | ⟨g, cap, cur, h1, hg, hb, hn, hc, hz, ht⟩
  · injection h1 with h1 h3 h4
    subst h1 h3 h4
    obtain rfl : k = 0 := by omega
    exact .inl ⟨rfl, rfl⟩
  · injection h1 with h1 h3 h4
    subst h1 h4
    refine .inr ⟨g, cp, cur, rfl, hg, hb, by omega, hc, hz, ?_⟩
    rw [strs_take, ← ht, List.take_take]
    congr 1
    omega
theorem pbox_apart {w : World} {base n gp kind level id lsn next : Nat} {s v : Value} {xs : List Value} (h : PgBox w gp kind level id lsn next s) (ho : w.ownsRow base 9 1 v n xs) : ∀ j, v.ownBlock = some j → j ≠ gp := by
  intro j hj e
  unfold PgBox at h
  rcases ho.2 with ⟨rfl, _⟩ | ⟨q, cap, cur, rfl, _, hq, _⟩
  · cases hj
  · injection hj with hj
    simp only at hj
    subst hj
    rw [e, h] at hq
    simp at hq
theorem grown_kept {w w' : World} {base n size : Nat} {e : TypeId} {v : Value} {xs : List Value} {p : Nat → Prop} (ho : w.ownsRow base e size v n xs) (hg : w.grownBy w' v.ownBlock) (hp : ∀ k, base ≤ k → p k) : OthersKept w w' p :=
  ⟨hg.os, hg.tape, hg.output, hg.size, fun k hk hn => hg.block k hk (fun e => hn (hp k (ho.lt k e.symm).1))⟩
set_option maxHeartbeats 2000000 in
set_option maxRecDepth 100000 in
theorem does8_any (w : World) (base gp : Nat) (P : Pg) (o : Od) (sv : Value) (hp : PRow w base gp P) (ht : TextsAt w sv o.rows) (hb : base ≤ w.heap.size) (hgp : gp < base) (hm : o.may = true) (hk : o.kind = 7) (hn : P.rows.length ≤ 900000) :
    Calls Tryz.prog 69 #[.pointer (some ⟨gp, 0, none⟩), odV o sv] w (DoesPost w base gp (doB P o)) := by
  obtain ⟨_, hpg, hnx, hpk, hat, hoff, hrl, hll⟩ := may_bounds hm
  obtain ⟨kind, level, id, lsn, next, rows⟩ := P
  obtain ⟨ok, page, oat, ooff, text, orows, pk, lv, nx⟩ := o
  obtain ⟨v, hbx, ho⟩ := hp
  simp only at hbx ho hn hpg hnx hpk hat hoff hrl hll hk ht
  obtain ⟨a, rfl⟩ : ∃ a : Nat, oat = a := ⟨oat.toNat, by omega⟩
  obtain ⟨f, rfl⟩ : ∃ f : Nat, ooff = f := ⟨ooff.toNat, by omega⟩
  subst hk
  have HTX := Lib.hid ht
  obtain ⟨A, cq, rfl, _⟩ := ht
  obtain ⟨m, hm2⟩ : ∃ m, m = orows.length := ⟨_, rfl⟩
  rw [← hm2] at HTX hrl ⊢
  have HM := Lib.hid hm2
  obtain ⟨R, hR⟩ : ∃ R, R = doB ⟨kind, level, id, lsn, next, rows⟩ ⟨7, page, a, f, text, orows, pk, lv, nx⟩ := ⟨_, rfl⟩
  rw [← hR]
  simp only [doB, Int.toNat_natCast] at hR
  have AB := Lib.hid (alloc_below w (.cells #[.int .u8 (7 : Nat), .int .u32 page, .int .i64 (a : Nat), .int .i64 (f : Nat), .string ⟨text.toArray⟩, .slice A m cq, .int .u8 pk, .int .u8 lv, .int .u32 nx] 40))
  have B1 := Lib.hid (hbx.below AB.out)
  have O1 := Lib.hid (own_below ho AB.out)
  have hs1 : w.heap.size < (w.alloc (.cells #[.int .u8 (7 : Nat), .int .u32 page, .int .i64 (a : Nat), .int .i64 (f : Nat), .string ⟨text.toArray⟩, .slice A m cq, .int .u8 pk, .int .u8 lv, .int .u32 nx] 40)).heap.size := by simp
  have hgl : gp < (w.alloc (.cells #[.int .u8 (7 : Nat), .int .u32 page, .int .i64 (a : Nat), .int .i64 (f : Nat), .string ⟨text.toArray⟩, .slice A m cq, .int .u8 pk, .int .u8 lv, .int .u32 nx] 40)).heap.size := by simp; omega
  have X1 := Lib.hid (show OAt (w.alloc (.cells #[.int .u8 (7 : Nat), .int .u32 page, .int .i64 (a : Nat), .int .i64 (f : Nat), .string ⟨text.toArray⟩, .slice A m cq, .int .u8 pk, .int .u8 lv, .int .u32 nx] 40)) w.heap.size ⟨7, page, a, f, text, orows, pk, lv, nx⟩ (.slice A m cq) from heap_alloc_new w _)
  have HR := Lib.hid hR
  obtain ⟨b, cp, hv, hcp1, hcp2, _⟩ := own_form ho
  obtain ⟨n, hn2⟩ : ∃ n, n = rows.length := ⟨_, rfl⟩
  rw [← hn2] at hv hcp1 hn O1
  subst hv
  have HN := Lib.hid hn2
  have ha8 : a ≤ 488 := by omega
  have hf8 : f ≤ 488 := by omega
  have AK := Lib.hid fun (q : Nat → Prop) => OthersKept.of_below (p := q) AB.out
  clear hR hbx ho hn2 hm2 hm hat hoff
  unfold odV
  go_enter Tryz.func69, Tryz.ntmps69
  go_upto_region 1 with fail
  generalize w.alloc (.cells #[.int .u8 (7 : Nat), .int .u32 page, .int .i64 (a : Nat), .int .i64 (f : Nat), .string ⟨text.toArray⟩, .slice A m cq, .int .u8 pk, .int .u8 lv, .int .u32 nx] 40) = w1 at *
  obtain ⟨x0, x1, x2, x3, x4, x5, x6, x7, x8⟩ := X1.out.cells
  obtain ⟨_, p0, p1, p2, p3, p4, p5⟩ := B1.out.cells
  obtain ⟨f0, f1, f2, f3, f4, f5⟩ := B1.out.fr
  simp only at x0 x1 x2 x3 x4 x5 x6 x7 x8
  have B2 := Lib.hid (B1.out.set4 nx)
  have O2 := Lib.hid (own_set_far (g := gp) (i := 4) (u := .int .u32 nx) O1.out (fun j hj => pbox_apart B1.out O1.out j hj))
  have K2 := Lib.hid ((AK.out (fun x => x = gp ∨ base ≤ x)).trans (one_kept w1 gp 4 (.int .u32 nx)) (fun k _ h => .inl h))
  go_wp2_with fail
  go_ret
  refine ⟨by rw [HR.out]; rfl, fun _ => ?_, K2.out⟩
  rw [HR.out]
  exact ⟨_, B2.out, by rw [← HN.out]; exact O2.out⟩
set_option maxHeartbeats 2000000 in
set_option maxRecDepth 100000 in
theorem does2_any (w : World) (base gp : Nat) (P : Pg) (o : Od) (sv : Value) (hp : PRow w base gp P) (ht : TextsAt w sv o.rows) (hb : base ≤ w.heap.size) (hgp : gp < base) (hm : o.may = true) (hk : o.kind = 1) (hn : P.rows.length ≤ 900000) :
    Calls Tryz.prog 61 #[.pointer (some ⟨gp, 0, none⟩), odV o sv] w (DoesPost w base gp (doB P o)) := by
  obtain ⟨_, hpg, hnx, hpk, hat, hoff, hrl, hll⟩ := may_bounds hm
  obtain ⟨kind, level, id, lsn, next, rows⟩ := P
  obtain ⟨ok, page, oat, ooff, text, orows, pk, lv, nx⟩ := o
  obtain ⟨v, hbx, ho⟩ := hp
  simp only at hbx ho hn hpg hnx hpk hat hoff hrl hll hk ht
  obtain ⟨a, rfl⟩ : ∃ a : Nat, oat = a := ⟨oat.toNat, by omega⟩
  obtain ⟨f, rfl⟩ : ∃ f : Nat, ooff = f := ⟨ooff.toNat, by omega⟩
  subst hk
  have HTX := Lib.hid ht
  obtain ⟨A, cq, rfl, _⟩ := ht
  obtain ⟨m, hm2⟩ : ∃ m, m = orows.length := ⟨_, rfl⟩
  rw [← hm2] at HTX hrl ⊢
  have HM := Lib.hid hm2
  obtain ⟨R, hR⟩ : ∃ R, R = doB ⟨kind, level, id, lsn, next, rows⟩ ⟨1, page, a, f, text, orows, pk, lv, nx⟩ := ⟨_, rfl⟩
  rw [← hR]
  simp only [doB, Int.toNat_natCast] at hR
  have AB := Lib.hid (alloc_below w (.cells #[.int .u8 (1 : Nat), .int .u32 page, .int .i64 (a : Nat), .int .i64 (f : Nat), .string ⟨text.toArray⟩, .slice A m cq, .int .u8 pk, .int .u8 lv, .int .u32 nx] 40))
  have B1 := Lib.hid (hbx.below AB.out)
  have O1 := Lib.hid (own_below ho AB.out)
  have hs1 : w.heap.size < (w.alloc (.cells #[.int .u8 (1 : Nat), .int .u32 page, .int .i64 (a : Nat), .int .i64 (f : Nat), .string ⟨text.toArray⟩, .slice A m cq, .int .u8 pk, .int .u8 lv, .int .u32 nx] 40)).heap.size := by simp
  have hgl : gp < (w.alloc (.cells #[.int .u8 (1 : Nat), .int .u32 page, .int .i64 (a : Nat), .int .i64 (f : Nat), .string ⟨text.toArray⟩, .slice A m cq, .int .u8 pk, .int .u8 lv, .int .u32 nx] 40)).heap.size := by simp; omega
  have X1 := Lib.hid (show OAt (w.alloc (.cells #[.int .u8 (1 : Nat), .int .u32 page, .int .i64 (a : Nat), .int .i64 (f : Nat), .string ⟨text.toArray⟩, .slice A m cq, .int .u8 pk, .int .u8 lv, .int .u32 nx] 40)) w.heap.size ⟨1, page, a, f, text, orows, pk, lv, nx⟩ (.slice A m cq) from heap_alloc_new w _)
  have HR := Lib.hid hR
  obtain ⟨b, cp, hv, hcp1, hcp2, _⟩ := own_form ho
  obtain ⟨n, hn2⟩ : ∃ n, n = rows.length := ⟨_, rfl⟩
  rw [← hn2] at hv hcp1 hn O1
  subst hv
  have HN := Lib.hid hn2
  have ha8 : a ≤ 488 := by omega
  have hf8 : f ≤ 488 := by omega
  have AK := Lib.hid fun (q : Nat → Prop) => OthersKept.of_below (p := q) AB.out
  clear hR hbx ho hn2 hm2 hm hat hoff
  unfold odV
  go_enter Tryz.func61, Tryz.ntmps61
  go_upto_region 1 with fail
  generalize w.alloc (.cells #[.int .u8 (1 : Nat), .int .u32 page, .int .i64 (a : Nat), .int .i64 (f : Nat), .string ⟨text.toArray⟩, .slice A m cq, .int .u8 pk, .int .u8 lv, .int .u32 nx] 40) = w1 at *
  obtain ⟨x0, x1, x2, x3, x4, x5, x6, x7, x8⟩ := X1.out.cells
  obtain ⟨_, p0, p1, p2, p3, p4, p5⟩ := B1.out.cells
  obtain ⟨f0, f1, f2, f3, f4, f5⟩ := B1.out.fr
  simp only at x0 x1 x2 x3 x4 x5 x6 x7 x8
  have B2 := Lib.hid (B1.out.put pk lv page 0 nx (.slice none 0 0))
  have K2 := Lib.hid ((AK.out (fun x => x = gp ∨ base ≤ x)).trans (setPg_kept w1 gp pk lv page 0 nx (.slice none 0 0)) (fun k _ h => .inl h))
  go_wp2_with fail
  go_ret
  refine ⟨by rw [HR.out]; rfl, fun _ => ?_, K2.out⟩
  rw [HR.out]
  exact ⟨_, B2.out, World.ownsRow_nil _ _ _ _⟩
set_option maxHeartbeats 2000000 in
set_option maxRecDepth 100000 in
theorem does3_any (w : World) (base gp : Nat) (P : Pg) (o : Od) (sv : Value) (hp : PRow w base gp P) (ht : TextsAt w sv o.rows) (hb : base ≤ w.heap.size) (hgp : gp < base) (hm : o.may = true) (hk : o.kind = 2) (hn : P.rows.length ≤ 900000) :
    Calls Tryz.prog 62 #[.pointer (some ⟨gp, 0, none⟩), odV o sv] w (DoesPost w base gp (doB P o)) := by
  obtain ⟨_, hpg, hnx, hpk, hat, hoff, hrl, hll⟩ := may_bounds hm
  obtain ⟨kind, level, id, lsn, next, rows⟩ := P
  obtain ⟨ok, page, oat, ooff, text, orows, pk, lv, nx⟩ := o
  obtain ⟨v, hbx, ho⟩ := hp
  simp only at hbx ho hn hpg hnx hpk hat hoff hrl hll hk ht
  obtain ⟨a, rfl⟩ : ∃ a : Nat, oat = a := ⟨oat.toNat, by omega⟩
  obtain ⟨f, rfl⟩ : ∃ f : Nat, ooff = f := ⟨ooff.toNat, by omega⟩
  subst hk
  have HTX := Lib.hid ht
  obtain ⟨A, cq, rfl, _⟩ := ht
  obtain ⟨m, hm2⟩ : ∃ m, m = orows.length := ⟨_, rfl⟩
  rw [← hm2] at HTX hrl ⊢
  have HM := Lib.hid hm2
  obtain ⟨R, hR⟩ : ∃ R, R = doB ⟨kind, level, id, lsn, next, rows⟩ ⟨2, page, a, f, text, orows, pk, lv, nx⟩ := ⟨_, rfl⟩
  rw [← hR]
  simp only [doB, Int.toNat_natCast] at hR
  have AB := Lib.hid (alloc_below w (.cells #[.int .u8 (2 : Nat), .int .u32 page, .int .i64 (a : Nat), .int .i64 (f : Nat), .string ⟨text.toArray⟩, .slice A m cq, .int .u8 pk, .int .u8 lv, .int .u32 nx] 40))
  have B1 := Lib.hid (hbx.below AB.out)
  have O1 := Lib.hid (own_below ho AB.out)
  have hs1 : w.heap.size < (w.alloc (.cells #[.int .u8 (2 : Nat), .int .u32 page, .int .i64 (a : Nat), .int .i64 (f : Nat), .string ⟨text.toArray⟩, .slice A m cq, .int .u8 pk, .int .u8 lv, .int .u32 nx] 40)).heap.size := by simp
  have hgl : gp < (w.alloc (.cells #[.int .u8 (2 : Nat), .int .u32 page, .int .i64 (a : Nat), .int .i64 (f : Nat), .string ⟨text.toArray⟩, .slice A m cq, .int .u8 pk, .int .u8 lv, .int .u32 nx] 40)).heap.size := by simp; omega
  have X1 := Lib.hid (show OAt (w.alloc (.cells #[.int .u8 (2 : Nat), .int .u32 page, .int .i64 (a : Nat), .int .i64 (f : Nat), .string ⟨text.toArray⟩, .slice A m cq, .int .u8 pk, .int .u8 lv, .int .u32 nx] 40)) w.heap.size ⟨2, page, a, f, text, orows, pk, lv, nx⟩ (.slice A m cq) from heap_alloc_new w _)
  have HR := Lib.hid hR
  obtain ⟨b, cp, hv, hcp1, hcp2, _⟩ := own_form ho
  obtain ⟨n, hn2⟩ : ∃ n, n = rows.length := ⟨_, rfl⟩
  rw [← hn2] at hv hcp1 hn O1
  subst hv
  have HN := Lib.hid hn2
  have ha8 : a ≤ 488 := by omega
  have hf8 : f ≤ 488 := by omega
  have AK := Lib.hid fun (q : Nat → Prop) => OthersKept.of_below (p := q) AB.out
  clear hR hbx ho hn2 hm2 hm hat hoff
  unfold odV
  go_enter Tryz.func62, Tryz.ntmps62
  go_upto_region 1 with fail
  generalize w.alloc (.cells #[.int .u8 (2 : Nat), .int .u32 page, .int .i64 (a : Nat), .int .i64 (f : Nat), .string ⟨text.toArray⟩, .slice A m cq, .int .u8 pk, .int .u8 lv, .int .u32 nx] 40) = w1 at *
  obtain ⟨x0, x1, x2, x3, x4, x5, x6, x7, x8⟩ := X1.out.cells
  obtain ⟨_, p0, p1, p2, p3, p4, p5⟩ := B1.out.cells
  obtain ⟨f0, f1, f2, f3, f4, f5⟩ := B1.out.fr
  simp only at x0 x1 x2 x3 x4 x5 x6 x7 x8
  by_cases hc : a ≤ n
  · have hci : ¬ (n : Int) < (a : Int) := by omega
    have HRR : Hid (R = (Pg.with ⟨kind, level, id, lsn, next, rows⟩ (putRows rows a text false), 0)) := by show _ = _; rw [HR.out, if_pos (by rw [← HN.out]; omega)]
    go_region
    go_upto_region 3 with fail
    have A2 : Hid (Below w1.heap.size w1 (w1.alloc (.cells #[.string ⟨text.toArray⟩] 9)).drew.drew) := Lib.hid (((alloc_below w1 (.cells #[.string ⟨text.toArray⟩] 9)).drew).drew)
    have B2 := Lib.hid (B1.out.below A2.out)
    have O2 := Lib.hid (own_below O1.out A2.out)
    have hs2 : base ≤ ((w1.alloc (.cells #[.string ⟨text.toArray⟩] 9)).drew.drew).heap.size := Nat.le_trans (by omega) A2.out.size
    have CR := Lib.hid (insText_any (.slice b n cp) rows text base a w1.heap.size _ (by rw [← HN.out]; exact O2.out) (show (w1.alloc (.cells #[.string ⟨text.toArray⟩] 9)).drew.drew.heap[w1.heap.size]? = _ from heap_alloc_new w1 _) (fun j hj => by have := (O1.out.lt j hj).2; omega) (by rw [← HN.out]; exact hc) (by rw [← HN.out]; omega) hs2)
    go_region_law (go_simp; go_wp2_with (go_at_call 63; refine CR.out.mono ?_; rintro e w3 ⟨v', rfl, ho3, hg3⟩; have B3 := Lib.hid (B2.out.grown hg3 (fun h => by have := own_ge9 O2.out _ h.symm; omega)); have O3 : Hid (w3.ownsRow base 9 1 v' (putRows rows a text false).length (strs (putRows rows a text false))) := (by show World.ownsRow _ _ _ _ _ _ _; rw [show (putRows rows a text false).length = rows.length + 1 by (have := HN.out; simp [putRows]; omega)]; exact ho3); have K3 := Lib.hid (((AK.out (fun x => x = gp ∨ base ≤ x)).then_below A2.out).trans (grown_kept (p := fun x => x = gp ∨ base ≤ x) O2.out hg3 (fun k hk => .inr hk)) (fun _ _ h => h)); obtain ⟨b3, c3, hv3, _, _, _⟩ := own_form O3.out; obtain ⟨m3, hm3⟩ : ∃ m, m = (putRows rows a text false).length := ⟨_, rfl⟩; rw [← hm3] at hv3; have HM3 := Lib.hid hm3; clear hm3; subst hv3; have p5 := B3.out.cells.2.2.2.2.2.2; have f5 := B3.out.fr.2.2.2.2.2; have hgl3 := B3.out.lt; clear ho3 hg3))
    all_goals
      have B4 := Lib.hid (B3.out.set5 (.slice b3 m3 c3))
      have O4 := Lib.hid (own_set_far (g := gp) (i := 5) (u := .slice b3 m3 c3) O3.out (fun j hj => pbox_apart B3.out O3.out j hj))
      have K4 := Lib.hid (K3.out.trans (one_kept w3 gp 5 (.slice b3 m3 c3)) (fun k _ h => .inl h))
      have HR2 : Hid (R = (Pg.with ⟨kind, level, id, lsn, next, rows⟩ (putRows rows a text false), 0)) := HRR.out
      go_wp2_with fail
      go_ret
      refine ⟨by rw [HR2.out]; rfl, fun _ => ?_, K4.out⟩
      rw [HR2.out]
      exact ⟨_, B4.out, O4.out⟩
  · have hci : (n : Int) < (a : Int) := by omega
    have HR3 : Hid (R = (⟨kind, level, id, lsn, next, rows⟩, 3)) := by show _ = _; rw [HR.out, if_neg (by rw [← HN.out]; omega)]
    have K4 := Lib.hid (kept_drew (AK.out (fun x => x = gp ∨ base ≤ x)))
    go_region
    all_goals (go_wp2_with fail)
    (try simp only [Exit.inBlock, Exit.then]); refine bodyPost_ret (results_tmp rfl _ _ _) rfl ?_
    exact ⟨by rw [HR3.out]; rfl, fun h => (by rw [HR3.out] at h; cases h), K4.out⟩
set_option maxHeartbeats 2000000 in
set_option maxRecDepth 100000 in
theorem does5_any (w : World) (base gp : Nat) (P : Pg) (o : Od) (sv : Value) (hp : PRow w base gp P) (ht : TextsAt w sv o.rows) (hb : base ≤ w.heap.size) (hgp : gp < base) (hm : o.may = true) (hk : o.kind = 4) (hn : P.rows.length ≤ 900000) (hin : o.at_.toNat < P.rows.length) :
    Calls Tryz.prog 65 #[.pointer (some ⟨gp, 0, none⟩), odV o sv] w (DoesPost w base gp (doB P o)) := by
  obtain ⟨_, hpg, hnx, hpk, hat, hoff, hrl, hll⟩ := may_bounds hm
  obtain ⟨kind, level, id, lsn, next, rows⟩ := P
  obtain ⟨ok, page, oat, ooff, text, orows, pk, lv, nx⟩ := o
  obtain ⟨v, hbx, ho⟩ := hp
  simp only at hbx ho hn hpg hnx hpk hat hoff hrl hll hk ht
  obtain ⟨a, rfl⟩ : ∃ a : Nat, oat = a := ⟨oat.toNat, by omega⟩
  obtain ⟨f, rfl⟩ : ∃ f : Nat, ooff = f := ⟨ooff.toNat, by omega⟩
  subst hk
  have HTX := Lib.hid ht
  obtain ⟨A, cq, rfl, _⟩ := ht
  obtain ⟨m, hm2⟩ : ∃ m, m = orows.length := ⟨_, rfl⟩
  rw [← hm2] at HTX hrl ⊢
  have HM := Lib.hid hm2
  obtain ⟨R, hR⟩ : ∃ R, R = doB ⟨kind, level, id, lsn, next, rows⟩ ⟨4, page, a, f, text, orows, pk, lv, nx⟩ := ⟨_, rfl⟩
  rw [← hR]
  simp only [doB, Int.toNat_natCast] at hR
  have AB := Lib.hid (alloc_below w (.cells #[.int .u8 (4 : Nat), .int .u32 page, .int .i64 (a : Nat), .int .i64 (f : Nat), .string ⟨text.toArray⟩, .slice A m cq, .int .u8 pk, .int .u8 lv, .int .u32 nx] 40))
  have B1 := Lib.hid (hbx.below AB.out)
  have O1 := Lib.hid (own_below ho AB.out)
  have hs1 : w.heap.size < (w.alloc (.cells #[.int .u8 (4 : Nat), .int .u32 page, .int .i64 (a : Nat), .int .i64 (f : Nat), .string ⟨text.toArray⟩, .slice A m cq, .int .u8 pk, .int .u8 lv, .int .u32 nx] 40)).heap.size := by simp
  have hgl : gp < (w.alloc (.cells #[.int .u8 (4 : Nat), .int .u32 page, .int .i64 (a : Nat), .int .i64 (f : Nat), .string ⟨text.toArray⟩, .slice A m cq, .int .u8 pk, .int .u8 lv, .int .u32 nx] 40)).heap.size := by simp; omega
  have X1 := Lib.hid (show OAt (w.alloc (.cells #[.int .u8 (4 : Nat), .int .u32 page, .int .i64 (a : Nat), .int .i64 (f : Nat), .string ⟨text.toArray⟩, .slice A m cq, .int .u8 pk, .int .u8 lv, .int .u32 nx] 40)) w.heap.size ⟨4, page, a, f, text, orows, pk, lv, nx⟩ (.slice A m cq) from heap_alloc_new w _)
  have HR := Lib.hid hR
  obtain ⟨b, cp, hv, hcp1, hcp2, _⟩ := own_form ho
  obtain ⟨n, hn2⟩ : ∃ n, n = rows.length := ⟨_, rfl⟩
  rw [← hn2] at hv hcp1 hn O1
  subst hv
  have HN := Lib.hid hn2
  have ha8 : a ≤ 488 := by omega
  have hf8 : f ≤ 488 := by omega
  have AK := Lib.hid fun (q : Nat → Prop) => OthersKept.of_below (p := q) AB.out
  clear hR hbx ho hn2 hm2 hm hat hoff
  unfold odV
  go_enter Tryz.func65, Tryz.ntmps65
  go_upto_region 1 with fail
  generalize w.alloc (.cells #[.int .u8 (4 : Nat), .int .u32 page, .int .i64 (a : Nat), .int .i64 (f : Nat), .string ⟨text.toArray⟩, .slice A m cq, .int .u8 pk, .int .u8 lv, .int .u32 nx] 40) = w1 at *
  obtain ⟨x0, x1, x2, x3, x4, x5, x6, x7, x8⟩ := X1.out.cells
  obtain ⟨_, p0, p1, p2, p3, p4, p5⟩ := B1.out.cells
  obtain ⟨f0, f1, f2, f3, f4, f5⟩ := B1.out.fr
  simp only at x0 x1 x2 x3 x4 x5 x6 x7 x8
  simp only [Int.toNat_natCast] at hin
  rw [← HN.out] at hin
  have wa : IntKind.i64.wrap ((a : Int) + 1) = (a : Int) + 1 := IntWalk.i64_in _ ⟨by omega, by omega⟩
  have HRR : Hid (R = (Pg.with ⟨kind, level, id, lsn, next, rows⟩ (rows.take a ++ rows.drop (a + 1)), 0)) := by show _ = _; rw [HR.out, if_pos (by rw [← HN.out]; omega)]
  have A2 : Hid (Below w1.heap.size w1 w1.drew) := Lib.hid (((Below.refl w1.heap.size w1).drew))
  have B2 := Lib.hid (B1.out.below A2.out)
  have O2 := Lib.hid (own_below O1.out A2.out)
  have hs2 : base ≤ (w1.drew).heap.size := Nat.le_trans (by omega) A2.out.size
  have CR := Lib.hid (delText_any (.slice b n cp) rows base a _ (by rw [← HN.out]; exact O2.out) (by rw [← HN.out]; exact hin) (by rw [← HN.out]; omega) hs2)
  go_region_law (go_simp; go_wp2_with (go_at_call 66; refine CR.out.mono ?_; rintro e w3 ⟨v', rfl, ho3, hg3⟩; have B3 := Lib.hid (B2.out.grown hg3 (fun h => by have := own_ge9 O2.out _ h.symm; omega)); have O3 : Hid (w3.ownsRow base 9 1 v' (rows.take a ++ rows.drop (a + 1)).length (strs (rows.take a ++ rows.drop (a + 1)))) := (by show World.ownsRow _ _ _ _ _ _ _; rw [show (rows.take a ++ rows.drop (a + 1)).length = rows.length - 1 by (have := HN.out; simp [putRows]; omega)]; exact ho3); have K3 := Lib.hid (((AK.out (fun x => x = gp ∨ base ≤ x)).then_below A2.out).trans (grown_kept (p := fun x => x = gp ∨ base ≤ x) O2.out hg3 (fun k hk => .inr hk)) (fun _ _ h => h)); obtain ⟨b3, c3, hv3, _, _, _⟩ := own_form O3.out; obtain ⟨m3, hm3⟩ : ∃ m, m = (rows.take a ++ rows.drop (a + 1)).length := ⟨_, rfl⟩; rw [← hm3] at hv3; have HM3 := Lib.hid hm3; clear hm3; subst hv3; have p5 := B3.out.cells.2.2.2.2.2.2; have f5 := B3.out.fr.2.2.2.2.2; have hgl3 := B3.out.lt; clear ho3 hg3))
  all_goals
    have B4 := Lib.hid (B3.out.set5 (.slice b3 m3 c3))
    have O4 := Lib.hid (own_set_far (g := gp) (i := 5) (u := .slice b3 m3 c3) O3.out (fun j hj => pbox_apart B3.out O3.out j hj))
    have K4 := Lib.hid (K3.out.trans (one_kept w3 gp 5 (.slice b3 m3 c3)) (fun k _ h => .inl h))
    have HR2 : Hid (R = (Pg.with ⟨kind, level, id, lsn, next, rows⟩ (rows.take a ++ rows.drop (a + 1)), 0)) := HRR.out
    go_wp2_with fail
    go_ret
    refine ⟨by rw [HR2.out]; rfl, fun _ => ?_, K4.out⟩
    rw [HR2.out]
    exact ⟨_, B4.out, O4.out⟩
set_option maxHeartbeats 2000000 in
set_option maxRecDepth 100000 in
theorem does4_any (w : World) (base gp : Nat) (P : Pg) (o : Od) (sv : Value) (hp : PRow w base gp P) (ht : TextsAt w sv o.rows) (hb : base ≤ w.heap.size) (hgp : gp < base) (hm : o.may = true) (hk : o.kind = 3) (hn : P.rows.length ≤ 900000) (hin : o.at_.toNat < P.rows.length) :
    Calls Tryz.prog 64 #[.pointer (some ⟨gp, 0, none⟩), odV o sv] w (DoesPost w base gp (doB P o)) := by
  obtain ⟨_, hpg, hnx, hpk, hat, hoff, hrl, hll⟩ := may_bounds hm
  obtain ⟨kind, level, id, lsn, next, rows⟩ := P
  obtain ⟨ok, page, oat, ooff, text, orows, pk, lv, nx⟩ := o
  obtain ⟨v, hbx, ho⟩ := hp
  simp only at hbx ho hn hpg hnx hpk hat hoff hrl hll hk ht
  obtain ⟨a, rfl⟩ : ∃ a : Nat, oat = a := ⟨oat.toNat, by omega⟩
  obtain ⟨f, rfl⟩ : ∃ f : Nat, ooff = f := ⟨ooff.toNat, by omega⟩
  subst hk
  have HTX := Lib.hid ht
  obtain ⟨A, cq, rfl, _⟩ := ht
  obtain ⟨m, hm2⟩ : ∃ m, m = orows.length := ⟨_, rfl⟩
  rw [← hm2] at HTX hrl ⊢
  have HM := Lib.hid hm2
  obtain ⟨R, hR⟩ : ∃ R, R = doB ⟨kind, level, id, lsn, next, rows⟩ ⟨3, page, a, f, text, orows, pk, lv, nx⟩ := ⟨_, rfl⟩
  rw [← hR]
  simp only [doB, Int.toNat_natCast] at hR
  have AB := Lib.hid (alloc_below w (.cells #[.int .u8 (3 : Nat), .int .u32 page, .int .i64 (a : Nat), .int .i64 (f : Nat), .string ⟨text.toArray⟩, .slice A m cq, .int .u8 pk, .int .u8 lv, .int .u32 nx] 40))
  have B1 := Lib.hid (hbx.below AB.out)
  have O1 := Lib.hid (own_below ho AB.out)
  have hs1 : w.heap.size < (w.alloc (.cells #[.int .u8 (3 : Nat), .int .u32 page, .int .i64 (a : Nat), .int .i64 (f : Nat), .string ⟨text.toArray⟩, .slice A m cq, .int .u8 pk, .int .u8 lv, .int .u32 nx] 40)).heap.size := by simp
  have hgl : gp < (w.alloc (.cells #[.int .u8 (3 : Nat), .int .u32 page, .int .i64 (a : Nat), .int .i64 (f : Nat), .string ⟨text.toArray⟩, .slice A m cq, .int .u8 pk, .int .u8 lv, .int .u32 nx] 40)).heap.size := by simp; omega
  have X1 := Lib.hid (show OAt (w.alloc (.cells #[.int .u8 (3 : Nat), .int .u32 page, .int .i64 (a : Nat), .int .i64 (f : Nat), .string ⟨text.toArray⟩, .slice A m cq, .int .u8 pk, .int .u8 lv, .int .u32 nx] 40)) w.heap.size ⟨3, page, a, f, text, orows, pk, lv, nx⟩ (.slice A m cq) from heap_alloc_new w _)
  have HR := Lib.hid hR
  obtain ⟨b, cp, hv, hcp1, hcp2, _⟩ := own_form ho
  obtain ⟨n, hn2⟩ : ∃ n, n = rows.length := ⟨_, rfl⟩
  rw [← hn2] at hv hcp1 hn O1
  subst hv
  have HN := Lib.hid hn2
  have ha8 : a ≤ 488 := by omega
  have hf8 : f ≤ 488 := by omega
  have AK := Lib.hid fun (q : Nat → Prop) => OthersKept.of_below (p := q) AB.out
  clear hR hbx ho hn2 hm2 hm hat hoff
  unfold odV
  go_enter Tryz.func64, Tryz.ntmps64
  go_upto_region 1 with fail
  generalize w.alloc (.cells #[.int .u8 (3 : Nat), .int .u32 page, .int .i64 (a : Nat), .int .i64 (f : Nat), .string ⟨text.toArray⟩, .slice A m cq, .int .u8 pk, .int .u8 lv, .int .u32 nx] 40) = w1 at *
  obtain ⟨x0, x1, x2, x3, x4, x5, x6, x7, x8⟩ := X1.out.cells
  obtain ⟨_, p0, p1, p2, p3, p4, p5⟩ := B1.out.cells
  obtain ⟨f0, f1, f2, f3, f4, f5⟩ := B1.out.fr
  simp only at x0 x1 x2 x3 x4 x5 x6 x7 x8
  simp only [Int.toNat_natCast] at hin
  rw [← HN.out] at hin
  obtain ⟨g, hbg, hgb⟩ : ∃ g, b = some ⟨g, 0, none⟩ ∧ base ≤ g := by
    obtain ⟨b', c', h1, _, _, h2⟩ := own_form O1.out
    injection h1 with h1 _ _
    subst h1
    exact h2 (by omega)
  subst hbg
  have hrl2 : a < rows.length := by rw [← HN.out]; exact hin
  have hcell : w1.cell? ⟨g, a, none⟩ = some (.string ⟨rows[a].toArray⟩) := own_cell O1.out a _ (strs_get rows a hrl2)
  have hgp2 : g ≠ gp := by omega
  obtain ⟨cur, hcur, _, hc1, hc2, hc3, _, _⟩ := own_cur O1.out
  have hfr := blk_frozen hcur a
  have hglt : g < w1.heap.size := blk_lt hcur
  have j0 : (0 : Int) ≤ (a : Int) := by omega
  have j1 : (a : Int) < (n : Int) := by omega
  clear hcur
  have HRR : Hid (R = (Pg.with ⟨kind, level, id, lsn, next, rows⟩ (putRows rows a text true), 0)) := by show _ = _; rw [HR.out, if_pos (by rw [← HN.out]; omega)]
  have O4 := Lib.hid (own_below (own_set_cell (x := text) O1.out (by rw [← HN.out]; exact hin)) ((Below.refl _ _).drew))
  have B4 := Lib.hid (show PgBox (w1.setCell ⟨g, a, none⟩ (.string ⟨text.toArray⟩)).drew gp kind level id lsn next (.slice (some ⟨g, 0, none⟩) n cp) from set_keep B1.out (fun e => hgp2 e.symm))
  have K4 := Lib.hid (kept_drew ((AK.out (fun x => x = gp ∨ base ≤ x)).trans (one_kept w1 g a (.string ⟨text.toArray⟩)) (fun k _ h => .inr (by omega))))
  have hpl : Hid ((putRows rows a text true).length = n) := by show _ = _; unfold putRows; have := HN.out; simp; omega
  go_region
  go_wp2_with fail
  go_ret
  refine ⟨by rw [HRR.out]; rfl, fun _ => ?_, K4.out⟩
  rw [HRR.out]
  exact ⟨_, B4.out, by show World.ownsRow _ _ _ _ _ (putRows rows a text true).length _; rw [hpl.out]; exact O4.out⟩
set_option maxHeartbeats 2000000 in
set_option maxRecDepth 100000 in
theorem does6_any (w : World) (base gp : Nat) (P : Pg) (o : Od) (sv : Value) (hp : PRow w base gp P) (ht : TextsAt w sv o.rows) (hb : base ≤ w.heap.size) (hgp : gp < base) (hm : o.may = true) (hk : o.kind = 5) (hn : P.rows.length ≤ 900000) :
    Calls Tryz.prog 67 #[.pointer (some ⟨gp, 0, none⟩), odV o sv] w (DoesPost w base gp (doB P o)) := by
  obtain ⟨_, hpg, hnx, hpk, hat, hoff, hrl, hll⟩ := may_bounds hm
  obtain ⟨kind, level, id, lsn, next, rows⟩ := P
  obtain ⟨ok, page, oat, ooff, text, orows, pk, lv, nx⟩ := o
  obtain ⟨v, hbx, ho⟩ := hp
  simp only at hbx ho hn hpg hnx hpk hat hoff hrl hll hk ht
  obtain ⟨a, rfl⟩ : ∃ a : Nat, oat = a := ⟨oat.toNat, by omega⟩
  obtain ⟨f, rfl⟩ : ∃ f : Nat, ooff = f := ⟨ooff.toNat, by omega⟩
  subst hk
  have HTX := Lib.hid ht
  obtain ⟨A, cq, rfl, _⟩ := ht
  obtain ⟨m, hm2⟩ : ∃ m, m = orows.length := ⟨_, rfl⟩
  rw [← hm2] at HTX hrl ⊢
  have HM := Lib.hid hm2
  obtain ⟨R, hR⟩ : ∃ R, R = doB ⟨kind, level, id, lsn, next, rows⟩ ⟨5, page, a, f, text, orows, pk, lv, nx⟩ := ⟨_, rfl⟩
  rw [← hR]
  simp only [doB, Int.toNat_natCast] at hR
  have AB := Lib.hid (alloc_below w (.cells #[.int .u8 (5 : Nat), .int .u32 page, .int .i64 (a : Nat), .int .i64 (f : Nat), .string ⟨text.toArray⟩, .slice A m cq, .int .u8 pk, .int .u8 lv, .int .u32 nx] 40))
  have B1 := Lib.hid (hbx.below AB.out)
  have O1 := Lib.hid (own_below ho AB.out)
  have hs1 : w.heap.size < (w.alloc (.cells #[.int .u8 (5 : Nat), .int .u32 page, .int .i64 (a : Nat), .int .i64 (f : Nat), .string ⟨text.toArray⟩, .slice A m cq, .int .u8 pk, .int .u8 lv, .int .u32 nx] 40)).heap.size := by simp
  have hgl : gp < (w.alloc (.cells #[.int .u8 (5 : Nat), .int .u32 page, .int .i64 (a : Nat), .int .i64 (f : Nat), .string ⟨text.toArray⟩, .slice A m cq, .int .u8 pk, .int .u8 lv, .int .u32 nx] 40)).heap.size := by simp; omega
  have X1 := Lib.hid (show OAt (w.alloc (.cells #[.int .u8 (5 : Nat), .int .u32 page, .int .i64 (a : Nat), .int .i64 (f : Nat), .string ⟨text.toArray⟩, .slice A m cq, .int .u8 pk, .int .u8 lv, .int .u32 nx] 40)) w.heap.size ⟨5, page, a, f, text, orows, pk, lv, nx⟩ (.slice A m cq) from heap_alloc_new w _)
  have HR := Lib.hid hR
  obtain ⟨b, cp, hv, hcp1, hcp2, _⟩ := own_form ho
  obtain ⟨n, hn2⟩ : ∃ n, n = rows.length := ⟨_, rfl⟩
  rw [← hn2] at hv hcp1 hn O1
  subst hv
  have HN := Lib.hid hn2
  have ha8 : a ≤ 488 := by omega
  have hf8 : f ≤ 488 := by omega
  have AK := Lib.hid fun (q : Nat → Prop) => OthersKept.of_below (p := q) AB.out
  clear hR hbx ho hn2 hm2 hm hat hoff
  unfold odV
  go_enter Tryz.func67, Tryz.ntmps67
  go_upto_region 1 with fail
  generalize w.alloc (.cells #[.int .u8 (5 : Nat), .int .u32 page, .int .i64 (a : Nat), .int .i64 (f : Nat), .string ⟨text.toArray⟩, .slice A m cq, .int .u8 pk, .int .u8 lv, .int .u32 nx] 40) = w1 at *
  obtain ⟨x0, x1, x2, x3, x4, x5, x6, x7, x8⟩ := X1.out.cells
  obtain ⟨_, p0, p1, p2, p3, p4, p5⟩ := B1.out.cells
  obtain ⟨f0, f1, f2, f3, f4, f5⟩ := B1.out.fr
  simp only at x0 x1 x2 x3 x4 x5 x6 x7 x8
  by_cases hc : a ≤ n
  · have hci : ¬ (n : Int) < (a : Int) := by omega
    have HRR : Hid (R = (Pg.with ⟨kind, level, id, lsn, next, rows⟩ (rows.take a), 0)) := by show _ = _; rw [HR.out, if_pos (by rw [← HN.out]; omega)]
    have O3 := own_take (k := a) O1.out hc
    have O4 := Lib.hid (own_below (own_set_far (g := gp) (i := 5) (u := .slice b a cp) O3 (fun j hj => pbox_apart B1.out O3 j hj)) (((Below.refl _ _).drew).drew))
    have B4 := Lib.hid (show PgBox (w1.setCell ⟨gp, 5, none⟩ (.slice b a cp)).drew.drew gp kind level id lsn next (.slice b a cp) from B1.out.set5 (.slice b a cp))
    have K4 := Lib.hid (kept_drew (kept_drew ((AK.out (fun x => x = gp ∨ base ≤ x)).trans (one_kept w1 gp 5 (.slice b a cp)) (fun k _ h => .inl h))))
    have hpl : Hid ((rows.take a).length = a) := by show _ = _; have := HN.out; rw [List.length_take]; omega
    have j0 : (0 : Int) ≤ (a : Int) := by omega
    have j1 : (a : Int) ≤ (n : Int) := by omega
    have j2 : (a : Int) ≤ (cp : Int) := by omega
    clear O3
    go_region
    go_upto_region 3 with fail
    go_region
    go_wp2_with fail
    go_ret
    refine ⟨by rw [HRR.out]; rfl, fun _ => ?_, K4.out⟩
    rw [HRR.out]
    exact ⟨_, B4.out, by show World.ownsRow _ _ _ _ _ (rows.take a).length _; rw [hpl.out]; exact O4.out⟩
  · have hci : (n : Int) < (a : Int) := by omega
    have HR3 : Hid (R = (⟨kind, level, id, lsn, next, rows⟩, 3)) := by show _ = _; rw [HR.out, if_neg (by rw [← HN.out]; omega)]
    have K4 := Lib.hid (kept_drew (AK.out (fun x => x = gp ∨ base ≤ x)))
    go_region
    all_goals (go_wp2_with fail)
    (try simp only [Exit.inBlock, Exit.then]); refine bodyPost_ret (results_tmp rfl _ _ _) rfl ?_
    exact ⟨by rw [HR3.out]; rfl, fun h => (by rw [HR3.out] at h; cases h), K4.out⟩
set_option maxHeartbeats 2000000 in
set_option maxRecDepth 100000 in
theorem does7_any (w : World) (base gp : Nat) (P : Pg) (o : Od) (sv : Value) (hp : PRow w base gp P) (ht : TextsAt w sv o.rows) (hb : base ≤ w.heap.size) (hgp : gp < base) (hm : o.may = true) (hk : o.kind = 6) (hn : P.rows.length ≤ 900000) :
    Calls Tryz.prog 68 #[.pointer (some ⟨gp, 0, none⟩), odV o sv] w (DoesPost w base gp (doB P o)) := by
  obtain ⟨_, hpg, hnx, hpk, hat, hoff, hrl, hll⟩ := may_bounds hm
  obtain ⟨kind, level, id, lsn, next, rows⟩ := P
  obtain ⟨ok, page, oat, ooff, text, orows, pk, lv, nx⟩ := o
  obtain ⟨v, hbx, ho⟩ := hp
  simp only at hbx ho hn hpg hnx hpk hat hoff hrl hll hk ht
  obtain ⟨a, rfl⟩ : ∃ a : Nat, oat = a := ⟨oat.toNat, by omega⟩
  obtain ⟨f, rfl⟩ : ∃ f : Nat, ooff = f := ⟨ooff.toNat, by omega⟩
  subst hk
  have HTX := Lib.hid ht
  obtain ⟨A, cq, rfl, _⟩ := ht
  obtain ⟨m, hm2⟩ : ∃ m, m = orows.length := ⟨_, rfl⟩
  rw [← hm2] at HTX hrl ⊢
  have HM := Lib.hid hm2
  obtain ⟨R, hR⟩ : ∃ R, R = doB ⟨kind, level, id, lsn, next, rows⟩ ⟨6, page, a, f, text, orows, pk, lv, nx⟩ := ⟨_, rfl⟩
  rw [← hR]
  simp only [doB, Int.toNat_natCast] at hR
  have AB := Lib.hid (alloc_below w (.cells #[.int .u8 (6 : Nat), .int .u32 page, .int .i64 (a : Nat), .int .i64 (f : Nat), .string ⟨text.toArray⟩, .slice A m cq, .int .u8 pk, .int .u8 lv, .int .u32 nx] 40))
  have B1 := Lib.hid (hbx.below AB.out)
  have O1 := Lib.hid (own_below ho AB.out)
  have hs1 : w.heap.size < (w.alloc (.cells #[.int .u8 (6 : Nat), .int .u32 page, .int .i64 (a : Nat), .int .i64 (f : Nat), .string ⟨text.toArray⟩, .slice A m cq, .int .u8 pk, .int .u8 lv, .int .u32 nx] 40)).heap.size := by simp
  have hgl : gp < (w.alloc (.cells #[.int .u8 (6 : Nat), .int .u32 page, .int .i64 (a : Nat), .int .i64 (f : Nat), .string ⟨text.toArray⟩, .slice A m cq, .int .u8 pk, .int .u8 lv, .int .u32 nx] 40)).heap.size := by simp; omega
  have X1 := Lib.hid (show OAt (w.alloc (.cells #[.int .u8 (6 : Nat), .int .u32 page, .int .i64 (a : Nat), .int .i64 (f : Nat), .string ⟨text.toArray⟩, .slice A m cq, .int .u8 pk, .int .u8 lv, .int .u32 nx] 40)) w.heap.size ⟨6, page, a, f, text, orows, pk, lv, nx⟩ (.slice A m cq) from heap_alloc_new w _)
  have HR := Lib.hid hR
  obtain ⟨b, cp, hv, hcp1, hcp2, _⟩ := own_form ho
  obtain ⟨n, hn2⟩ : ∃ n, n = rows.length := ⟨_, rfl⟩
  rw [← hn2] at hv hcp1 hn O1
  subst hv
  have HN := Lib.hid hn2
  have ha8 : a ≤ 488 := by omega
  have hf8 : f ≤ 488 := by omega
  have AK := Lib.hid fun (q : Nat → Prop) => OthersKept.of_below (p := q) AB.out
  clear hR hbx ho hn2 hm2 hm hat hoff
  unfold odV
  go_enter Tryz.func68, Tryz.ntmps68
  go_upto_region 1 with fail
  generalize w.alloc (.cells #[.int .u8 (6 : Nat), .int .u32 page, .int .i64 (a : Nat), .int .i64 (f : Nat), .string ⟨text.toArray⟩, .slice A m cq, .int .u8 pk, .int .u8 lv, .int .u32 nx] 40) = w1 at *
  obtain ⟨x0, x1, x2, x3, x4, x5, x6, x7, x8⟩ := X1.out.cells
  obtain ⟨_, p0, p1, p2, p3, p4, p5⟩ := B1.out.cells
  obtain ⟨f0, f1, f2, f3, f4, f5⟩ := B1.out.fr
  simp only at x0 x1 x2 x3 x4 x5 x6 x7 x8
  obtain ⟨i0, hi, hz0, hz1, hz2⟩ := info_parts Tryz.infoStrM
  have HI := Lib.hid hi
  have HI0 := Lib.hid hz0
  have HI1 := Lib.hid hz1
  have HI2 := Lib.hid hz2
  clear hi hz0 hz1 hz2
  have A2 : Hid (Below w1.heap.size w1 w1.drew) := Lib.hid ((Below.refl w1.heap.size w1).drew)
  have B2 := Lib.hid (B1.out.below A2.out)
  have O2 := Lib.hid (own_below O1.out A2.out)
  have hs2 : base ≤ w1.drew.heap.size := Nat.le_trans (by omega) A2.out.size
  have HRD : Hid (Reads w1.drew (.slice A m cq) m 1 (strs orows)) := by
    have h := ((HTX.out.below AB.out).below A2.out).reads
    rw [← HM.out] at h
    exact h
  go_region_law (refine step_append_any _ rfl (.tmp 9) (.tmp 11) 24 rfl base 9 i0 (.string ⟨#[]⟩) 1 16 Tryz.underlying24 HI.out HI0.out HI1.out HI2.out rfl (by decide) (.slice b n cp) n (strs rows) (by rfl) O2.out (.slice A m cq) m (strs orows) (by rfl) HRD.out (strs_oneCell _) (by unfold maxLen; omega) (by omega) hs2 ?_; intro v' w3 ho3 hg3; have B3 := Lib.hid (B2.out.grown hg3 (fun h => by have := own_ge9 O2.out _ h.symm; omega)); have O3 : Hid (w3.ownsRow base 9 1 v' (rows ++ orows).length (strs (rows ++ orows))) := (by show World.ownsRow _ _ _ _ _ _ _; rw [show (rows ++ orows).length = n + m by (rw [List.length_append, HN.out, HM.out]), strs_append]; exact ho3); have K3 := Lib.hid (((AK.out (fun x => x = gp ∨ base ≤ x)).then_below A2.out).trans (grown_kept (p := fun x => x = gp ∨ base ≤ x) O2.out hg3 (fun k hk => .inr hk)) (fun _ _ h => h)); obtain ⟨b3, c3, hv3, _, _, _⟩ := own_form O3.out; obtain ⟨m3, hm3⟩ : ∃ m, m = (rows ++ orows).length := ⟨_, rfl⟩; rw [← hm3] at hv3; have HM3 := Lib.hid hm3; clear hm3; subst hv3; have p5 := B3.out.cells.2.2.2.2.2.2; have f5 := B3.out.fr.2.2.2.2.2; have hgl3 := B3.out.lt; clear ho3 hg3)
  all_goals
    have B4 := Lib.hid (B3.out.set5 (.slice b3 m3 c3))
    have O4 := Lib.hid (own_set_far (g := gp) (i := 5) (u := .slice b3 m3 c3) O3.out (fun j hj => pbox_apart B3.out O3.out j hj))
    have K4 := Lib.hid (K3.out.trans (one_kept w3 gp 5 (.slice b3 m3 c3)) (fun k _ h => .inl h))
    go_wp2_with fail
    go_ret
    refine ⟨by rw [HR.out]; rfl, fun _ => ?_, K4.out⟩
    rw [HR.out]
    exact ⟨_, B4.out, O4.out⟩
set_option maxHeartbeats 2000000 in
set_option maxRecDepth 100000 in
theorem does9_any (w : World) (base gp : Nat) (P : Pg) (o : Od) (sv : Value) (hp : PRow w base gp P) (ht : TextsAt w sv o.rows) (hb : base ≤ w.heap.size) (hgp : gp < base) (hm : o.may = true) (hk : o.kind = 8) (hn : P.rows.length ≤ 900000) (hin : o.at_.toNat < P.rows.length) (hrs : ∀ r ∈ P.rows, r.length ≤ 900000) :
    Calls Tryz.prog 70 #[.pointer (some ⟨gp, 0, none⟩), odV o sv] w (DoesPost w base gp (doB P o)) := by
  obtain ⟨_, hpg, hnx, hpk, hat, hoff, hrl, hll⟩ := may_bounds hm
  obtain ⟨kind, level, id, lsn, next, rows⟩ := P
  obtain ⟨ok, page, oat, ooff, text, orows, pk, lv, nx⟩ := o
  obtain ⟨v, hbx, ho⟩ := hp
  simp only at hbx ho hn hpg hnx hpk hat hoff hrl hll hk ht
  obtain ⟨a, rfl⟩ : ∃ a : Nat, oat = a := ⟨oat.toNat, by omega⟩
  obtain ⟨f, rfl⟩ : ∃ f : Nat, ooff = f := ⟨ooff.toNat, by omega⟩
  subst hk
  have HTX := Lib.hid ht
  obtain ⟨A, cq, rfl, _⟩ := ht
  obtain ⟨m, hm2⟩ : ∃ m, m = orows.length := ⟨_, rfl⟩
  rw [← hm2] at HTX hrl ⊢
  have HM := Lib.hid hm2
  obtain ⟨R, hR⟩ : ∃ R, R = doB ⟨kind, level, id, lsn, next, rows⟩ ⟨8, page, a, f, text, orows, pk, lv, nx⟩ := ⟨_, rfl⟩
  rw [← hR]
  simp only [doB, Int.toNat_natCast] at hR
  have AB := Lib.hid (alloc_below w (.cells #[.int .u8 (8 : Nat), .int .u32 page, .int .i64 (a : Nat), .int .i64 (f : Nat), .string ⟨text.toArray⟩, .slice A m cq, .int .u8 pk, .int .u8 lv, .int .u32 nx] 40))
  have B1 := Lib.hid (hbx.below AB.out)
  have O1 := Lib.hid (own_below ho AB.out)
  have hs1 : w.heap.size < (w.alloc (.cells #[.int .u8 (8 : Nat), .int .u32 page, .int .i64 (a : Nat), .int .i64 (f : Nat), .string ⟨text.toArray⟩, .slice A m cq, .int .u8 pk, .int .u8 lv, .int .u32 nx] 40)).heap.size := by simp
  have hgl : gp < (w.alloc (.cells #[.int .u8 (8 : Nat), .int .u32 page, .int .i64 (a : Nat), .int .i64 (f : Nat), .string ⟨text.toArray⟩, .slice A m cq, .int .u8 pk, .int .u8 lv, .int .u32 nx] 40)).heap.size := by simp; omega
  have X1 := Lib.hid (show OAt (w.alloc (.cells #[.int .u8 (8 : Nat), .int .u32 page, .int .i64 (a : Nat), .int .i64 (f : Nat), .string ⟨text.toArray⟩, .slice A m cq, .int .u8 pk, .int .u8 lv, .int .u32 nx] 40)) w.heap.size ⟨8, page, a, f, text, orows, pk, lv, nx⟩ (.slice A m cq) from heap_alloc_new w _)
  have HR := Lib.hid hR
  obtain ⟨b, cp, hv, hcp1, hcp2, _⟩ := own_form ho
  obtain ⟨n, hn2⟩ : ∃ n, n = rows.length := ⟨_, rfl⟩
  rw [← hn2] at hv hcp1 hn O1
  subst hv
  have HN := Lib.hid hn2
  have ha8 : a ≤ 488 := by omega
  have hf8 : f ≤ 488 := by omega
  have AK := Lib.hid fun (q : Nat → Prop) => OthersKept.of_below (p := q) AB.out
  clear hR hbx ho hn2 hm2 hm hat hoff
  unfold odV
  go_enter Tryz.func70, Tryz.ntmps70
  go_upto_region 1 with fail
  generalize w.alloc (.cells #[.int .u8 (8 : Nat), .int .u32 page, .int .i64 (a : Nat), .int .i64 (f : Nat), .string ⟨text.toArray⟩, .slice A m cq, .int .u8 pk, .int .u8 lv, .int .u32 nx] 40) = w1 at *
  obtain ⟨x0, x1, x2, x3, x4, x5, x6, x7, x8⟩ := X1.out.cells
  obtain ⟨_, p0, p1, p2, p3, p4, p5⟩ := B1.out.cells
  obtain ⟨f0, f1, f2, f3, f4, f5⟩ := B1.out.fr
  simp only at x0 x1 x2 x3 x4 x5 x6 x7 x8
  simp only [Int.toNat_natCast] at hin
  rw [← HN.out] at hin
  simp only at hrs
  obtain ⟨g, hbg, hgb⟩ : ∃ g, b = some ⟨g, 0, none⟩ ∧ base ≤ g := by
    obtain ⟨b', c', h1, _, _, h2⟩ := own_form O1.out
    injection h1 with h1 _ _
    subst h1
    exact h2 (by omega)
  subst hbg
  have hrl2 : a < rows.length := by rw [← HN.out]; exact hin
  have hcell : w1.cell? ⟨g, a, none⟩ = some (.string ⟨rows[a].toArray⟩) := own_cell O1.out a _ (strs_get rows a hrl2)
  have hgp2 : g ≠ gp := by omega
  obtain ⟨cur, hcur, _, hc1, hc2, hc3, _, _⟩ := own_cur O1.out
  have hfr := blk_frozen hcur a
  have hglt : g < w1.heap.size := blk_lt hcur
  have j0 : (0 : Int) ≤ (a : Int) := by omega
  have j1 : (a : Int) < (n : Int) := by omega
  clear hcur
  have hsr := hrs _ (List.getElem_mem hrl2)
  have SET := Lib.hid fun W => wSet_any rows[a] f text W (by omega) (by omega) (by omega)
  have hgd : rows.getD a [] = rows[a] := by simp [hrl2]
  have HR1 : Hid (R = match setB rows[a] f text with | some r => (Pg.with ⟨kind, level, id, lsn, next, rows⟩ (putRows rows a r true), 0) | none => (⟨kind, level, id, lsn, next, rows⟩, 2)) := by show _ = _; rw [HR.out, if_pos (by rw [← HN.out]; omega), hgd]
  have KC := Lib.hid fun W (hW : Below w1.heap.size w1 W) => (⟨keep_cell hW p5, keep_cell hW x2, keep_cell hW x3, keep_cell hW x4, keep_cell hW hcell⟩ : W.cell? ⟨gp, 5, none⟩ = some (.slice (some ⟨g, 0, none⟩) n cp) ∧ W.cell? ⟨w.heap.size, 2, none⟩ = some (.int .i64 (a : Nat)) ∧ W.cell? ⟨w.heap.size, 3, none⟩ = some (.int .i64 (f : Nat)) ∧ W.cell? ⟨w.heap.size, 4, none⟩ = some (.string ⟨text.toArray⟩) ∧ W.cell? ⟨g, a, none⟩ = some (.string ⟨rows[a].toArray⟩))
  have D1 : Hid (Below w1.heap.size w1 w1.drew) := Lib.hid ((Below.refl _ _).drew)
  clear hrs hgd x0 x1 x2 x3 x4 x5 x6 x7 x8 p0 p1 p2 p3 p4 p5 hcell hfr
  go_region_held3 (fun W => W.cell? ⟨gp, 5, none⟩ = some (.slice (some ⟨g, 0, none⟩) n cp) ∧ W.cell? ⟨w.heap.size, 2, none⟩ = some (.int .i64 (a : Nat)) ∧ W.cell? ⟨w.heap.size, 3, none⟩ = some (.int .i64 (f : Nat)) ∧ W.cell? ⟨w.heap.size, 4, none⟩ = some (.string ⟨text.toArray⟩) ∧ W.cell? ⟨g, a, none⟩ = some (.string ⟨rows[a].toArray⟩))
    (first
      | (with_reducible exact KC.out _ D1.out)
      | (with_reducible exact KC.out _ hb2))
    (first
      | (go_at_call 71; refine (SET.out _).mono ?_; rintro e w2 ⟨rfl, hb0⟩; have hb2 := below_then D1.out hb0; clear hb0))
  obtain ⟨p5, x2, _, _, hcell⟩ := KC.out w2 hb2
  have O2 := Lib.hid (own_below O1.out hb2)
  have B2 := Lib.hid (B1.out.below hb2)
  have K2 := Lib.hid ((AK.out (fun x => x = gp ∨ base ≤ x)).then_below hb2)
  have hgl2 : gp < w2.heap.size := B2.out.lt
  have f5 := B2.out.fr.2.2.2.2.2
  obtain ⟨cur, hcur, _⟩ := own_cur O2.out
  have hfr := blk_frozen hcur a
  have hglt2 : g < w2.heap.size := blk_lt hcur
  clear hcur hb2 KC SET D1
  cases hsb : setB rows[a] f text with
  | none =>
    have HR2 : Hid (R = (⟨kind, level, id, lsn, next, rows⟩, 2)) := by show _ = _; rw [HR1.out, hsb]
    clear HR HR1 hsb
    go_wp2_with fail
    go_ret
    exact ⟨by rw [HR2.out]; rfl, fun h => (by rw [HR2.out] at h; cases h), K2.out⟩
  | some r =>
    have HRR : Hid (R = (Pg.with ⟨kind, level, id, lsn, next, rows⟩ (putRows rows a r true), 0)) := by show _ = _; rw [HR1.out, hsb]
    clear HR HR1 hsb
    have O4 := Lib.hid (own_below (own_set_cell (x := r) O2.out (by rw [← HN.out]; exact hin)) ((Below.refl _ _).drew))
    have B4 := Lib.hid (show PgBox (w2.setCell ⟨g, a, none⟩ (.string ⟨r.toArray⟩)).drew gp kind level id lsn next (.slice (some ⟨g, 0, none⟩) n cp) from set_keep B2.out (fun e => hgp2 e.symm))
    have K4 := Lib.hid (kept_drew (K2.out.trans (one_kept w2 g a (.string ⟨r.toArray⟩)) (fun k _ h => .inr (by omega))))
    have hpl : Hid ((putRows rows a r true).length = n) := by show _ = _; unfold putRows; have := HN.out; simp; omega
    generalize rows[a] = old at *
    go_wp2_with fail
    go_region
    go_wp2_with fail
    go_ret
    refine ⟨by rw [HRR.out]; rfl, fun _ => ?_, K4.out⟩
    rw [HRR.out]
    exact ⟨_, B4.out, by show World.ownsRow _ _ _ _ _ (putRows rows a r true).length _; rw [hpl.out]; exact O4.out⟩
end Go.Proofs.YtienlhnbmobinaaGreat
end
