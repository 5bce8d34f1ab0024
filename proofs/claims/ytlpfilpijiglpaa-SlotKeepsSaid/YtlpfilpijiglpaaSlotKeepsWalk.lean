/- SlotKeeps: the walk -/
import Derived.Test.YtlpfilpijiglpaaRows
import Derived.Test.YtlpfilpijiglpaaSlotCalls
import Derived.Test.YtlpfilpijiglpaaAppAny
import Derived.Test.YtlpfilpijiglpaaMakeZeros
import Derived.Deep.CutBlock
import Derived.Deep.LoopGhost
import Derived.WalkKit
import Derived.WalkLawsBesides
import Derived.WalkSpells
import Derived.LoopTactic
import Derived.WalkMore
import Derived.LoopN
import Derived.Laws.BitsAllLaws
import Derived.Laws.IdiomStrings
import Derived.BigQuiet
import Derived.Deep.QuietTactic
import Derived.Deep.DeepCutAuto
import Derived.Deep.RegionHeld3
import Derived.Deep.DrawnRows
import Derived.Lib.Hide
import Derived.Outline
import Derived.Deep.DeepMust
import Derived.Handy
namespace Go.Proofs.Ytlpfilpijiglpaa
open Go.RowKit
set_option linter.unusedVariables false
set_option linter.unusedSimpArgs false

theorem own_set {w : World} {base n g cp : Nat} {e : TypeId} {xs : List Value} (h : w.ownsRow base e 1 (.slice (some ⟨g, 0, none⟩) n cp) n xs) (k : Nat) (u : Value) (hk : k < n) :
    (w.setCell ⟨g, k, none⟩ u).ownsRow base e 1 (.slice (some ⟨g, 0, none⟩) n cp) n (xs.set k u) := by
  refine ⟨by rw [List.length_set]; exact h.1, ?_⟩
  rcases h.2 with ⟨h0, _⟩ | ⟨g', cap', cur, hv, hb, hg, h1, h2, h3, h4⟩
  · cases h0
  · cases hv
    refine .inr ⟨g, cp, cur.setIfInBounds k u, rfl, hb, blk_set hg k u, h1, h2, by simpa using h3, ?_⟩
    rw [Array.toList_setIfInBounds, ← h4, Nat.mul_one, List.take_set]
theorem own_frozen {w : World} {base n g cp : Nat} {e : TypeId} {xs : List Value} (h : w.ownsRow base e 1 (.slice (some ⟨g, 0, none⟩) n cp) n xs) (k : Nat) : w.frozen? ⟨g, k, none⟩ = false := by
  rcases h.2 with ⟨h0, _⟩ | ⟨g', cap', cur, hv, hb, hg, _⟩
  · cases h0
  · cases hv
    exact blk_frozen hg k
theorem own_base {w : World} {base base' n size : Nat} {e : TypeId} {v : Value} {xs : List Value} (h : w.ownsRow base e size v n xs) (hb : base' ≤ base) : w.ownsRow base' e size v n xs := by
  refine ⟨h.1, ?_⟩
  rcases h.2 with h0 | ⟨g, cap, cur, hv, hbb, rest⟩
  · exact .inl h0
  · exact .inr ⟨g, cap, cur, hv, Nat.le_trans hb hbb, rest⟩
theorem ArAt.grown_far {w w' : World} {gA gB cap : Nat} {a : Ar} {row : Option Nat} (h : ArAt w gA gB cap a) (hg : w.grownBy w' row) (h1 : row ≠ some gA) (h2 : row ≠ some gB) : ArAt w' gA gB cap a :=
  ⟨⟨(hg.block _ (blk_lt h.area.own) (Ne.symm h1)).trans h.area.own, h.area.row.of_eq (hg.block _ h.area.row.lt (Ne.symm h2)), h.area.ne⟩, h.room⟩
theorem strs_length (ts : List (List UInt8)) : (strs ts).length = ts.length := by simp [strs]
theorem strs_set (ts : List (List UInt8)) (k : Nat) (t : List UInt8) : (strs ts).set k (.string ⟨t.toArray⟩) = strs (ts.set k t) := by simp [strs, List.map_set]
theorem strs_take (ts : List (List UInt8)) (k : Nat) : (strs ts).take k = strs (ts.take k) := by simp [strs, List.map_take]
theorem strs_drop (ts : List (List UInt8)) (k : Nat) : (strs ts).drop k = strs (ts.drop k) := by simp [strs, List.map_drop]
theorem strs_append (a b : List (List UInt8)) : strs a ++ strs b = strs (a ++ b) := by simp [strs]
theorem strs_cell (ts : List (List UInt8)) (k : Nat) (h : k < ts.length) : (strs ts)[k]? = some (.string ⟨ts[k].toArray⟩) := by simp [strs, h]
theorem strs_one (ts : List (List UInt8)) : ∀ u ∈ strs ts, u.oneCell' = true := by
  intro u hu
  obtain ⟨t, _, rfl⟩ := List.mem_map.1 hu
  rfl

/-- How an area and the texts that are held against it lie in memory. -/
structure Keeps (w0 w : World) (all gA gB cap : Nat) (a : Ar) (v : Value) : Prop where
  good : a.Good
  size : a.B.length = all
  area : ArAt w gA gB cap a
  own : w.ownsRow w0.heap.size 9 1 v a.L.length (strs a.texts)
  far : ∀ g, v.ownBlock = some g → g ≠ gA ∧ g ≠ gB
  hA : w0.heap.size ≤ gA
  hB : w0.heap.size ≤ gB
  below : Below w0.heap.size w0 w

theorem own_cases {w : World} {base n : Nat} {e : TypeId} {b : Option Addr} {cp : Nat} {xs : List Value} (h : w.ownsRow base e 1 (.slice b n cp) n xs) : (b = none ∧ n = 0 ∧ cp = 0) ∨ ∃ g, b = some ⟨g, 0, none⟩ ∧ base ≤ g ∧ g < w.heap.size := by
  rcases h.2 with ⟨h0, h1⟩ | ⟨g, cap, cur, hv, hb, hg, _⟩
  · injection h0 with h2 h3 h4
    exact .inl ⟨h2, h1, h4⟩
  · injection hv with h2 h3 h4
    exact .inr ⟨g, h2, hb, blk_lt hg⟩
theorem own_ne {w : World} {base n size : Nat} {e : TypeId} {v : Value} {xs : List Value} (h : w.ownsRow base e size v n xs) {b : Option Nat} (hb : b = some w.heap.size) : v.ownBlock = none ∨ v.ownBlock ≠ b := by
  subst hb
  cases hv : v.ownBlock with
  | none => exact .inl rfl
  | some k => have := (h.lt k hv).2; exact .inr (by simp; omega)
theorem own_fresh (w : World) (u : Value) (e : TypeId) : (w.alloc (.cells #[u] e)).ownsRow w.heap.size e 1 (.slice (some ⟨w.heap.size, 0, none⟩) 1 1) 1 [u] :=
  ⟨rfl, .inr ⟨w.heap.size, 1, #[u], rfl, Nat.le_refl _, heap_alloc_new w _, Nat.le_refl _, by unfold maxLen; omega, rfl, rfl⟩⟩
theorem own_empty (w : World) (e : TypeId) : (w.alloc (.cells #[] e)).ownsRow w.heap.size e 1 (.slice (some ⟨w.heap.size, 0, none⟩) 0 0) 0 [] :=
  World.ownsRow_made w #[] 0 (Nat.le_refl _) (by unfold maxLen; omega) rfl
/-- The rest by n of any number, from 0 on. -/
theorem ring_k (x : Int) (n : Nat) (hn : 0 < n) (hb : n ≤ 100000) : ∃ (X : Int) (r : Nat), x.tmod (n : Int) = X ∧ -(n : Int) < X ∧ X < (n : Int) ∧ IntKind.i64.wrap (X + (n : Int)) = X + (n : Int) ∧ r < n ∧ (X + (n : Int)) % (n : Int) = (r : Int) ∧ (X + (n : Int)).tmod (n : Int) = (r : Int) ∧ IntKind.i64.wrap (r : Int) = r := by
  have h1 := Int.lt_tmod_of_pos x (show (0 : Int) < (n : Int) by omega)
  have h2 := Int.tmod_lt_of_pos x (show (0 : Int) < (n : Int) by omega)
  generalize x.tmod (n : Int) = X at *
  have h3 := Int.emod_nonneg (X + (n : Int)) (show (n : Int) ≠ 0 by omega)
  have h4 := Int.emod_lt_of_pos (X + (n : Int)) (show (0 : Int) < (n : Int) by omega)
  obtain ⟨r, hr⟩ := Int.eq_ofNat_of_zero_le h3
  refine ⟨X, r, rfl, h1, h2, IntWalk.i64_in _ ⟨by omega, by omega⟩, by omega, hr, ?_, IntWalk.i64_in _ ⟨by omega, by omega⟩⟩
  rw [Int.tmod_eq_emod_of_nonneg (by omega), hr]
theorem parse_texts {a : Ar} (h : a.Good) : (parse a.enc).texts = a.texts := by
  obtain ⟨e1, e2, e3⟩ := parse_of_enc h
  unfold Ar.texts
  rw [e1]
  refine List.map_congr_left fun p hp => ?_
  have hin := h.inn p hp
  have hf := h.f
  have e : a.enc = (be 2 a.L.length ++ (be 2 a.low ++ ents a.L)) ++ a.B.drop a.fin := by simp [Ar.enc]
  have hx : (be 2 a.L.length ++ (be 2 a.low ++ ents a.L)).length = a.fin := by
    simp only [List.length_append, be_length, ents_length]
    unfold Ar.fin
    omega
  show (a.enc.drop p.1).take p.2 = (a.B.drop p.1).take p.2
  rw [e, List.drop_append, hx, List.drop_of_length_le (by omega), List.drop_drop, show a.fin + (p.1 - a.fin) = p.1 by omega]
  rfl
theorem Keeps.below' {w0 w w' : World} {all gA gB cap : Nat} {a : Ar} {v : Value} (h : Keeps w0 w all gA gB cap a v) (hb : Below w.heap.size w w') : Keeps w0 w' all gA gB cap a v :=
  ⟨h.good, h.size, h.area.below hb, own_below h.own hb, h.far, h.hA, h.hB, below_then h.below hb⟩
/-- The texts lie elsewhere, behind all that was there. -/
theorem Keeps.texts' {w0 w w' : World} {all gA gB cap : Nat} {a : Ar} {v : Value} (hA : ArAt w gA gB cap a) (hg : a.Good) (hs : a.B.length = all) (h1 : w0.heap.size ≤ gA) (h2 : w0.heap.size ≤ gB) (hb : Below w0.heap.size w0 w)
    (ho : w'.ownsRow w.heap.size 9 1 v a.L.length (strs a.texts)) (hb' : Below w.heap.size w w') : Keeps w0 w' all gA gB cap a v :=
  ⟨hg, hs, hA.below hb', own_base ho hb.size, fun g hgv => by
    have h3 := (ho.lt g hgv).1
    have h4 := blk_lt hA.area.own
    have h5 := hA.area.row.lt
    omega, h1, h2, below_then hb hb'⟩
/-- The area has turned, the texts are as they were. -/
theorem Keeps.area' {w0 w w' : World} {all gA gB cap : Nat} {a a' : Ar} {v : Value} (h : Keeps w0 w all gA gB cap a v) (ha : ArAt w' gA gB cap a') (hg : w.grownBy w' (some gB)) (hG : a'.Good) (hB : a'.B.length = a.B.length) (hn : a'.L.length = a.L.length) (ht : a'.texts = a.texts) : Keeps w0 w' all gA gB cap a' v :=
  ⟨hG, by rw [hB]; exact h.size, ha, by rw [hn, ht]; exact h.own.kept hg (by
    cases hv : v.ownBlock with
    | none => exact .inl rfl
    | some g => exact .inr (by simp; exact (h.far g hv).2)), h.far, h.hA, h.hB, below_grown h.below hg h.hB⟩

set_option maxHeartbeats 4000000 in
set_option maxRecDepth 100000 in
theorem slotKeeps_walk (size : Nat) (a : Option Addr) (b o len cap : Nat) (L : List Pc) (w : World) (hsz : size < 256 ^ 2) (hL : CallsAt w a b o len L) :
    Calls Try.prog 7 #[.int .u16 size, .slice a len cap] w fun e w' => e = .returned (.bool true) ∧ Below w.heap.size w w' := by
  have AL := Lib.hid fun W => alive_any W
  simp only [Nat.reducePow] at hsz
  by_cases hh : bulk L ≤ 8192 ∧ len ≤ 100
  case neg =>
    have HV := Lib.hid (heavy_yes a b o len cap L w hL hh)
    clear hL hh
    go_enter Try.func7, Try.ntmps7
    go_wp2_with fail
    refine HV.out.mono ?_
    rintro e w1 ⟨rfl, rfl⟩
    go_wp2_with fail
    refine (AL.out _).mono ?_
    rintro e w1 ⟨rfl, h⟩
    go_wp2_with fail
    go_ret
    exact ⟨rfl, h⟩
  have HV := Lib.hid (heavy_no a b o len cap L w hL hh.1 hh.2)
  obtain ⟨all, hall⟩ : ∃ x, x = 16 + size % 600 := ⟨_, rfl⟩
  have ha1 : 16 ≤ all := by omega
  have ha2 : all ≤ 615 := by omega
  have NE := Lib.hid (newA all w (by omega) (by omega))
  have HL := Lib.hid hL
  have HH := Lib.hid hh
  clear hL hh
  have Hall := Lib.hid hall
  clear hall
  go_enter Try.func7, Try.ntmps7
  go_wp2_with fail
  refine HV.out.mono ?_
  rintro e w1 ⟨rfl, rfl⟩
  go_wp2_with fail
  have he : (16 + (size : Int) % 600) = (all : Int) := by have := Hall.out; omega
  rw [he]
  clear he hsz
  refine NE.out.mono ?_
  rintro e w1 ⟨gA, gB, rfl, hA, hB, ha, hb⟩
  have K1 : Hid (Keeps w w1 all gA gB all (Ar.new all) (.slice none 0 0)) := ⟨Ar.Good.new ha1 (by omega), by simp [Ar.new], ha, World.ownsRow_nil _ _ _ _, (fun g h => by cases h), hA, hB, hb⟩
  clear ha hb NE HV
  go_wp2_with fail
  go_loopw [5, 7, 8] (fun s5 s7 s8 wr => ∃ i : Nat, i ≤ len ∧ s8 = .int .i64 i ∧ ∃ gA gB cp ar, s5 = .pointer (some ⟨gA, 0, none⟩) ∧ Keeps w wr all gA gB cp ar s7) (fun _ _ i _ => len - (intOf i).toNat)
  case atStart => exact ⟨0, Nat.zero_le _, rfl, _, _, _, _, rfl, K1.out⟩
  case round =>
    obtain ⟨i, hi, rfl, gA, gB, cp, ar, rfl, hk⟩ := hrel
    have HK := Lib.hid hk
    clear hk K1 hA hB
    have hlen := HH.out.2
    by_cases hc : i < len
    case neg =>
      obtain rfl : i = len := by omega
      have HB := Lib.hid HK.out.below
      clear HK
      go_wp2_with fail
      refine (AL.out _).mono ?_
      rintro e w2 ⟨rfl, h2⟩
      have HB2 := Lib.hid (below_then HB.out h2)
      clear h2
      go_wp2_with fail
      go_ret
      exact ⟨rfl, HB2.out⟩
    obtain ⟨rfl, hlt⟩ := HL.out.at_ (by omega)
    have hiL : i < L.length := by rw [HL.out.n]; exact hc
    obtain ⟨c0, c1, c2⟩ := (HL.out.below HK.out.below).cell i hiL
    have hbs : L[i].2.2.size ≤ 8192 := by have h1 := bulk_mem (List.getElem_mem hiL); have h2 := HH.out.1; omega
    have hdo := (HL.out.ok _ (List.getElem_mem hiL)).1
    have hat := (HL.out.ok _ (List.getElem_mem hiL)).2.1
    have q0 : (0 : Int) ≤ (i : Int) := by omega
    have q1 : (i : Int) < (len : Int) := by omega
    generalize L[i].2.2 = T at *
    generalize L[i].2.1 = At at *
    generalize L[i].1 = D at *
    obtain ⟨b7, c7, rfl, hc7, hm7, hb7⟩ := own_form HK.out.own
    have HB7 := Lib.hid hb7
    clear hb7
    unfold maxLen at hm7
    go_upto_block 2 with fail
    obtain ⟨m, hm⟩ : ∃ m : Int, (D : Int) % 8 = m := ⟨_, rfl⟩
    rw [hm]
    have Hm := Lib.hid hm
    clear hm
    go_cut [5, 7] (fun s5 s7 w' => ∃ gA gB cp ar, s5 = .pointer (some ⟨gA, 0, none⟩) ∧ Keeps w w' all gA gB cp ar s7)
    case rest =>
      obtain ⟨gA, gB, cp, ar, rfl, hk⟩ := hcut
      have HK := Lib.hid hk
      clear hk c0 c1 c2 hm7 hc7 hbs hdo hat
      have hf := HK.out.good.fit
      have htl : ar.texts.length = ar.L.length := by simp [Ar.texts]
      have HTL := Lib.hid htl
      have LN := Lib.hid fun W hW => lenA gA gB cp ar W hf hW
      have GE := Lib.hid fun k (hk : k < ar.L.length) W (hW : ArAt W gA gB cp ar) => getA_yes gA gB cp k ar W HK.out.good hk hW
      obtain ⟨b7, c7, rfl, hc7, hm7, hb7⟩ := own_form HK.out.own
      have HB7 := Lib.hid hb7
      clear hb7 htl
      unfold maxLen at hm7
      go_wp2_with fail
      refine (LN.out _ HK.out.area).mono ?_
      rintro e w2 ⟨rfl, h2⟩
      have HA2 := Lib.hid (HK.out.area.below h2)
      have HB2 := Lib.hid (below_then HK.out.below h2)
      have HO2 := Lib.hid (own_below HK.out.own h2)
      clear h2
      go_wp2_with fail
      go_loopw [17] (fun s17 wr2 => ∃ k : Nat, k ≤ ar.L.length ∧ s17 = .int .i64 k ∧ Keeps w wr2 all gA gB cp ar (.slice b7 ar.L.length c7)) (fun i _ => ar.L.length - (intOf i).toNat)
      case atStart => exact ⟨0, Nat.zero_le _, rfl, HK.out.good, HK.out.size, HA2.out, HO2.out, HK.out.far, HK.out.hA, HK.out.hB, HB2.out⟩
      case round =>
        obtain ⟨k, hkn, rfl, hk3⟩ := hrel
        have HK3 := Lib.hid hk3
        clear hk3 HA2 HB2 HO2
        by_cases hc3 : k < ar.L.length
        case neg =>
          obtain rfl : k = ar.L.length := by omega
          go_wp2_with fail
          go_roundw
          case rel => exact ⟨i + 1, by omega, by go_num, _, _, _, _, rfl, HK3.out⟩
          case measure => simp [intOf]; omega
        obtain ⟨g7, rfl, _⟩ := HB7.out (by omega)
        have hkt : k < ar.texts.length := by rw [HTL.out]; exact hc3
        have t0 := own_cell HK3.out.own k _ (strs_cell ar.texts k hkt)
        have htx : ar.texts[k] = ar.text ar.L[k] := by simp [Ar.texts]
        have G := Lib.hid (GE.out k hc3)
        rw [htx] at t0
        have j1 : (0 : Int) ≤ (k : Int) := by omega
        have j2 : (k : Int) < (ar.L.length : Int) := by omega
        generalize (⟨(ar.text ar.L[k]).toArray⟩ : ByteArray) = X at *
        have HT0 := Lib.hid t0
        clear htx t0
        go_wp2_with fail
        refine (G.out _ HK3.out.area).mono ?_
        rintro e w4 ⟨rfl, h4⟩
        have t4 := keep_cell h4 HT0.out
        have HK4 : Hid (Keeps w w4 all gA gB cp ar (.slice (some ⟨g7, 0, none⟩) ar.L.length c7)) := ⟨HK3.out.good, HK3.out.size, HK3.out.area.below h4, own_below HK3.out.own h4, HK3.out.far, HK3.out.hA, HK3.out.hB, below_then HK3.out.below h4⟩
        clear h4
        go_wp2_with fail
        go_roundw
        case rel => exact ⟨k + 1, by omega, by go_num, HK4.out⟩
        case measure => simp [intOf]; omega
    case first =>
      have hcells : Below wr.heap.size wr (wr.alloc (.cells #[.int .u8 D, .int .i64 At, .string T] 33)) := (Below.refl _ _).alloc (Nat.le_refl _) _
      have HK1 := Lib.hid (HK.out.below' hcells)
      have hC := heap_alloc_new wr (.cells #[.int .u8 D, .int .i64 At, .string T] 33)
      have C0 : (wr.alloc (.cells #[.int .u8 D, .int .i64 At, .string T] 33)).cell? ⟨wr.heap.size, 0, none⟩ = some (.int .u8 D) := by rw [blk_cell hC 0]; rfl
      have C1 : (wr.alloc (.cells #[.int .u8 D, .int .i64 At, .string T] 33)).cell? ⟨wr.heap.size, 1, none⟩ = some (.int .i64 At) := by rw [blk_cell hC 1]; rfl
      have C2 : (wr.alloc (.cells #[.int .u8 D, .int .i64 At, .string T] 33)).cell? ⟨wr.heap.size, 2, none⟩ = some (.string T) := by rw [blk_cell hC 2]; rfl
      have hCne : ∀ g, (Value.slice b7 ar.L.length c7).ownBlock = some g → g ≠ wr.heap.size := fun g hg => Nat.ne_of_lt (HK.out.own.lt g hg).2
      have HCne := Lib.hid hCne
      have hblt : gB < wr.heap.size := HK.out.area.area.row.lt
      generalize wr.alloc (.cells #[.int .u8 D, .int .i64 At, .string T] 33) = w1 at *
      have HC0 := Lib.hid C0
      have HC1 := Lib.hid C1
      have HC2 := Lib.hid C2
      have hn := HK1.out.good.fit.n
      have htl : ar.texts.length = ar.L.length := by simp [Ar.texts]
      have HTL := Lib.hid htl
      clear hcells hC c0 c1 c2 HK hCne htl
      by_cases hd3 : D % 8 = 3
      · have e3 : (m == 3) = true := beq_iff_eq.2 (by have := Hm.out; omega)
        by_cases h0 : ar.L.length = 0
        · have z0 : ((ar.L.length : Int) == 0) = true := beq_iff_eq.2 (by omega)
          clear h0
          go_wp2_with fail
          go_roundw
          case rel => exact ⟨i + 1, by omega, by go_num, _, _, _, _, rfl, HK1.out⟩
          case measure => simp [intOf]; omega
        have z0 : ((ar.L.length : Int) == 0) = false := beq_eq_false_iff_ne.2 (by omega)
        have z1 : ¬ (ar.L.length : Int) = 0 := by omega
        obtain ⟨X, r, m1, x1, x2, m2, hr, r0, r1, r2⟩ := ring_k At ar.L.length (by omega) (by omega)
        have SE := Lib.hid (setA gA gB cp (r : Nat) ar T w1 HK1.out.good (by omega) HK1.out.area)
        have SY := Lib.hid fun h => HK1.out.good.set_yes r T.data.toList h
        have SN := Lib.hid fun h => Ar.Good.set_no (a := ar) (r : Int) T.data.toList h
        generalize hst : ar.set (r : Int) T.data.toList = st at *
        clear hst
        have hz : st.2 = 0 ∨ st.2 ≠ 0 := by omega
        rcases hz with hz | hz
        · obtain ⟨sg, stx, sn, sB⟩ := SY.out hz
          obtain ⟨g7, rfl, _⟩ := HB7.out (by omega)
          obtain ⟨st1, st2⟩ := st
          obtain rfl : st2 = 0 := hz
          have hfr := HK1.out.far g7 rfl
          have q2 : (0 : Int) ≤ (r : Int) := by omega
          have q3 : (r : Int) < (ar.L.length : Int) := by omega
          have STX := Lib.hid stx
          have SNN := Lib.hid sn
          have SBB := Lib.hid sB
          have SGG := Lib.hid sg
          clear stx sn sB sg h0
          go_wp2_with fail
          refine SE.out.mono ?_
          rintro e w2 ⟨rfl, ha2, hg2⟩
          have hC2 := hg2.cell HC2.out (by simp; omega)
          have ho2 := HK1.out.own.kept hg2 (.inr (by simp [Value.ownBlock]; exact hfr.2))
          have hr7 : r < ar.texts.length := by rw [HTL.out]; exact hr
          have hc7' := own_cell ho2 r _ (strs_cell ar.texts r hr7)
          have hf7 := own_frozen ho2 r
          have KK : Keeps w (w2.setCell ⟨g7, r, none⟩ (.string T)) all gA gB cp st1 (.slice (some ⟨g7, 0, none⟩) ar.L.length c7) := by
            have hsg : w2.grownBy (w2.setCell ⟨g7, r, none⟩ (.string T)) (some g7) := grown_set (grown_refl _ _)
            refine ⟨SGG.out, by rw [SBB.out]; exact HK1.out.size, ha2.grown_far hsg (by simp; exact hfr.1) (by simp; exact hfr.2), ?_, HK1.out.far, HK1.out.hA, HK1.out.hB, below_grown (below_grown HK1.out.below hg2 HK1.out.hB) hsg (HK1.out.own.lt g7 rfl).1⟩
            have := own_set ho2 r (.string T) hr
            rw [show (Value.string T) = .string ⟨T.data.toList.toArray⟩ from rfl, strs_set] at this
            have e1 : st1.texts = ar.texts.set r T.data.toList := STX.out
            have e2 : st1.L.length = ar.L.length := SNN.out
            rw [e1, e2]
            exact this
          have KK := Lib.hid KK
          clear ha2 hg2 ho2
          go_wp2_with fail
          go_meet
          case rel => exact ⟨_, _, _, _, rfl, KK.out⟩
        · have e1 := SN.out hz
          obtain ⟨st1, st2⟩ := st
          obtain rfl : st1 = ar := e1
          have hz' : (st2 == 0) = false := beq_eq_false_iff_ne.2 hz
          clear h0
          have HZ := Lib.hid hz
          clear hz
          go_wp2_with fail
          refine SE.out.mono ?_
          rintro e w2 ⟨rfl, ha2, hg2⟩
          have KK := Lib.hid (HK1.out.area' ha2 hg2 HK1.out.good rfl rfl rfl)
          clear ha2 hg2
          go_wp2_with fail
          go_meet
          case rel => exact ⟨_, _, _, _, rfl, KK.out⟩
      by_cases hd4 : D % 8 = 4
      · have e3 : (m == 3) = false := beq_eq_false_iff_ne.2 (by have := Hm.out; omega)
        have e4 : (m == 4) = true := beq_iff_eq.2 (by have := Hm.out; omega)
        by_cases h0 : ar.L.length = 0
        · have z0 : ((ar.L.length : Int) == 0) = true := beq_iff_eq.2 (by omega)
          clear h0
          go_wp2_with fail
          go_roundw
          case rel => exact ⟨i + 1, by omega, by go_num, _, _, _, _, rfl, HK1.out⟩
          case measure => simp [intOf]; omega
        have z0 : ((ar.L.length : Int) == 0) = false := beq_eq_false_iff_ne.2 (by omega)
        have z1 : ¬ (ar.L.length : Int) = 0 := by omega
        obtain ⟨X, r, m1, x1, x2, m2, hr, r0, r1, r2⟩ := ring_k At ar.L.length (by omega) (by omega)
        have SE := Lib.hid (setA gA gB cp (r : Nat) ar T w1 HK1.out.good (by omega) HK1.out.area)
        have SY := Lib.hid fun h => HK1.out.good.set_yes r T.data.toList h
        have SN := Lib.hid fun h => Ar.Good.set_no (a := ar) (r : Int) T.data.toList h
        generalize hst : ar.set (r : Int) T.data.toList = st at *
        clear hst
        have hz : st.2 = 0 ∨ st.2 ≠ 0 := by omega
        rcases hz with hz | hz
        · obtain ⟨sg, stx, sn, sB⟩ := SY.out hz
          obtain ⟨g7, rfl, _⟩ := HB7.out (by omega)
          obtain ⟨st1, st2⟩ := st
          obtain rfl : st2 = 0 := hz
          have hfr := HK1.out.far g7 rfl
          have q2 : (0 : Int) ≤ (r : Int) := by omega
          have q3 : (r : Int) < (ar.L.length : Int) := by omega
          have STX := Lib.hid stx
          have SNN := Lib.hid sn
          have SBB := Lib.hid sB
          have SGG := Lib.hid sg
          clear stx sn sB sg h0
          go_wp2_with fail
          refine SE.out.mono ?_
          rintro e w2 ⟨rfl, ha2, hg2⟩
          have hC2 := hg2.cell HC2.out (by simp; omega)
          have ho2 := HK1.out.own.kept hg2 (.inr (by simp [Value.ownBlock]; exact hfr.2))
          have hr7 : r < ar.texts.length := by rw [HTL.out]; exact hr
          have hc7' := own_cell ho2 r _ (strs_cell ar.texts r hr7)
          have hf7 := own_frozen ho2 r
          have KK : Keeps w (w2.setCell ⟨g7, r, none⟩ (.string T)) all gA gB cp st1 (.slice (some ⟨g7, 0, none⟩) ar.L.length c7) := by
            have hsg : w2.grownBy (w2.setCell ⟨g7, r, none⟩ (.string T)) (some g7) := grown_set (grown_refl _ _)
            refine ⟨SGG.out, by rw [SBB.out]; exact HK1.out.size, ha2.grown_far hsg (by simp; exact hfr.1) (by simp; exact hfr.2), ?_, HK1.out.far, HK1.out.hA, HK1.out.hB, below_grown (below_grown HK1.out.below hg2 HK1.out.hB) hsg (HK1.out.own.lt g7 rfl).1⟩
            have := own_set ho2 r (.string T) hr
            rw [show (Value.string T) = .string ⟨T.data.toList.toArray⟩ from rfl, strs_set] at this
            have e1 : st1.texts = ar.texts.set r T.data.toList := STX.out
            have e2 : st1.L.length = ar.L.length := SNN.out
            rw [e1, e2]
            exact this
          have KK := Lib.hid KK
          clear ha2 hg2 ho2
          go_wp2_with fail
          go_meet
          case rel => exact ⟨_, _, _, _, rfl, KK.out⟩
        · have e1 := SN.out hz
          obtain ⟨st1, st2⟩ := st
          obtain rfl : st1 = ar := e1
          have hz' : (st2 == 0) = false := beq_eq_false_iff_ne.2 hz
          clear h0
          have HZ := Lib.hid hz
          clear hz
          go_wp2_with fail
          refine SE.out.mono ?_
          rintro e w2 ⟨rfl, ha2, hg2⟩
          have KK := Lib.hid (HK1.out.area' ha2 hg2 HK1.out.good rfl rfl rfl)
          clear ha2 hg2
          go_wp2_with fail
          go_meet
          case rel => exact ⟨_, _, _, _, rfl, KK.out⟩
      by_cases hd5 : D % 8 = 5
      · have e3 : (m == 3) = false := beq_eq_false_iff_ne.2 (by have := Hm.out; omega)
        have e4 : (m == 4) = false := beq_eq_false_iff_ne.2 (by have := Hm.out; omega)
        have e5 : (m == 5) = true := beq_iff_eq.2 (by have := Hm.out; omega)
        have e6 : (m == 6) = false := beq_eq_false_iff_ne.2 (by have := Hm.out; omega)
        have e7 : (m == 7) = false := beq_eq_false_iff_ne.2 (by have := Hm.out; omega)
        by_cases h0 : ar.L.length = 0
        · have z0 : ((ar.L.length : Int) == 0) = true := beq_iff_eq.2 (by omega)
          clear h0
          go_wp2_with fail
          go_roundw
          case rel => exact ⟨i + 1, by omega, by go_num, _, _, _, _, rfl, HK1.out⟩
          case measure => simp [intOf]; omega
        have z0 : ((ar.L.length : Int) == 0) = false := beq_eq_false_iff_ne.2 (by omega)
        have z1 : ¬ (ar.L.length : Int) = 0 := by omega
        obtain ⟨X, r, m1, x1, x2, m2, hr, r0, r1, r2⟩ := ring_k At ar.L.length (by omega) (by omega)
        have RM := Lib.hid (removeA_yes gA gB cp r ar w1 HK1.out.good hr HK1.out.area)
        have RY := Lib.hid (HK1.out.good.remove_yes r hr)
        have hcl : (ar.cut r).L.length = ar.L.length - 1 := List.length_eraseIdx_of_lt hr
        have HCL := Lib.hid hcl
        obtain ⟨g7, rfl, hg7⟩ := HB7.out (by omega)
        have hfr := HK1.out.far g7 rfl
        have hgl := (HK1.out.own.lt g7 rfl).2
        have v1 : IntKind.i64.wrap ((r : Int) + 1) = ((r + 1 : Nat) : Int) := by rw [show ((r + 1 : Nat) : Int) = (r : Int) + 1 by omega]; exact IntWalk.i64_in _ ⟨by omega, by omega⟩
        obtain ⟨r', hr'⟩ : ∃ x, x = r + 1 := ⟨_, rfl⟩
        rw [← hr'] at v1
        have HR' := Lib.hid hr'
        have q2 : (0 : Int) ≤ (r : Int) := by omega
        have q3 : (r : Int) ≤ (c7 : Int) := by omega
        have q4 : (0 : Int) ≤ (r' : Int) := by omega
        have q5 : (r' : Int) ≤ (ar.L.length : Int) := by omega
        have q6 : (r' : Int) ≤ (c7 : Int) := by omega
        have HR := Lib.hid hr
        clear hcl hr' h0 hr
        obtain ⟨i0, hi0, hz0, hz1, hz2⟩ := info_parts (P := Try.prog) (e := 9) (z := .string ⟨#[]⟩) (size := 1) (bytes := 16) (by kernel_rfl)
        go_wp2_with fail
        refine RM.out.mono ?_
        rintro e w2 ⟨rfl, ha2, hg2⟩
        have HO2 := Lib.hid (HK1.out.own.kept hg2 (.inr (by simp [Value.ownBlock]; exact hfr.2)))
        have HA2 := Lib.hid ha2
        have HB2 := Lib.hid (below_grown HK1.out.below hg2 HK1.out.hB)
        have hs2 := HK1.out.below.size
        have hs3 := hg2.size
        clear ha2 hg2
        go_wp2_with fail
        have B3 : Below w2.heap.size w2 (w2.alloc (.cells #[] 9)).drew := (below_alloc (Below.refl w2.heap.size w2) (.cells #[] 9)).drew
        have hg7s : g7 ≠ w2.heap.size := by omega
        have HB3 := Lib.hid B3
        clear B3
        go_region_held3 (fun w' => True) (trivial) (first
          | (refine step_append_any _ rfl (.tmp 123) (.tmp 126) 50 rfl w2.heap.size 9 i0 (.string ⟨#[]⟩) 1 16 Try.underlying50 hi0 hz0 hz1 hz2 rfl (by decide) (.slice (some ⟨w2.heap.size, 0, none⟩) 0 0) 0 [] (by rfl) (own_empty w2 _) (.slice (some ⟨g7, 0, none⟩) r c7) r ((strs ar.texts).take r) (by rfl) ((reads_take1 HO2.out r c7 (by have := HR.out; omega)).below HB3.out) (by rw [strs_take]; exact strs_one _) (by unfold maxLen; have := HR.out; omega) (by have := HR.out; omega) (by simp) ?_; intro v3 w3 ho3 hg3)
          | (refine step_append_any _ rfl (.tmp 127) (.tmp 131) 50 rfl w2.heap.size 9 i0 (.string ⟨#[]⟩) 1 16 Try.underlying50 hi0 hz0 hz1 hz2 rfl (by decide) v3 (0 + r) ([] ++ (strs ar.texts).take r) (by rfl) ho3 (.slice (if c7 = r' then some ⟨g7, 0, none⟩ else some ⟨g7, r', none⟩) (ar.L.length - r') (c7 - r')) (ar.L.length - r') ((strs ar.texts).drop r') (by rfl) (reads_drop1 ((own_below HO2.out HB3.out).kept hg3 (.inr (by simp [Value.ownBlock]; exact hg7s))) r' (c7 - r') (by omega) (by omega)) (by rw [strs_drop]; exact strs_one _) (by unfold maxLen; have := HR.out; omega) (by have := HR.out; omega) (Nat.le_trans (by simp) hg3.size) ?_; intro v4 w4 ho4 hg4))
        have KK := Keeps.texts' (all := all) HA2.out RY.out.2.2.1 (by rw [RY.out.2.2.2.2]; exact HK1.out.size) HK1.out.hA HK1.out.hB HB2.out (v := v4) (w' := w4) (by
          have e1 : [] ++ (strs ar.texts).take r ++ (strs ar.texts).drop r' = strs (ar.cut r).texts := by
            rw [RY.out.2.2.2.1, strs_take, strs_drop, List.nil_append, strs_append, List.eraseIdx_eq_take_drop_succ, HR'.out]
          have e2 : 0 + r + (ar.L.length - r') = (ar.cut r).L.length := by rw [HCL.out, HR'.out]; have := HR.out; omega
          rw [e1, e2] at ho4
          exact ho4) (below_own (below_own HB3.out (own_empty w2 _) (Nat.le_refl _) hg3) ho3 (Nat.le_refl _) hg4)
        have KK := Lib.hid KK
        clear ho4 ho3 hg3 hg4
        go_wp2_with fail
        all_goals
          go_meet
          case rel => exact ⟨_, _, _, _, rfl, KK.out⟩
      by_cases hd6 : D % 8 = 6
      · have e3 : (m == 3) = false := beq_eq_false_iff_ne.2 (by have := Hm.out; omega)
        have e4 : (m == 4) = false := beq_eq_false_iff_ne.2 (by have := Hm.out; omega)
        have e5 : (m == 5) = false := beq_eq_false_iff_ne.2 (by have := Hm.out; omega)
        have e6 : (m == 6) = true := beq_iff_eq.2 (by have := Hm.out; omega)
        have e7 : (m == 7) = false := beq_eq_false_iff_ne.2 (by have := Hm.out; omega)
        have CP := Lib.hid (compactA gA gB cp ar w1 HK1.out.good HK1.out.area)
        have CG := Lib.hid HK1.out.good.compact
        go_wp2_with fail
        refine CP.out.mono ?_
        rintro e w2 ⟨rfl, ha2, hg2⟩
        have KK := Lib.hid (HK1.out.area' ha2 hg2 CG.out.1 CG.out.2.2.1 CG.out.2.1 CG.out.2.2.2.1)
        clear ha2 hg2
        go_wp2_with fail
        go_meet
        case rel => exact ⟨_, _, _, _, rfl, KK.out⟩
      by_cases hd7 : D % 8 = 7
      · have e3 : (m == 3) = false := beq_eq_false_iff_ne.2 (by have := Hm.out; omega)
        have e4 : (m == 4) = false := beq_eq_false_iff_ne.2 (by have := Hm.out; omega)
        have e5 : (m == 5) = false := beq_eq_false_iff_ne.2 (by have := Hm.out; omega)
        have e6 : (m == 6) = false := beq_eq_false_iff_ne.2 (by have := Hm.out; omega)
        have e7 : (m == 7) = true := beq_iff_eq.2 (by have := Hm.out; omega)
        have BY := Lib.hid (bytesA gA gB cp ar w1 HK1.out.good.fit HK1.out.area)
        have hpe := parse_of_enc HK1.out.good
        have LD := Lib.hid fun W => loadA_yes ⟨ar.enc.toArray⟩ W hpe.2.2
        have HPE := Lib.hid hpe
        have HPT := Lib.hid (parse_texts HK1.out.good)
        have hpb : (parse ar.enc).B.length = all := by
          show ar.enc.length = all
          rw [HK1.out.good.fit.len]
          exact HK1.out.size
        have HPB := Lib.hid hpb
        clear hpe hpb
        have HENC : Hid ((⟨ar.enc.toArray⟩ : ByteArray).data.toList = ar.enc) := rfl
        rw [HENC.out] at LD
        generalize (⟨ar.enc.toArray⟩ : ByteArray) = E at *
        go_wp2_with fail
        refine BY.out.mono ?_
        rintro e w2 ⟨rfl, h2⟩
        have HK2 := Lib.hid (HK1.out.below' h2)
        clear h2
        go_wp2_with fail
        refine (LD.out _).mono ?_
        rintro e w3 ⟨gA2, gB2, cp2, rfl, hA2, hB2, ha3, h3⟩
        have KK : Keeps w w3 all gA2 gB2 cp2 (parse ar.enc) (.slice b7 ar.L.length c7) := by
          refine ⟨HPE.out.2.2, HPB.out, ha3, ?_, fun g hg => ?_, Nat.le_trans HK2.out.below.size hA2, Nat.le_trans HK2.out.below.size hB2, below_then HK2.out.below h3⟩
          · rw [HPE.out.1, HPT.out]
            exact own_below HK2.out.own h3
          · have := (HK2.out.own.lt g hg).2
            omega
        have KK := Lib.hid KK
        clear ha3 h3 hA2 hB2
        go_wp2_with fail
        go_meet
        case rel => exact ⟨_, _, _, _, rfl, KK.out⟩
      have e3 : (m == 3) = false := beq_eq_false_iff_ne.2 (by have := Hm.out; omega)
      have e4 : (m == 4) = false := beq_eq_false_iff_ne.2 (by have := Hm.out; omega)
      have e5 : (m == 5) = false := beq_eq_false_iff_ne.2 (by have := Hm.out; omega)
      have e6 : (m == 6) = false := beq_eq_false_iff_ne.2 (by have := Hm.out; omega)
      have e7 : (m == 7) = false := beq_eq_false_iff_ne.2 (by have := Hm.out; omega)
      have z1 : ¬ ((ar.L.length : Int) + 1) = 0 := by omega
      obtain ⟨X, r, m1, x1, x2, m2, hr, r0, r1, r2⟩ := ring_k At (ar.L.length + 1) (by omega) (by omega)
      have ec : ((ar.L.length + 1 : Nat) : Int) = (ar.L.length : Int) + 1 := by omega
      rw [ec] at m1 x1 x2 m2 r0 r1
      have r0' : (X + (ar.L.length : Int) + 1) % ((ar.L.length : Int) + 1) = (r : Int) := by rw [← r0, Int.add_assoc]
      have r1' : (X + (ar.L.length : Int) + 1).tmod ((ar.L.length : Int) + 1) = (r : Int) := by rw [← r1, Int.add_assoc]
      have PU := Lib.hid (putA gA gB cp (r : Nat) ar T w1 HK1.out.good (by omega) HK1.out.area)
      have PY := Lib.hid fun h => HK1.out.good.put_yes r T.data.toList h
      have PN := Lib.hid fun h => Ar.Good.put_no (a := ar) (r : Int) T.data.toList h
      generalize hpt : ar.put (r : Int) T.data.toList = pt at *
      have hz : pt.2 = 0 ∨ pt.2 ≠ 0 := by omega
      have HR := Lib.hid hr
      have TONE : Hid (∀ u ∈ [Value.string T] ++ (strs ar.texts).drop r, u.oneCell' = true) := by
        show ∀ u ∈ [Value.string T] ++ (strs ar.texts).drop r, u.oneCell' = true
        intro u hu
        rcases List.mem_append.1 hu with h | h
        · exact one_str T u h
        · rw [strs_drop] at h; exact strs_one _ u h
      clear hpt ec r0 r1 m2 hr
      rcases hz with hz | hz
      · have HPY := Lib.hid (PY.out hz)
        obtain ⟨pt1, pt2⟩ := pt
        obtain rfl : pt2 = 0 := hz
        have q2 : (0 : Int) ≤ (r : Int) := by omega
        have q3 : (r : Int) ≤ (ar.L.length : Int) := by have := HR.out; omega
        have q4 : (r : Int) ≤ (c7 : Int) := by have := HR.out; omega
        obtain ⟨i0, hi0, hz0, hz1, hz2⟩ := info_parts (P := Try.prog) (e := 9) (z := .string ⟨#[]⟩) (size := 1) (bytes := 16) (by kernel_rfl)
        go_wp2_with fail
        refine PU.out.mono ?_
        rintro e w2 ⟨rfl, ha2, hg2⟩
        have hC2 := hg2.cell HC2.out (by simp; omega)
        have hs1 := cell_lt HC2.out
        have hs2 := hg2.size
        have HCS : Hid (wr.heap.size ≠ w2.heap.size) := by show _ ≠ _; simp at hs1; omega
        have HA2 := Lib.hid ha2
        have HB2 := Lib.hid (below_grown HK1.out.below hg2 HK1.out.hB)
        have B3 : Below w2.heap.size w2 (w2.alloc (.cells #[.string T] 9)).drew := (below_alloc (Below.refl w2.heap.size w2) (.cells #[.string T] 9)).drew
        have HB3 := Lib.hid B3
        have HG2 := Lib.hid hg2
        clear ha2 hg2 B3 hs1
        rcases own_cases HK1.out.own with ⟨rfl, hn0, rfl⟩ | ⟨g7, rfl, hg7, hgl⟩
        · have r00 : r = 0 := by have := HR.out; omega
          subst r00
          have t0 : ar.texts = [] := List.length_eq_zero_iff.1 (by rw [HTL.out]; exact hn0)
          have HT0 := Lib.hid t0
          have HN0 := Lib.hid hn0
          rw [hn0]
          clear t0 hn0
          go_wp2_with fail
          go_region_held3 (fun w' => w'.cell? ⟨wr.heap.size, 2, none⟩ = some (.string T)) (first | exact hg3.cell (a := ⟨wr.heap.size, 2, none⟩) (by assumption) (by simp [Value.ownBlock]; exact HCS.out) | go_keep | fail) (first
            | (refine step_append_any _ rfl (.tmp 71) (.tmp 74) 50 rfl w2.heap.size 9 i0 (.string ⟨#[]⟩) 1 16 Try.underlying50 hi0 hz0 hz1 hz2 rfl (by decide) (.slice (some ⟨w2.heap.size, 0, none⟩) 1 1) 1 [.string T] (by rfl) (own_fresh w2 (.string T) _) (.slice none 0 0) 0 [] (by rfl) (.inl ⟨rfl, rfl, rfl⟩) (by intro u hu; cases hu) (by unfold maxLen; omega) (by omega) (by simp) ?_; intro v3 w3 ho3 hg3))
          have b3 := below_own HB3.out (own_fresh w2 (.string T) _) (Nat.le_refl _) hg3
          have HO3w := Lib.hid ho3
          have HB3w := Lib.hid b3
          have HO4 := Lib.hid (own_base (own_empty w3 9) b3.size)
          have HA4 : Hid (Below w3.heap.size w3 (w3.alloc (.cells #[] 9))) := below_alloc (Below.refl _ _) _
          have TONE0 : Hid (∀ u ∈ [Value.string T] ++ [], u.oneCell' = true) := by
            show ∀ u ∈ [Value.string T] ++ [], u.oneCell' = true
            intro u hu
            exact one_str T u (by simpa using hu)
          clear ho3 hg3 b3
          go_wp2_with (at_builtin; refine wpList_append_any _ rfl (.tmp 76) (.tmp 79) 50 rfl w2.heap.size 9 i0 (.string ⟨#[]⟩) 1 16 Try.underlying50 hi0 hz0 hz1 hz2 rfl (by decide) (.slice (some ⟨w3.heap.size, 0, none⟩) 0 0) 0 [] (by rfl) HO4.out (.slice none 0 0) 0 [] (by rfl) (.inl ⟨rfl, rfl, rfl⟩) (by intro u hu; cases hu) (by unfold maxLen; omega) (by omega) (by have := HB3w.out.size; simp; omega) ?_; intro v4 w4 ho4 hg4; refine Aside.out ?_)
          unfold Aside
          go_wp2_with (at_builtin; refine wpList_append_any _ rfl (.tmp 80) (.tmp 81) 50 rfl w2.heap.size 9 i0 (.string ⟨#[]⟩) 1 16 Try.underlying50 hi0 hz0 hz1 hz2 rfl (by decide) v4 (0 + 0) ([] ++ []) (by rfl) ho4 v3 (1 + 0) ([.string T] ++ []) (by rfl) (reads_own ((own_below HO3w.out HA4.out).kept hg4 (own_ne HO3w.out rfl))) TONE0.out (by unfold maxLen; omega) (by omega) (Nat.le_trans HB3w.out.size (Nat.le_trans (by simp) hg4.size)) ?_; intro v5 w5 ho5 hg5)
          all_goals
            have KK := Keeps.texts' (all := all) HA2.out HPY.out.1 (by rw [HPY.out.2.2.2]; exact HK1.out.size) HK1.out.hA HK1.out.hB HB2.out (v := v5) (w' := w5) (by
              have e1 : ([] ++ [] ++ ([Value.string T] ++ []) : List Value) = strs pt1.texts := by
                have e3 : pt1.texts = _ := HPY.out.2.1
                rw [e3, HT0.out]
                rfl
              have e2 : 0 + 0 + (1 + 0) = pt1.L.length := by
                have e3 : pt1.L.length = ar.L.length + 1 := HPY.out.2.2.1
                rw [e3, HN0.out]
              rw [e1, e2] at ho5
              exact ho5) (below_own (below_own (below_then HB3w.out HA4.out) HO4.out (Nat.le_refl _) hg4) ho4 (Nat.le_refl _) hg5)
            have KK := Lib.hid KK
            clear ho4 hg4 ho5 hg5
            refine Met.intro ?_
            go_step
            (repeat apply Exists.intro)
            refine ⟨?rel, ?eq⟩
            case eq =>
              rw [HN0.out]
              rfl
            case rel => exact ⟨_, _, _, _, rfl, KK.out⟩
        · have hg7s : g7 ≠ w2.heap.size := by omega
          have hfr := HK1.out.far g7 rfl
          have HO2 := Lib.hid (HK1.out.own.kept HG2.out (.inr (by simp [Value.ownBlock]; exact hfr.2)))
          go_wp2_with fail
          go_region_held3 (fun w' => w'.cell? ⟨wr.heap.size, 2, none⟩ = some (.string T)) (first | exact hg3.cell (a := ⟨wr.heap.size, 2, none⟩) (by assumption) (by simp [Value.ownBlock]; exact HCS.out) | go_keep | fail) (first
            | (refine step_append_any _ rfl (.tmp 71) (.tmp 74) 50 rfl w2.heap.size 9 i0 (.string ⟨#[]⟩) 1 16 Try.underlying50 hi0 hz0 hz1 hz2 rfl (by decide) (.slice (some ⟨w2.heap.size, 0, none⟩) 1 1) 1 [.string T] (by rfl) (own_fresh w2 (.string T) _) (.slice (if c7 = r then some ⟨g7, 0, none⟩ else some ⟨g7, r, none⟩) (ar.L.length - r) (c7 - r)) (ar.L.length - r) ((strs ar.texts).drop r) (by rfl) ((reads_drop1 HO2.out r (c7 - r) (by have := HR.out; omega) (by have := HR.out; omega)).below HB3.out) (by rw [strs_drop]; exact strs_one _) (by unfold maxLen; have := HR.out; omega) (by have := HR.out; omega) (by simp) ?_; intro v3 w3 ho3 hg3))
          generalize (if c7 = r then (some ⟨g7, 0, none⟩ : Option Addr) else some ⟨g7, r, none⟩) = A74
          have b3 := below_own HB3.out (own_fresh w2 (.string T) _) (Nat.le_refl _) hg3
          have HO3w := Lib.hid ho3
          have HB3w := Lib.hid b3
          have HO3 := Lib.hid ((own_below HO2.out HB3.out).kept hg3 (.inr (by simp [Value.ownBlock]; exact hg7s)))
          have HO4 := Lib.hid (own_base (own_empty w3 9) b3.size)
          have HA4 : Hid (Below w3.heap.size w3 (w3.alloc (.cells #[] 9))) := below_alloc (Below.refl _ _) _
          clear ho3 hg3 b3
          have HO3 := Lib.hid (own_below HO3.out HA4.out)
          go_wp2_with (at_builtin; refine wpList_append_any _ rfl (.tmp 76) (.tmp 79) 50 rfl w2.heap.size 9 i0 (.string ⟨#[]⟩) 1 16 Try.underlying50 hi0 hz0 hz1 hz2 rfl (by decide) (.slice (some ⟨w3.heap.size, 0, none⟩) 0 0) 0 [] (by rfl) HO4.out (.slice (some ⟨g7, 0, none⟩) r c7) r ((strs ar.texts).take r) (by rfl) (reads_take1 HO3.out r c7 (by have := HR.out; omega)) (by rw [strs_take]; exact strs_one _) (by unfold maxLen; have := HR.out; omega) (by have := HR.out; omega) (by have := HB3w.out.size; simp; omega) ?_; intro v4 w4 ho4 hg4; refine Aside.out ?_)
          unfold Aside
          go_wp2_with (at_builtin; refine wpList_append_any _ rfl (.tmp 80) (.tmp 81) 50 rfl w2.heap.size 9 i0 (.string ⟨#[]⟩) 1 16 Try.underlying50 hi0 hz0 hz1 hz2 rfl (by decide) v4 (0 + r) ([] ++ (strs ar.texts).take r) (by rfl) ho4 v3 (1 + (ar.L.length - r)) ([.string T] ++ (strs ar.texts).drop r) (by rfl) (reads_own ((own_below HO3w.out HA4.out).kept hg4 (own_ne HO3w.out rfl))) TONE.out (by unfold maxLen; have := HR.out; omega) (by have := HR.out; omega) (Nat.le_trans HB3w.out.size (Nat.le_trans (by simp) hg4.size)) ?_; intro v5 w5 ho5 hg5)
          all_goals
            have KK := Keeps.texts' (all := all) HA2.out HPY.out.1 (by rw [HPY.out.2.2.2]; exact HK1.out.size) HK1.out.hA HK1.out.hB HB2.out (v := v5) (w' := w5) (by
              have e1 : [] ++ (strs ar.texts).take r ++ ([.string T] ++ (strs ar.texts).drop r) = strs pt1.texts := by
                have e3 : pt1.texts = _ := HPY.out.2.1
                rw [e3, List.nil_append, strs_take, strs_drop, show [Value.string T] = strs [T.data.toList] from rfl, strs_append, strs_append, List.singleton_append]
              have e2 : 0 + r + (1 + (ar.L.length - r)) = pt1.L.length := by
                have e3 : pt1.L.length = ar.L.length + 1 := HPY.out.2.2.1
                rw [e3]; have := HR.out; omega
              rw [e1, e2] at ho5
              exact ho5) (below_own (below_own (below_then HB3w.out HA4.out) HO4.out (Nat.le_refl _) hg4) ho4 (Nat.le_refl _) hg5)
            have KK := Lib.hid KK
            clear ho4 hg4 ho5 hg5
            go_meet
            case rel => exact ⟨_, _, _, _, rfl, KK.out⟩
      · have e1 := PN.out hz
        obtain ⟨pt1, pt2⟩ := pt
        obtain rfl : pt1 = ar := e1
        have hz' : (pt2 == 0) = false := beq_eq_false_iff_ne.2 hz
        have HZ := Lib.hid hz
        clear hz
        go_wp2_with fail
        refine PU.out.mono ?_
        rintro e w2 ⟨rfl, ha2, hg2⟩
        have KK := Lib.hid (HK1.out.area' ha2 hg2 HK1.out.good rfl rfl rfl)
        clear ha2 hg2
        go_wp2_with fail
        go_meet
        case rel => exact ⟨_, _, _, _, rfl, KK.out⟩

end Go.Proofs.Ytlpfilpijiglpaa
