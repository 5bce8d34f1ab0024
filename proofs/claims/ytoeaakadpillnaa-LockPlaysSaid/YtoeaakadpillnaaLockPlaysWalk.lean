/- LockPlays: the walk. -/
import Derived.Test.YtoeaakadpillnaaRows
import Derived.Test.YtoeaakadpillnaaLockRefRest
import Derived.Test.YtoeaakadpillnaaLockRefTake
import Derived.Test.YtoeaakadpillnaaLockRef
import Derived.Test.YtoeaakadpillnaaLockOnePlain
import Derived.Test.YtoeaakadpillnaaLockActs
import Derived.Test.YtoeaakadpillnaaLockWorks
import Derived.Test.YtoeaakadpillnaaLockRest
import Derived.Test.YtoeaakadpillnaaLockHeld
import Derived.Test.YtoeaakadpillnaaLockWalks
import Derived.Test.YtoeaakadpillnaaKept
import Derived.Test.YtoeaakadpillnaaQuietTail
import Derived.Test.YtoeaakadpillnaaAppAny
import Derived.Deep.LoopGhost
import Derived.Deep.CutBlock
import Derived.WalkKit
import Derived.WalkLawsBesides
import Derived.WalkSpells
import Derived.LoopTactic
import Derived.WalkMore
import Derived.LoopN
import Derived.Laws.BitsAllLaws
import Derived.Laws.IdiomStrings
import Derived.BigQuiet
import Derived.Deep.QuietTactic
import Derived.Deep.DeepCutAuto
import Derived.Deep.RegionHeld3
import Derived.Deep.DrawnRows
import Derived.Lib.Hide
import Derived.Outline
import Derived.Deep.DeepMust
import Derived.Handy
namespace Go.Proofs.Ytoeaakadpillnaa
open Go.RowKit
set_option linter.unusedVariables false
set_option linter.unusedSimpArgs false

/-- The program's locks and the document's, as one plain table. -/
structure Pair (B0 : Nat) (w : World) (g m gR : Nat) (vK vT : Value) (T : Lk) : Prop where
  prog : LkAt w g m T
  ref : RefLk w gR vK vT T
  hm : B0 ≤ m
  hr : B0 ≤ gR
  ne1 : gR ≠ m
  ne2 : gR ≠ g
  fK : ∀ x, vK.ownBlock = some x → x ≠ m
  fT : ∀ x, vT.ownBlock = some x → x ≠ m
theorem Pair.below {B0 : Nat} {w w' : World} {g m gR : Nat} {vK vT : Value} {T : Lk} (h : Pair B0 w g m gR vK vT T) (hb : Below w.heap.size w w') : Pair B0 w' g m gR vK vT T :=
  ⟨h.prog.below hb, h.ref.below hb, h.hm, h.hr, h.ne1, h.ne2, h.fK, h.fT⟩
theorem Pair.refStays {B0 : Nat} {w w' : World} {g m gR : Nat} {vK vT : Value} {T : Lk} (h : Pair B0 w g m gR vK vT T) (hk : OthersKept w w' (fun k => k = m)) : RefLk w' gR vK vT T :=
  ⟨h.ref.rows.kept hk h.ne1 h.fK h.fT, h.ref.rising, h.ref.small⟩
theorem Pair.step {B0 : Nat} {w w1 w2 : World} {g m gR : Nat} {vK vT : Value} {T T2 : Lk} (h : Pair B0 w g m gR vK vT T) (hp : LkAt w1 g m T2) (hk : OthersKept w w1 (fun k => k = m)) (hn : RefNow w1 w2 gR vK vT T2) :
    ∃ vK' vT', Pair B0 w2 g m gR vK' vT' T2 ∧ OthersKept w w2 (fun k => k = m ∨ k = gR) := by
  obtain ⟨vK', vT', hR, hK, h1, h2⟩ := hn
  have hlm := hp.lt.2
  refine ⟨vK', vT', ⟨?_, hR, h.hm, h.hr, h.ne1, h.ne2, fun x hx => ?_, fun x hx => ?_⟩, ?_⟩
  · refine hp.kept (row := some gR) ⟨hK.os, hK.tape, hK.output, hK.size, fun k hk1 hk2 => hK.block k hk1 (fun e => hk2 (by rw [e]))⟩ ?_ ?_
    · have := h.ne2; simp; omega
    · have := h.ne1; simp; omega
  · rcases h1 x hx with h3 | h3
    · exact h.fK x h3
    · omega
  · rcases h2 x hx with h3 | h3
    · exact h.fT x h3
    · omega
  · exact OthersKept.trans (p := fun k => k = m ∨ k = gR) (q := fun k => k = gR) ⟨hk.os, hk.tape, hk.output, hk.size, fun k hk1 hk2 => hk.block k hk1 (fun e => hk2 (.inl e))⟩ hK (fun _ _ h => .inr h)
theorem RefNow.cell {w w' : World} {g : Nat} {vK vT : Value} {T : Lk} {q : Addr} {v : Value} (h : RefNow w w' g vK vT T) (hc : w.cell? q = some v) (hq : q.block ≠ g) : w'.cell? q = some v := by
  obtain ⟨_, _, _, hK, _⟩ := h
  exact hK.cell hc hq
theorem lkLetK (w : World) {g m : Nat} {T : Lk} (tx : Nat) (k : Bs) (hs : k.length ≤ maxLen) (h : LkAt w g m T) :
    Calls Try.prog 23 #[.pointer (some ⟨g, 0, none⟩), .int .u64 tx, .string ⟨k.toArray⟩] w fun e w' => e = .returned (.int .i64 (letL T tx k).2) ∧ LkAt w' g m (letL T tx k).1 ∧ OthersKept w w' (fun x => x = m) :=
  (lkLet w tx ⟨k.toArray⟩ (by rw [u_size]; exact hs) h).mono fun _ _ ⟨h1, h2, h3⟩ => ⟨h1, h2, OthersKept.of_grown h3 rfl⟩
theorem lkTakeK (w : World) {g m : Nat} {T : Lk} (tx : Nat) (k : Bs) (htx : tx < 256 ^ 8) (hs : k.length ≤ maxLen) (h : LkAt w g m T) :
    Calls Try.prog 19 #[.pointer (some ⟨g, 0, none⟩), .int .u64 tx, .string ⟨k.toArray⟩] w fun e w' => e = .returned (.tuple #[.bool (takeL T tx k).2.1, .int .i64 (takeL T tx k).2.2]) ∧ LkAt w' g m (takeL T tx k).1 ∧ OthersKept w w' (fun x => x = m) :=
  (lkTake w tx ⟨k.toArray⟩ htx (by rw [u_size]; exact hs) h).mono fun _ _ ⟨h1, h2, h3⟩ => ⟨h1, h2, OthersKept.of_grown h3 rfl⟩
theorem lkWhoK (w : World) {g m : Nat} {T : Lk} (k : Bs) (hs : k.length ≤ maxLen) (h : LkAt w g m T) :
    Calls Try.prog 17 #[.pointer (some ⟨g, 0, none⟩), .string ⟨k.toArray⟩] w fun e w' => e = .returned (.int .u64 ((who T k).getD 0 : Nat)) ∧ Below w.heap.size w w' :=
  (lkWho w ⟨k.toArray⟩ (by rw [u_size]; exact hs) h).mono fun _ _ ⟨h1, h2⟩ => ⟨h1, h2 ▸ Below.refl _ _⟩
theorem lkLenK (w : World) {g m : Nat} {T : Lk} (h : LkAt w g m T) :
    Calls Try.prog 18 #[.pointer (some ⟨g, 0, none⟩)] w fun e w' => e = .returned (.int .i64 (T.length : Nat)) ∧ Below w.heap.size w w' :=
  (lkLen w h).mono fun _ _ ⟨h1, h2⟩ => ⟨h1, h2 ▸ Below.refl _ _⟩
theorem held_len_le (T : Lk) (x : Nat) (h : T.length ≤ 1024) : (held T x).length ≤ 1000000 := by have := drop_len T x; omega
theorem str_of (S : ByteArray) : ∃ k : Bs, S = ⟨k.toArray⟩ ∧ k.length = S.size := ⟨S.data.toList, by cases S; rfl, by simp⟩

set_option maxRecDepth 100000 in
set_option maxHeartbeats 8000000 in
theorem lockPlays_walk (a : Option Addr) (b o len cap : Nat) (L : List La) (z : ByteArray) (t : Nat) (w : World) (hz : z.size ≤ 140737488351232) (hL : ActsAt w a b o len L) :
    Calls Try.prog 4 #[.slice a len cap, .string z, .int .u64 (t : Nat)] w fun e w' => e = .returned (.bool true) ∧ Below w.heap.size w w' := by
  by_cases hh : bulkA L ≤ 4000 ∧ len ≤ 150
  case neg =>
    have HV := Lib.hid (heavy_yes a b o len cap L w hL hh)
    clear hL hh
    go_enter Try.func4, Try.ntmps4
    go_wp2_with fail
    refine HV.out.mono ?_
    rintro e w1 ⟨rfl, rfl⟩
    go_wp2_with fail
    refine (works_any _).mono ?_
    rintro e w1 ⟨rfl, h⟩
    go_wp2_with fail
    go_ret
    exact ⟨rfl, h⟩
  have HV := Lib.hid (heavy_no a b o len cap L w hL hh.1 hh.2)
  by_cases hz2 : 200 < z.size
  · clear hL hh
    go_enter Try.func4, Try.ntmps4
    go_wp2_with fail
    refine HV.out.mono ?_
    rintro e w1 ⟨rfl, rfl⟩
    go_wp2_with fail
    refine (works_any _).mono ?_
    rintro e w1 ⟨rfl, h⟩
    go_wp2_with fail
    go_ret
    exact ⟨rfl, h⟩
  have HL := Lib.hid hL
  have HH := Lib.hid hh
  have hlen := hh.2
  obtain ⟨kz, rfl, hkz⟩ := str_of z
  have hkz2 : kz.length ≤ 200 := by omega
  have hsz := u_size kz
  clear hL hh hz hz2 hkz
  go_enter Try.func4, Try.ntmps4
  go_wp2_with fail
  refine HV.out.mono ?_
  rintro e w1 ⟨rfl, rfl⟩
  go_wp2_with fail
  refine (lkNew _).mono ?_
  rintro e w1 ⟨g, m, rfl, hK, hg, hm, hB⟩
  have HK1 := Lib.hid hK
  have HB1 := Lib.hid hB
  have hmg := hK.lt
  clear hK hB HV
  go_wp2_with fail
  go_loopw [9] (fun s9 wr => ∃ (i : Nat) (vK vT : Value) (T : Lk), i ≤ len ∧ s9 = .int .i64 i ∧ Pair w.heap.size wr g m w1.heap.size vK vT T ∧ Below w.heap.size w wr) (fun i _ => len - (intOf i).toNat)
  case atStart =>
    have hb2 : Below w1.heap.size w1 (w1.alloc (.cells #[.slice none 0 0, .slice none 0 0] 41)) := (Below.refl _ _).alloc (Nat.le_refl _) _
    refine ⟨0, .slice none 0 0, .slice none 0 0, [], Nat.zero_le _, rfl, ⟨HK1.out.below hb2, ⟨⟨heap_alloc_new w1 _, World.ownsRow_nil _ _ _ _, World.ownsRow_nil _ _ _ _, fun x hx => (by cases hx), fun x hx => (by cases hx)⟩, List.Pairwise.nil, Nat.zero_le _⟩, hm, HB1.out.size, by omega, by omega, fun x hx => (by cases hx), fun x hx => (by cases hx)⟩, below_then HB1.out hb2⟩
  case round =>
    obtain ⟨i, vK, vT, T, hi, rfl, hP, hB⟩ := hrel
    have HP := Lib.hid hP
    have HB := Lib.hid hB
    clear hP hB HK1 HB1
    by_cases hc : i < len
    case neg =>
      go_wp2_with fail
      refine (works_any _).mono ?_
      rintro e w2 ⟨rfl, h2⟩
      have HB2 := Lib.hid (below_then HB.out h2)
      clear h2
      go_wp2_with fail
      go_ret
      exact ⟨rfl, HB2.out⟩
    obtain ⟨rfl, hlt⟩ := HL.out.at_ (by omega)
    have hiL : i < L.length := by rw [HL.out.n]; exact hc
    obtain ⟨c0, c1, c2⟩ := (HL.out.below HB.out).cell i hiL
    have hks : L[i].2.2.size ≤ 4000 := by have h1 := bulkA_mem (List.getElem_mem hiL); have h2 := HH.out.1; omega
    have hdo := (HL.out.ok _ (List.getElem_mem hiL)).1
    have htx := (HL.out.ok _ (List.getElem_mem hiL)).2.1
    have q0 : (0 : Int) ≤ (i : Int) := by omega
    have q1 : (i : Int) < (len : Int) := by omega
    generalize L[i].2.2 = S at *
    generalize L[i].2.1 = tx at *
    generalize L[i].1 = D at *
    obtain ⟨k, rfl, hkS⟩ := str_of S
    have hk4 : k.length ≤ 4000 := by omega
    have hkm : k.length ≤ maxLen := by unfold maxLen; omega
    have hkzm : kz.length ≤ maxLen := by unfold maxLen; omega
    clear hks hkS
    have hb2 : Below wr.heap.size wr (wr.alloc (.cells #[.int .u8 D, .int .u64 tx, .string ⟨k.toArray⟩] 29)) := (Below.refl _ _).alloc (Nat.le_refl _) _
    have HA2 := Lib.hid (heap_alloc_new wr (.cells #[.int .u8 D, .int .u64 tx, .string ⟨k.toArray⟩] 29))
    have HP2 := Lib.hid (HP.out.below hb2)
    have HB2 := Lib.hid (below_then HB.out hb2)
    have hn1 : wr.heap.size ≠ m := by have := HP.out.prog.lt.2; omega
    have hn2 : wr.heap.size ≠ w1.heap.size := by have := blk_lt HP.out.ref.rows.own; omega
    have Hbp := Lib.hid HB.out.size
    generalize w1.heap.size = gR at *
    have TK := Lib.hid fun W (hW : LkAt W g m T) => lkTakeK W tx k htx hkm hW
    have LE := Lib.hid fun W (hW : LkAt W g m T) => lkLetK W tx k hkm hW
    have DR := Lib.hid fun W (hW : LkAt W g m T) => lkDrop W tx hW
    have RT := Lib.hid fun W vK vT (hW : RefLk W gR vK vT T) => rkTake gR vK vT T tx k W hkm hW
    have RL := Lib.hid fun W vK vT (hW : RefLk W gR vK vT T) => rkLet gR vK vT T tx k W hW
    have RD := Lib.hid fun W vK vT (hW : RefLk W gR vK vT T) => rkDrop gR vK vT T tx W hW
    have HKM := Lib.hid hkzm
    go_upto_block 2 with fail
    clear hb2 hkm hkzm htx hdo c0 c1 c2
    generalize wr.heap.size = bp at *
    generalize wr.alloc (.cells #[.int .u8 D, .int .u64 tx, .string ⟨k.toArray⟩] 29) = w2 at *
    have p0 : w2.cell? ⟨bp, 0, none⟩ = some (.int .u8 D) := by rw [blk_cell HA2.out 0]; rfl
    have p1 : w2.cell? ⟨bp, 1, none⟩ = some (.int .u64 tx) := by rw [blk_cell HA2.out 1]; rfl
    have p2 : w2.cell? ⟨bp, 2, none⟩ = some (.string ⟨k.toArray⟩) := by rw [blk_cell HA2.out 2]; rfl
    have FIN : Hid (∀ (W1 W2 : World) (T2 : Lk), LkAt W1 g m T2 → OthersKept w2 W1 (fun x => x = m) → RefNow W1 W2 gR vK vT T2 → (∃ vK' vT' T', Pair w.heap.size W2 g m gR vK' vT' T') ∧ W2.cell? ⟨bp, 1, none⟩ = some (.int .u64 tx) ∧ Below w.heap.size w W2) := by
      show ∀ (W1 W2 : World) (T2 : Lk), _
      intro W1 W2 T2 h1 h2 h3
      obtain ⟨vK', vT', hP, hK⟩ := HP2.out.step h1 h2 h3
      exact ⟨⟨_, _, _, hP⟩, hK.cell p1 (fun h => h.elim (fun h => hn1 h) (fun h => hn2 h)), hK.below HB2.out (fun x hx h => by have := hP.hm; have := hP.hr; rcases h with h | h <;> omega)⟩
    go_cut [11, 12, 13, 14, 15, 41, 51, 79] (fun s11 s12 s13 s14 s15 s41 s51 s79 w' => s11 = .bool true ∧ (∃ vK' vT' T', Pair w.heap.size w' g m gR vK' vT' T') ∧ w'.cell? ⟨bp, 1, none⟩ = some (.int .u64 tx) ∧ Below w.heap.size w w')
    case first =>
      have hD3 : (D : Int) % 3 = 0 ∨ (D : Int) % 3 = 1 ∨ (D : Int) % 3 = 2 := by omega
      have HDR : Hid (∀ W, OthersKept w2.drew W (fun x => x = m) → OthersKept w2 W (fun x => x = m)) := fun W h => ⟨h.os, h.tape, h.output, h.size, h.block⟩
      have hRS := Lib.hid fun W (hk : OthersKept w2 W (fun x => x = m)) => HP2.out.refStays hk
      rcases hD3 with hD | hD | hD
      · go_wp2_with fail
        refine (TK.out _ HP2.out.prog).mono ?_
        rintro e w3 ⟨rfl, hp3, hk3⟩
        have HP3 := Lib.hid hp3
        have HK3 := Lib.hid hk3
        have p1' := hk3.cell p1 hn1
        have p2' := hk3.cell p2 hn1
        clear hp3 hk3
        go_wp2_with fail
        refine (RT.out _ _ _ (hRS.out _ HK3.out)).mono ?_
        rintro e w4 ⟨rfl, hn4⟩
        have HF := Lib.hid (FIN.out _ _ _ HP3.out HK3.out hn4)
        clear hn4
        go_wp2_with fail
        go_meet
        exact ⟨rfl, HF.out⟩
      · go_upto_region 18 with fail
        go_region_held3 (fun w' => w'.cell? ⟨bp, 1, none⟩ = some (.int .u64 tx) ∧ w'.cell? ⟨bp, 2, none⟩ = some (.string ⟨k.toArray⟩)) (first | (with_reducible exact ⟨p1, p2⟩) | exact ⟨hn4.cell (hk3.cell p1 hn1) hn2, hn4.cell (hk3.cell p2 hn1) hn2⟩ | exact ⟨hk3.cell p1 hn1, hk3.cell p2 hn1⟩ | exact ⟨p1, p2⟩) (first
          | (go_at_call 23; refine (LE.out _ (HP2.out.prog.below (Below.refl _ _).drew)).mono ?_; rintro e w3 ⟨rfl, hp3, hk3⟩)
          | (go_at_call 24; refine (RL.out _ _ _ (hRS.out _ (HDR.out _ hk3))).mono ?_; rintro e w4 ⟨rfl, hn4⟩))
        all_goals
          have HF := Lib.hid (FIN.out _ _ _ hp3 (HDR.out _ hk3) hn4)
          go_wp2_with fail
          go_meet
          exact ⟨rfl, HF.out⟩
      · go_upto_region 12 with fail
        go_region_held3 (fun w' => w'.cell? ⟨bp, 1, none⟩ = some (.int .u64 tx)) (first | (with_reducible exact p1) | exact hn4.cell (hk3.cell p1 hn1) hn2 | exact hk3.cell p1 hn1 | exact p1) (first
          | (go_at_call 21; refine (DR.out _ (HP2.out.prog.below (Below.refl _ _).drew)).mono ?_; rintro e w3 ⟨rfl, hp3, hk3⟩)
          | (go_at_call 25; refine (RD.out _ _ _ (hRS.out _ (HDR.out _ hk3))).mono ?_; rintro e w4 ⟨rfl, hn4⟩))
        all_goals
          have HF := Lib.hid (FIN.out _ _ _ hp3 (HDR.out _ hk3) hn4)
          go_wp2_with fail
          go_meet
          exact ⟨rfl, HF.out⟩
    case rest =>
      obtain ⟨rfl, ⟨vK', vT', T', hP⟩, hp1, hB⟩ := hcut
      have HPc := Lib.hid hP
      have HBc := Lib.hid hB
      have hKF := hP.ref.rows.c0
      obtain ⟨bk, cpk, rfl, hcp, hcm, _, _⟩ := hP.ref.keyForm
      have hsmall := hP.ref.small
      have HEc := Lib.hid (fun x => (held_len_le T' x))
      have C1 := Lib.hid fun W (hW : Below wc.heap.size wc W) => keep_cell hW hp1
      have C0 := Lib.hid fun W (hW : Below wc.heap.size wc W) => keep_cell hW hKF
      have D1 : Hid (Below wc.heap.size wc wc.drew) := (Below.refl _ _).drew
      have FW := Lib.hid fun W (hW : Below wc.heap.size wc W) => (lkWhoK W kz HKM.out (HPc.out.below hW).prog).mono fun _ _ ⟨h1, h2⟩ => (⟨h1, below_then hW h2⟩ : _ ∧ Below wc.heap.size wc _)
      have RW := Lib.hid fun W (hW : Below wc.heap.size wc W) => (rkWho gR _ _ T' kz W (HPc.out.below hW).ref).mono fun _ _ ⟨h1, h2⟩ => (⟨h1, below_then hW h2⟩ : _ ∧ Below wc.heap.size wc _)
      have FL := Lib.hid fun W (hW : Below wc.heap.size wc W) => (lkLenK W (HPc.out.below hW).prog).mono fun _ _ ⟨h1, h2⟩ => (⟨h1, below_then hW h2⟩ : _ ∧ Below wc.heap.size wc _)
      have FH := Lib.hid fun x W (hW : Below wc.heap.size wc W) => lkHeld W x (HPc.out.below hW).prog
      have RH := Lib.hid fun x W (hW : Below wc.heap.size wc W) => rkHeld gR _ _ T' x W (HPc.out.below hW).ref
      have TX := Lib.hid fun x v1 v2 B1 B2 W (hW : Below wc.heap.size wc W) h1 h2 => (textsSame v1 v2 (held T' x) B1 B2 W (HEc.out x hsmall) h1 h2).mono fun _ _ ⟨h1, h2⟩ => (⟨h1, below_then hW h2⟩ : _ ∧ Below wc.heap.size wc _)
      clear hP hB hp1 hKF TK LE DR RT RL RD FIN HP HB2 HA2 HP2
      generalize ((who T' kz).getD 0) = q at *
      go_upto_region 19 with fail
      go_region_held3 (fun w' => w'.cell? ⟨bp, 1, none⟩ = some (.int .u64 tx) ∧ w'.cell? ⟨gR, 0, none⟩ = some (.slice bk T'.length cpk))
        (first
          | (with_reducible exact ⟨C1.out _ D1.out, C0.out _ D1.out⟩)
          | (with_reducible exact ⟨C1.out _ h1, C0.out _ h1⟩)
          | (with_reducible exact ⟨C1.out _ h2, C0.out _ h2⟩)
          | (with_reducible exact ⟨C1.out _ (below_then h2 k3), C0.out _ (below_then h2 k3)⟩)
          | (with_reducible exact ⟨C1.out _ (below_then (below_then h2 k3) k4), C0.out _ (below_then (below_then h2 k3) k4)⟩)
          | (with_reducible exact ⟨C1.out _ h5, C0.out _ h5⟩)
          | (with_reducible exact ⟨C1.out _ (below_then h5 k6), C0.out _ (below_then h5 k6)⟩)
          | (with_reducible exact ⟨C1.out _ (below_then (below_then h5 k6) k7), C0.out _ (below_then (below_then h5 k6) k7)⟩)
          | (with_reducible exact ⟨C1.out _ h8, C0.out _ h8⟩)
          | (with_reducible exact ⟨C1.out _ h9, C0.out _ h9⟩)
          | exact ⟨C1.out _ (Below.refl _ _), C0.out _ (Below.refl _ _)⟩
          | exact ⟨C1.out _ D1.out, C0.out _ D1.out⟩)
        (first
          | (go_at_call 18; refine (FL.out _ h8).mono ?_; rintro e w9 ⟨rfl, h9⟩)
          | (go_at_call 27; refine (TX.out tx _ _ _ _ _ (below_then (below_then h5 k6) k7) (own_below O6 k7) O7).mono ?_; rintro e w8 ⟨rfl, h8⟩)
          | (go_at_call 27; refine (TX.out t _ _ _ _ _ (below_then (below_then h2 k3) k4) (own_below O3 k4) O4).mono ?_; rintro e w5 ⟨rfl, h5⟩)
          | (go_at_call 28; refine (RH.out tx _ (below_then h5 k6)).mono ?_; rintro e w7 ⟨v7, rfl, O7, k7⟩)
          | (go_at_call 28; refine (RH.out t _ (below_then h2 k3)).mono ?_; rintro e w4 ⟨v4, rfl, O4, k4⟩)
          | (go_at_call 20; refine (FH.out tx _ h5).mono ?_; rintro e w6 ⟨v6, rfl, O6, k6⟩)
          | (go_at_call 20; refine (FH.out t _ h2).mono ?_; rintro e w3 ⟨v3, rfl, O3, k3⟩)
          | (go_at_call 26; refine (RW.out _ h1).mono ?_; rintro e w2 ⟨rfl, h2⟩)
          | (go_at_call 17; refine (FW.out _ D1.out).mono ?_; rintro e w1 ⟨rfl, h1⟩))
      have HP9 := Lib.hid (HPc.out.below h9)
      have HB9 := Lib.hid (below_then HBc.out h9)
      clear h1 h2 k3 k4 h5 k6 k7 h8 h9 O3 O4 O6 O7
      go_wp2_with fail
      go_roundw
      case rel => exact ⟨i + 1, _, _, _, by omega, by go_num, HP9.out, HB9.out⟩
      case measure => simp [intOf]; omega

end Go.Proofs.Ytoeaakadpillnaa
