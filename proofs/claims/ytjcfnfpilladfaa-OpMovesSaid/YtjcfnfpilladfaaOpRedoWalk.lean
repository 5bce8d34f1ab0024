/- OpRedo: the walk -/
import Derived.Test.YtjcfnfpilladfaaRows
import Derived.Test.YtjcfnfpilladfaaAppTwo
import Derived.Test.YtjcfnfpilladfaaOpIn
import Derived.Test.YtjcfnfpilladfaaOpPlain
import Derived.Test.YtjcfnfpilladfaaOpLaw
import Derived.Test.YtjcfnfpilladfaaTextsP
import Derived.Test.YtjcfnfpilladfaaTextsMove
import Derived.Test.YtjcfnfpilladfaaPlains
import Derived.Test.YtjcfnfpilladfaaBase
import Derived.Test.YtjcfnfpilladfaaTextsIn
import Derived.Test.YtjcfnfpilladfaaOpenFlat
import Derived.Test.YtjcfnfpilladfaaHeavy11
import Derived.Test.YtjcfnfpilladfaaPgsOwn
import Derived.Test.YtjcfnfpilladfaaNodeWeigh
import Derived.Test.YtjcfnfpilladfaaOpRedo11
import Derived.Test.YtjcfnfpilladfaaOpApply
import Derived.Test.YtjcfnfpilladfaaOpDoes
import Derived.Test.YtjcfnfpilladfaaOpWrite
import Derived.Test.YtjcfnfpilladfaaOpEnc
import Derived.Test.YtjcfnfpilladfaaOpPart
import Derived.Test.YtjcfnfpilladfaaOpDoesMap
import Derived.Test.YtjcfnfpilladfaaRefBytes11
import Derived.Test.YtjcfnfpilladfaaAlive11
import Derived.Test.YtjcfnfpilladfaaPgStore
import Derived.Test.YtjcfnfpilladfaaRedoLaw
import Derived.Deep.CutBlock
import Derived.Deep.RegionHeld
import Derived.WalkKit
import Derived.WalkLawsBesides
import Derived.WalkSpells
import Derived.LoopTactic
import Derived.WalkMore
import Derived.LoopN
import Derived.Laws.BitsAllLaws
import Derived.Laws.IdiomStrings
import Derived.BigQuiet
import Derived.Deep.QuietTactic
import Derived.Deep.DeepCutAuto
import Derived.Deep.RegionHeld3
import Derived.Deep.DrawnRows
import Derived.Lib.Hide
import Derived.Outline
import Derived.Deep.DeepMust
import Derived.Handy
namespace Go.Proofs.Ytjcfnfpilladfaa
open Go.RowKit
set_option linter.unusedVariables false
set_option linter.unusedSimpArgs false

/-- Nothing of the rows lies in a block. -/
def FarAll (LP : List Pv) (v : Value) : Prop := ∀ e ∈ LP, Far e.sv v e.p.rows.length
theorem FarAll.next {w : World} {LP : List Pv} {v v' : Value} (h : FarAll LP v) (ht : ∀ e ∈ LP, TextsAt w e.sv e.p.rows) (h2 : v'.ownBlock = v.ownBlock ∨ v'.ownBlock = some w.heap.size) : FarAll LP v' := by
  intro e he h0 k hk
  rcases h2 with h2 | h2
  · rw [h2]; exact h e he h0 k hk
  · rw [h2]
    intro e2
    injection e2 with e2
    have := (ht e he).block_lt h0 k hk
    omega
theorem own_types {w : World} {base base' n m size size' : Nat} {e e' : TypeId} {u v : Value} {xs ys : List Value} (h : w.ownsRow base e size u n xs) (h2 : w.ownsRow base' e' size' v m ys) (he : e ≠ e') : u.ownBlock = none ∨ u.ownBlock ≠ v.ownBlock := by
  rcases h.2 with ⟨rfl, _⟩ | ⟨g, cap, cur, rfl, _, hg, _⟩
  · exact .inl rfl
  · right
    rcases h2.2 with ⟨rfl, _⟩ | ⟨g2, cap2, cur2, rfl, _, hg2, _⟩
    · intro e; cases e
    · intro e1
      injection e1 with e1
      simp only at e1
      rw [e1, hg2] at hg
      simp at hg
      exact he hg.2.symm
theorem PgsOwn.grown {w w' : World} {base : Nat} {v : Value} {L : List Pv} {x : Value} (h : PgsOwn w base v L) (hg : w.grownBy w' x.ownBlock) (hv : v.ownBlock = none ∨ v.ownBlock ≠ x.ownBlock) (hf : FarAll L x) : PgsOwn w' base v L :=
  ⟨h.1.kept hg hv, fun e he => ⟨(h.2 e he).1.grown hg fun h0 k hk => hf e he h0 k hk, (h.2 e he).2⟩⟩
theorem pgs_form {w : World} {base : Nat} {v : Value} {L : List Pv} (h : PgsOwn w base v L) (h0 : 0 < L.length) : ∃ g cp, v = .slice (some ⟨g, 0, none⟩) L.length cp ∧ L.length ≤ cp ∧ cp ≤ maxLen ∧ base ≤ g ∧ g < w.heap.size := by
  rcases h.1.2 with ⟨_, h1⟩ | ⟨g, cap, cur, h1, hb, hg, h2, h3, _⟩
  · omega
  · exact ⟨g, cap, h1, h2, h3, hb, blk_lt hg⟩
/-- What the walk of the versions carries. -/
def RedoSt (LL : List (Value × List Ov)) (LP : List Pv) (LD : List (Value × List Ov)) (m : Nat) : Prop :=
  LP.length = m + 1 ∧ LD.length = m ∧ Chain (LP.map Pv.p) (LD.map fun d => d.2.map Ov.o) ∧ (∀ e ∈ LP, e.p.wf ∧ weightB e.p.rows ≤ 20000) ∧ ∀ d ∈ LD, d ∈ LL ∧ sizesN (d.2.map Ov.o) ≤ 4096
theorem RedoSt.last {LL : List (Value × List Ov)} {LP : List Pv} {LD : List (Value × List Ov)} {m : Nat} (h : RedoSt LL LP LD m) : ∃ e, (∃ hm : m < LP.length, LP[m] = e) ∧ e.p.wf ∧ weightB e.p.rows ≤ 20000 ∧ (LP.map Pv.p).getD m Pg.zero = e.p := by
  obtain ⟨h1, h2, h3, h4, h5⟩ := h
  have hm : m < LP.length := by omega
  refine ⟨LP[m], ⟨hm, rfl⟩, (h4 _ (List.getElem_mem hm)).1, (h4 _ (List.getElem_mem hm)).2, ?_⟩
  rw [List.getD_eq_getElem?_getD, List.getElem?_map, List.getElem?_eq_getElem hm]
  rfl
theorem RedoSt.at_ {LL : List (Value × List Ov)} {LP : List Pv} {LD : List (Value × List Ov)} {m : Nat} (h : RedoSt LL LP LD m) (k : Nat) (hk : k ≤ m) : ∃ e, (∃ hm : k < LP.length, LP[k] = e) ∧ e.p.wf ∧ weightB e.p.rows ≤ 20000 ∧ (LP.map Pv.p).getD k Pg.zero = e.p := by
  obtain ⟨h1, h2, h3, h4, h5⟩ := h
  have hm : k < LP.length := by omega
  refine ⟨LP[k], ⟨hm, rfl⟩, (h4 _ (List.getElem_mem hm)).1, (h4 _ (List.getElem_mem hm)).2, ?_⟩
  rw [List.getD_eq_getElem?_getD, List.getElem?_map, List.getElem?_eq_getElem hm]
  rfl
theorem RedoSt.snoc {LL : List (Value × List Ov)} {LP : List Pv} {LD : List (Value × List Ov)} {m : Nat} {e x : Pv} {d : Value × List Ov} (h : RedoSt LL LP LD m) (he : (LP.map Pv.p).getD m Pg.zero = e.p) (hr : redoB e.p (10 * (m + 1)) (d.2.map Ov.o) = (x.p, 0)) (hn : x.p.lsn ≠ e.p.lsn) (hx : x.p.wf ∧ weightB x.p.rows ≤ 20000) (hd : d ∈ LL ∧ sizesN (d.2.map Ov.o) ≤ 4096) : RedoSt LL (LP ++ [x]) (LD ++ [d]) (m + 1) := by
  obtain ⟨h1, h2, h3, h4, h5⟩ := h
  refine ⟨by simp [h1], by simp [h2], ?_, fun y hy => ?_, fun y hy => ?_⟩
  · rw [List.map_append, List.map_append]
    refine Chain.snoc h3 ?_ ?_
    · rw [List.length_map, List.length_map, h1, h2, he]; exact hr
    · rw [List.length_map, h2, he]; exact hn
  · rcases List.mem_append.1 hy with hy | hy
    · exact h4 y hy
    · rw [List.mem_singleton.1 hy]; exact hx
  · rcases List.mem_append.1 hy with hy | hy
    · exact h5 y hy
    · rw [List.mem_singleton.1 hy]; exact hd
theorem pgs_one (w : World) (base : Nat) (e : Pv) (hb : base ≤ w.heap.size) (ht : TextsAt w e.sv e.p.rows) : PgsOwn (w.alloc (.cells e.cell.toArray 45)) base (.slice (some ⟨w.heap.size, 0, none⟩) 1 1) [e] := by
  refine ⟨⟨rfl, .inr ⟨w.heap.size, 1, _, rfl, hb, heap_alloc_new w _, Nat.le_refl _, by unfold maxLen; omega, rfl, by simp [Pv.cell]⟩⟩, fun x hx => ?_⟩
  rw [List.mem_singleton.1 hx]
  refine ⟨ht.below (alloc_below w _), fun h0 k hk e2 => ?_⟩
  have := ht.block_lt h0 k hk
  injection e2 with e2
  simp only at e2
  omega
theorem Try.infoSlo : (Try.prog.info? 22).map (fun i => (i.zero, i.size, i.bytes)) = some (some (.slice none 0 0), 1, 24) := by kernel_rfl
theorem pv_news (w : World) (e : Pv) : ∀ j u, e.cell[j]? = some u → (w.alloc (.cells e.cell.toArray 45)).cell? ((⟨w.heap.size, 0, none⟩ : Addr).add j) = some u := by
  intro j u hu
  rw [Addr.add_lit, show 0 + j = j by omega, blk_cell (heap_alloc_new w _)]
  simpa using hu
theorem step_store_pg {ops : Array Oper} {o : Oper} {a : Act} {w : World} {K : Act → World → Prop} {Q : Exit → Act → World → Prop} {E : Prop} (hgd : o.guard = none) (x y : Operand) (ho : o.op = .store 45 x y)
    {g kind level id lsn next : Nat} {sv : Value} (h : PgBox w g kind level id lsn next sv) (kind' level' id' lsn' next' : Nat) (b : Option Addr) (n c : Nat)
    (hx : a.eval x = .pointer (some ⟨g, 0, none⟩)) (hy : a.eval y = .agg #[.int .u8 kind', .int .u8 level', .int .u32 id', .int .u64 lsn', .int .u32 next', .slice b n c])
    (hk : ∀ W, PgBox W g kind' level' id' lsn' next' (.slice b n c) → OthersKept w W (fun x => x = g) → K (a.put o.dst undef) W) :
    if Region.wanted o (yielded ops a.tmps) = true then Oper.wp Try.prog o a w K Q else E := by
  rw [if_pos (by simp [Region.wanted, hgd])]
  exact wp_store_row 45 x y ho g _ hx hy 45 _ h (by kernel_rfl) rfl (by simp [Value.oneCell']) (hk _ (setRow_pg h kind' level' id' lsn' next' (.slice b n c)) (setRow_kept _ _ _))
theorem own_base1 {w : World} {base n c : Nat} {e : TypeId} {b : Option Addr} {xs : List Value} (h : w.ownsRow base e 1 (.slice b n c) n xs) (hn : 0 < n) : ∃ g, b = some ⟨g, 0, none⟩ := by
  rcases h.2 with ⟨_, h1⟩ | ⟨g, cap, cur, e1, _⟩
  · omega
  · injection e1 with e1
    exact ⟨g, e1⟩
theorem PgsOwn.kept {w w' : World} {base gq kind level id lsn next : Nat} {v s : Value} {L : List Pv} (h : PgsOwn w base v L) (hb : PgBox w gq kind level id lsn next s) (hs : ∀ x : ByteArray, s ≠ .string x) (hk : OthersKept w w' (fun x => x = gq)) (hv : ∀ j, v.ownBlock = some j → j ≠ gq) : PgsOwn w' base v L :=
  ⟨hk.owns h.1 (fun k hk' => hv k hk'), fun e he => ⟨texts_page hb (h.2 e he).1 hk (fun _ => hs), (h.2 e he).2⟩⟩
theorem far_new {w : World} {sv0 sv v : Value} {n0 n : Nat} (h : sv = sv0 ∨ ∀ k, sv.ownBlock = some k → w.heap.size ≤ k) (h0 : Far sv0 v n0) (hn : sv = sv0 → n = n0) (hv : ∀ k, v.ownBlock = some k → k < w.heap.size) : Far sv v n := by
  intro hpos k hk e
  rcases h with h | h
  · exact h0 (by rw [← hn h]; exact hpos) k (by rw [← h]; exact hk) e
  · have := h k hk
    have := hv k e
    omega
set_option maxHeartbeats 4000000 in
set_option maxRecDepth 100000 in
theorem opRedoLaw_any (p : Pg) (sv v : Value) (LL : List (Value × List Ov)) (fr : Nat) (w : World) (hp : p.wf) (ht : TextsAt w sv p.rows) (hz : ∀ r ∈ p.rows, r.length ≤ 140737488351232) (hL : OpssAt w v LL) (hLw : ∀ L ∈ LL, ∀ e ∈ L.2, e.o.wf ∧ e.o.lens 140737488351232) (hfr : fr < 256) :
    Calls Try.prog 5 #[pgV p sv, v, .int .u8 fr] w fun e w' => e = .returned (.bool true) ∧ Below w.heap.size w w' := by
  have AL := Lib.hid fun W => alive11_any W
  have HV := Lib.hid fun W (h : TextsAt W sv p.rows) => heavy06_any p sv W h hz
  have hwt := weight_heavy p.rows
  have HLW := Lib.hid hLw
  have HL := Lib.hid hL
  obtain ⟨VA, vcp, hvv, hv2, hv3, hv4, hv5⟩ := (id hL)
  clear hv5
  obtain ⟨vn, hvn⟩ : ∃ k, k = LL.length := ⟨_, rfl⟩
  rw [← hvn] at hvv hv2
  subst hvv
  have HV4 := Lib.hid hv4
  have HVN := Lib.hid hvn
  obtain ⟨kind, level, id, lsn, next, rows⟩ := p
  have HP1 : Hid ((⟨kind, level, id, 1, next, rows⟩ : Pg).wf) := Lib.hid ⟨hp.1, hp.2.1, hp.2.2.1, (by decide : (1 : Nat) < 256 ^ 8), hp.2.2.2.2⟩
  have ht2 := ht
  obtain ⟨A, cp, rfl, h2, h3, h4, h5⟩ := ht2
  obtain ⟨n, hn⟩ : ∃ n, n = rows.length := ⟨_, rfl⟩
  have HT := Lib.hid ht
  simp only at h2 h3 hwt
  rw [← hn] at HT HV h2 ⊢
  have HN := Lib.hid hn
  obtain ⟨hv, hhv⟩ : ∃ k, k = heavyB rows := ⟨_, rfl⟩
  simp only at HV HT
  rw [← hhv] at HV hwt
  have wle : ¬ 4096 < hv → weightB rows ≤ 20000 := by omega
  have HWL := Lib.hid wle
  clear hhv wle hwt hn hp h4 h5 hL hLw hz hvn hv4 ht
  unfold pgV at HV ⊢
  simp only
  simp only at HV
  unfold maxLen at h3 hv3
  have P0 := Lib.hid (PgBox.new w kind level id lsn next (.slice A n cp))
  have B0 := Lib.hid (alloc_below w (.cells #[.int .u8 kind, .int .u8 level, .int .u32 id, .int .u64 lsn, .int .u32 next, .slice A n cp] 45))
  obtain ⟨i0, hif, hz0, hz1, hz2⟩ := info_parts Try.infoPg
  have HI := Lib.hid hif
  have HI0 := Lib.hid hz0
  have HI1 := Lib.hid hz1
  have HI2 := Lib.hid hz2
  clear hif hz0 hz1 hz2
  obtain ⟨j0, hif, hz0, hz1, hz2⟩ := info_parts Try.infoSlo
  have HJ := Lib.hid hif
  have HJ0 := Lib.hid hz0
  have HJ1 := Lib.hid hz1
  have HJ2 := Lib.hid hz2
  clear hif hz0 hz1 hz2
  have aliveEnd := Lib.hid fun (W : World) (hW : Below w.heap.size w W) => (AL.out W).mono (R' := fun e w' => e = .returned (.bool true) ∧ Below w.heap.size w w') (fun e w' h => ⟨h.1, below_then hW h.2⟩)
  go_enter Try.func5, Try.ntmps5
  go_upto_region 1 with fail
  generalize w.alloc (.cells #[.int .u8 kind, .int .u8 level, .int .u32 id, .int .u64 lsn, .int .u32 next, .slice A n cp] 45) = w0 at *
  obtain ⟨_, p0, p1, p2, p3, p4, p5⟩ := P0.out.cells
  go_wp2_with fail
  refine (HV.out _ (HT.out.below B0.out)).mono ?_
  rintro e w1 ⟨rfl, hb⟩
  have B1 := Lib.hid (below_then B0.out hb)
  have P1 := Lib.hid (P0.out.below hb)
  clear hb p0 p1 p2 p3 p4 p5 P0 B0 HV
  cases hh : decide (4096 < hv) with
  | true =>
    go_wp2_with fail
    refine (aliveEnd.out _ B1.out).mono ?_
    rintro e wa ⟨rfl, hba⟩
    have Ba := Lib.hid hba
    clear hba
    go_wp2_with fail
    go_ret
    exact ⟨rfl, Ba.out⟩
  | false =>
  have hv0 : ¬ 4096 < hv := by simpa using hh
  have HW1 := Lib.hid (HWL.out hv0)
  clear hh HWL hv0
  by_cases h12 : 12 < vn
  · have h12i : (12 : Int) < (vn : Int) := by omega
    go_wp2_with fail
    refine (aliveEnd.out _ B1.out).mono ?_
    rintro e wa ⟨rfl, hba⟩
    have Ba := Lib.hid hba
    clear hba
    go_wp2_with fail
    go_ret
    exact ⟨rfl, Ba.out⟩
  have h12i : ¬ (12 : Int) < (vn : Int) := by omega
  obtain ⟨_, p0, p1, p2, p3, p4, p5⟩ := P1.out.cells
  obtain ⟨f0, f1, f2, f3, f4, f5⟩ := P1.out.fr
  go_upto_region 4 with fail
  have hk1 := one_kept w1 w.heap.size 3 (.int .u64 (1 : Nat))
  have P2 := Lib.hid (P1.out.set3 1)
  have B2 := Lib.hid (OthersKept.below B1.out hk1 (fun k hk e => by omega))
  generalize w1.setCell ⟨w.heap.size, 3, none⟩ (.int .u64 (1 : Nat)) = w2 at *
  clear p0 p1 p2 p3 p4 p5 f0 f1 f2 f3 f4 f5 hk1 P1 B1 h12i
  obtain ⟨_, p0, p1, p2, p3, p4, p5⟩ := P2.out.cells
  have e1 : (#[.int .u8 kind, .int .u8 level, .int .u32 id, .int .u64 (1 : Nat), .int .u32 next, .slice A n cp] : Array Value) = (Pv.cell ⟨⟨kind, level, id, 1, next, rows⟩, A, cp⟩).toArray := by rw [HN.out]; rfl
  have o3 := pgs_one w2 w.heap.size ⟨⟨kind, level, id, 1, next, rows⟩, A, cp⟩ B2.out.size (by have := HT.out.below B2.out; rw [HN.out] at this; exact this)
  rw [← e1] at o3
  have O3 := Lib.hid o3
  have B3 := Lib.hid (B2.out.alloc B2.out.size (.cells #[.int .u8 kind, .int .u8 level, .int .u32 id, .int .u64 (1 : Nat), .int .u32 next, .slice A n cp] 45))
  have ST3 : Hid (RedoSt LL [⟨⟨kind, level, id, 1, next, rows⟩, A, cp⟩] [] 0) := Lib.hid ⟨rfl, rfl, Chain.one rfl, fun e he => by rw [List.mem_singleton.1 he]; exact ⟨HP1.out, HW1.out⟩, fun d hd => by cases hd⟩
  clear e1 o3 HT HN P2 HP1 HW1
  go_upto_region 6 with fail
  generalize w2.alloc (.cells #[.int .u8 kind, .int .u8 level, .int .u32 id, .int .u64 (1 : Nat), .int .u32 next, .slice A n cp] 45) = w3 at *
  go_wp2_with fail
  go_loopw [7, 8, 9] (fun s7 s8 s9 wr => ∃ (i m g c7 : Nat) (b8 : Option Addr) (c8 : Nat) (LP : List Pv) (LD : List (Value × List Ov)), s9 = .int .i64 i ∧ i ≤ vn ∧ s7 = .slice (some ⟨g, 0, none⟩) (m + 1) c7 ∧ s8 = .slice b8 m c8 ∧ m ≤ i ∧ Hid (RedoSt LL LP LD m) ∧ Hid (PgsOwn wr w.heap.size (.slice (some ⟨g, 0, none⟩) (m + 1) c7) LP) ∧ Hid (wr.ownsRow w.heap.size 22 1 (.slice b8 m c8) m (LD.map Prod.fst)) ∧ Hid (FarAll LP (.slice b8 m c8)) ∧ Hid (Below w.heap.size w wr)) (fun _ _ v _ => vn - (intOf v).toNat)
  case atStart => exact ⟨0, 0, _, 1, none, 0, _, [], rfl, Nat.zero_le _, rfl, rfl, Nat.le_refl _, ST3, O3, Lib.hid (World.ownsRow_nil _ _ _ _), Lib.hid (fun e he h0 k hk h => by cases h), B3⟩
  case round =>
    obtain ⟨i, m, g, c7, b8, c8, LP, LD, rfl, hi, rfl, rfl, hmi, HST, HO, HD, HF, HB⟩ := hrel
    clear ST3 O3 B3 B2 p0 p1 p2 p3 p4 p5
    by_cases hc : i < vn
    · have hci : (i : Int) < (vn : Int) := by omega
      have q1 : (0 : Int) ≤ (i : Int) := by omega
      have hil : i < LL.length := by rw [← HVN.out]; exact hc
      obtain ⟨vb, vo, rfl, hvb, hvc⟩ := HV4.out (by rw [← HVN.out]; omega)
      have hx := hvc i hil
      have hall : ∀ e ∈ LL, OpsAt w e.1 e.2 := by
        obtain ⟨_, _, _, _, _, _, h⟩ := HL.out
        exact h
      have hol := hall LL[i] (List.getElem_mem hil)
      have hlw := HLW.out LL[i] (List.getElem_mem hil)
      have hmem := List.getElem_mem hil
      generalize LL[i] = dl at *
      obtain ⟨lv, L⟩ := dl
      simp only at hx hol hlw
      clear hall hvc
      have hol2 := hol
      obtain ⟨la, lc, rfl, hol3⟩ := hol2
      clear hol3
      obtain ⟨ln, hln⟩ : ∃ k, k = L.length := ⟨_, rfl⟩
      rw [← hln] at hol hx hmem
      have HX0 : Hid (vb < w.heap.size ∧ w.cell? ⟨vb, vo + i, none⟩ = some (.slice la ln lc)) := Lib.hid ⟨hvb, hx⟩
      have x0 : wr.cell? ⟨vb, vo + i, none⟩ = some (.slice la ln lc) := (HB.out.cell (p := ⟨vb, vo + i, none⟩) hvb).trans hx
      have HOL := Lib.hid (hol.below HB.out)
      have HLL := Lib.hid hlw
      have HME := Lib.hid hmem
      have HE := Lib.hid (heavy11_any (.slice la ln lc) L wr (hol.below HB.out) (fun e he => (hlw e he).2))
      obtain ⟨big, hbig⟩ : ∃ b, b = decide (4096 < sizesN (L.map Ov.o)) := ⟨_, rfl⟩
      rw [← hbig] at HE
      have HBIG := Lib.hid hbig
      clear hx hol hlw hmem hln hbig hvb
      go_wp2_with fail
      refine (HE.out).mono ?_
      rintro e w4 ⟨rfl, hb⟩
      have B4 := Lib.hid (below_then HB.out hb)
      have O4 := Lib.hid (HO.out.below hb)
      have D4 := Lib.hid (own_below HD.out hb)
      have OL4 := Lib.hid (HOL.out.below hb)
      have x0 := keep_cell hb x0
      clear hb HE HB HO HD HOL
      cases hbb : big with
      | true =>
        go_wp2_with fail
        refine (aliveEnd.out _ B4.out).mono ?_
        rintro e wa ⟨rfl, hba⟩
        have Ba := Lib.hid hba
        clear hba
        go_wp2_with fail
        go_ret
        exact ⟨rfl, Ba.out⟩
      | false =>
      have hsm : sizesN (L.map Ov.o) ≤ 4096 := by
        have := HBIG.out
        rw [hbb, eq_comm, decide_eq_false_iff_not] at this
        omega
      have HSM := Lib.hid hsm
      have hsz := (sizes_mem hsm).2
      have HSZ := Lib.hid hsz
      clear HBIG hbb hsm hsz
      obtain ⟨⟨⟨qk, ql, qi, qn, qx, qr⟩, b0, c0⟩, ⟨hm, hme⟩, hewf, hewt, hlast⟩ := HST.out.last
      have hcl := fun (j : Nat) (v : Value) (hv : (Pv.cell ⟨⟨qk, ql, qi, qn, qx, qr⟩, b0, c0⟩)[j]? = some v) => O4.out.cell m hm j v (by rw [hme]; exact hv)
      obtain ⟨k0, hk0⟩ : ∃ k, k = qr.length := ⟨_, rfl⟩
      have hte := (O4.out.2 LP[m] (List.getElem_mem hm))
      have hfe := HF.out LP[m] (List.getElem_mem hm)
      rw [hme] at hte hfe
      have y0 := hcl 0 _ rfl
      have y1 := hcl 1 _ rfl
      have y2 := hcl 2 _ rfl
      have y3 := hcl 3 _ rfl
      have y4 := hcl 4 _ rfl
      have y5 := hcl 5 _ rfl
      simp only [Pv.sv, Nat.add_zero] at y0 y1 y2 y3 y4 y5 hte hfe
      rw [← hk0] at y5 hte hfe
      have hmm : (0 : Int) ≤ (m : Int) := by omega
      have HLAST := Lib.hid hlast
      have HK0 := Lib.hid hk0
      have HEW := Lib.hid hewf
      have HET := Lib.hid hewt
      have HTE := Lib.hid hte
      have HFE := Lib.hid hfe
      clear hcl hlast hk0 hewf hewt hte hfe hme hm
      go_upto_region 12 with fail
      have b5 := alloc_below w4 (.cells #[.int .u8 qk, .int .u8 ql, .int .u32 qi, .int .u64 qn, .int .u32 qx, .slice b0 k0 c0] 45)
      have B5 := Lib.hid (below_then B4.out b5)
      have O5 := Lib.hid (O4.out.below b5)
      have D5 := Lib.hid (own_below D4.out b5)
      have OL5 := Lib.hid (OL4.out.below b5)
      have TE5 := Lib.hid (HTE.out.1.below b5)
      have x0 := keep_cell b5 x0
      have L5 := Lib.hid (PgBox.new w4 qk ql qi qn qx (.slice b0 k0 c0))
      have HFV := Lib.hid HTE.out.2
      have hgw := (O4.out.1.lt g rfl).2
      have hgw5 : g < (w4.alloc (.cells #[.int .u8 qk, .int .u8 ql, .int .u32 qi, .int .u64 qn, .int .u32 qx, .slice b0 k0 c0] 45)).heap.size := Nat.lt_of_lt_of_le hgw b5.size
      have hdw5 : ∀ k, (Value.slice b8 m c8).ownBlock = some k → k < (w4.alloc (.cells #[.int .u8 qk, .int .u8 ql, .int .u32 qi, .int .u64 qn, .int .u32 qx, .slice b0 k0 c0] 45)).heap.size := fun k hk => Nat.lt_of_lt_of_le (D4.out.lt k hk).2 b5.size
      have HDW := Lib.hid hdw5
      have HGW := Lib.hid hgw5
      obtain ⟨ls, hls⟩ : ∃ ls : Nat, ls = 10 * (m + 1) := ⟨_, rfl⟩
      have RB := Lib.hid fun W (hL : OpsAt W (.slice la ln lc) L) (ht : TextsAt W (.slice b0 k0 c0) qr) => opRedoG_any ⟨qk, ql, qi, qn, qx, qr⟩ (.slice b0 k0 c0) (.slice la ln lc) ls L W ht HEW.out (by omega) (by have := HET.out; simp only at this ⊢; omega) hL (fun e he => (HLL.out e he).1) (fun e he => small_of (HSZ.out e he))
      have ROK := Lib.hid (redoB_ok (p := ⟨qk, ql, qi, qn, qx, qr⟩) (lsn := ls) (W := 20000) (l := L.map Ov.o) (by omega) (by omega) HEW.out HET.out (fun o ho => by obtain ⟨e, he, rfl⟩ := List.mem_map.1 ho; exact (HLL.out e he).1))
      have RL := Lib.hid (redoB_lsn (p := ⟨qk, ql, qi, qn, qx, qr⟩) (lsn := ls) (l := L.map Ov.o))
      obtain ⟨R, hR⟩ : ∃ R, R = redoB ⟨qk, ql, qi, qn, qx, qr⟩ ls (L.map Ov.o) := ⟨_, rfl⟩
      rw [← hR] at RB ROK RL
      have HR := Lib.hid hR
      have HLS := Lib.hid hls
      have m1 : IntKind.i64.wrap ((10 : Int) * ((m : Int) + 1)) = (ls : Int) := by rw [hls]; exact IntWalk.i64_in _ ⟨by omega, by omega⟩
      have m2 : IntKind.u64.wrap (ls : Int) = (ls : Int) := IntWalk.u64_in _ ⟨by omega, by omega⟩
      unfold pgV at RB
      simp only at RB
      generalize w4.alloc (.cells #[.int .u8 qk, .int .u8 ql, .int .u32 qi, .int .u64 qn, .int .u32 qx, .slice b0 k0 c0] 45) = w5 at *
      clear y0 y1 y2 y3 y4 y5 HTE HEW HET hR hls b5 O4 D4 B4 OL4 hgw hgw5 hdw5 HLL HSZ
      obtain ⟨_, y0, y1, y2, y3, y4, y5⟩ := L5.out.cells
      obtain ⟨⟨dk, dl, di, dn, dx, dr⟩, err⟩ := R
      simp only at ROK RL
      obtain ⟨d0, hd0⟩ : ∃ k, k = dr.length := ⟨_, rfl⟩
      have HD0 := Lib.hid hd0
      have RBX : Hid (∀ W, Below w5.heap.size w5 W → Calls Try.prog 28 #[.agg #[.int .u8 qk, .int .u8 ql, .int .u32 qi, .int .u64 qn, .int .u32 qx, .slice b0 k0 c0], .int .u64 ls, .slice la ln lc] W fun e w' => ∃ da dc, e = .returned (.tuple #[.agg #[.int .u8 dk, .int .u8 dl, .int .u32 di, .int .u64 dn, .int .u32 dx, .slice da d0 dc], .int .i64 err]) ∧ Hid (TextsAt w' (.slice da d0 dc) dr) ∧ Below w5.heap.size w5 w' ∧ Below W.heap.size W w' ∧ Hid (Value.slice da d0 dc = .slice b0 k0 c0 ∨ ∀ k, (Value.slice da d0 dc).ownBlock = some k → w5.heap.size ≤ k)) := Lib.hid fun W hW => (RB.out W (OL5.out.below hW) (TE5.out.below hW)).mono (by
        rintro e w' ⟨sv', rfl, ht', hb', hf'⟩
        have ht2 := ht'
        obtain ⟨da, dc, rfl, hd3⟩ := ht2
        simp only at ht' hf'
        refine ⟨da, dc, by unfold pgV; rw [HD0.out], by rw [HD0.out]; exact Lib.hid ht', below_then hW hb', hb', ?_⟩
        rw [HD0.out]
        rcases hf' with h | h
        · exact Lib.hid (.inl h)
        · exact Lib.hid (.inr fun k hk => Nat.le_trans hW.size (h k hk)))
      have hA := Lib.hid ((Below.refl w5.heap.size w5).drew)
      have hB := Lib.hid (hA.out.alloc hA.out.size (.cells #[.int .u8 0, .int .u8 0, .int .u32 0, .int .u64 0, .int .u32 0, .slice none 0 0] 45))
      clear RB TE5 hd0
      go_cut [11, 12] (fun s11 s12 w' => ∃ (gq : Nat) (da : Option Addr) (dc : Nat), s11 = .pointer (some ⟨gq, 0, none⟩) ∧ s12 = .int .i64 err ∧ Hid (PgBox w' gq dk dl di dn dx (.slice da d0 dc)) ∧ Hid (TextsAt w' (.slice da d0 dc) dr) ∧ Hid (Value.slice da d0 dc = .slice b0 k0 c0 ∨ ∀ k, (Value.slice da d0 dc).ownBlock = some k → w5.heap.size ≤ k) ∧ Hid (Below w5.heap.size w5 w'))
      case first =>
        clear HST HF ROK RL HLAST HR
        have hvb5 : vb < w5.heap.size := cell_lt x0
        have hv45 : w4.heap.size < w5.heap.size := cell_lt y0
        have KS := Lib.hid fun W W' (hb : Below W.heap.size W W') (h : W.cell? ⟨vb, vo + i, none⟩ = some (.slice la ln lc) ∧ W.cell? ⟨w4.heap.size, 0, none⟩ = some (.int .u8 qk) ∧ W.cell? ⟨w4.heap.size, 1, none⟩ = some (.int .u8 ql) ∧ W.cell? ⟨w4.heap.size, 2, none⟩ = some (.int .u32 qi) ∧ W.cell? ⟨w4.heap.size, 3, none⟩ = some (.int .u64 qn) ∧ W.cell? ⟨w4.heap.size, 4, none⟩ = some (.int .u32 qx) ∧ W.cell? ⟨w4.heap.size, 5, none⟩ = some (.slice b0 k0 c0)) => (⟨keep_cell hb h.1, keep_cell hb h.2.1, keep_cell hb h.2.2.1, keep_cell hb h.2.2.2.1, keep_cell hb h.2.2.2.2.1, keep_cell hb h.2.2.2.2.2.1, keep_cell hb h.2.2.2.2.2.2⟩ : W'.cell? ⟨vb, vo + i, none⟩ = some (.slice la ln lc) ∧ W'.cell? ⟨w4.heap.size, 0, none⟩ = some (.int .u8 qk) ∧ W'.cell? ⟨w4.heap.size, 1, none⟩ = some (.int .u8 ql) ∧ W'.cell? ⟨w4.heap.size, 2, none⟩ = some (.int .u32 qi) ∧ W'.cell? ⟨w4.heap.size, 3, none⟩ = some (.int .u64 qn) ∧ W'.cell? ⟨w4.heap.size, 4, none⟩ = some (.int .u32 qx) ∧ W'.cell? ⟨w4.heap.size, 5, none⟩ = some (.slice b0 k0 c0))
        have KO := Lib.hid fun W W' gg (hb : OthersKept W W' (fun x => x = gg)) (hg : w5.heap.size ≤ gg) (h : W.cell? ⟨vb, vo + i, none⟩ = some (.slice la ln lc) ∧ W.cell? ⟨w4.heap.size, 0, none⟩ = some (.int .u8 qk) ∧ W.cell? ⟨w4.heap.size, 1, none⟩ = some (.int .u8 ql) ∧ W.cell? ⟨w4.heap.size, 2, none⟩ = some (.int .u32 qi) ∧ W.cell? ⟨w4.heap.size, 3, none⟩ = some (.int .u64 qn) ∧ W.cell? ⟨w4.heap.size, 4, none⟩ = some (.int .u32 qx) ∧ W.cell? ⟨w4.heap.size, 5, none⟩ = some (.slice b0 k0 c0)) => (⟨hb.cell h.1 (fun e => absurd (show vb = gg from e) (by omega)), hb.cell h.2.1 (fun e => absurd (show w4.heap.size = gg from e) (by omega)), hb.cell h.2.2.1 (fun e => absurd (show w4.heap.size = gg from e) (by omega)), hb.cell h.2.2.2.1 (fun e => absurd (show w4.heap.size = gg from e) (by omega)), hb.cell h.2.2.2.2.1 (fun e => absurd (show w4.heap.size = gg from e) (by omega)), hb.cell h.2.2.2.2.2.1 (fun e => absurd (show w4.heap.size = gg from e) (by omega)), hb.cell h.2.2.2.2.2.2 (fun e => absurd (show w4.heap.size = gg from e) (by omega))⟩ : W'.cell? ⟨vb, vo + i, none⟩ = some (.slice la ln lc) ∧ W'.cell? ⟨w4.heap.size, 0, none⟩ = some (.int .u8 qk) ∧ W'.cell? ⟨w4.heap.size, 1, none⟩ = some (.int .u8 ql) ∧ W'.cell? ⟨w4.heap.size, 2, none⟩ = some (.int .u32 qi) ∧ W'.cell? ⟨w4.heap.size, 3, none⟩ = some (.int .u64 qn) ∧ W'.cell? ⟨w4.heap.size, 4, none⟩ = some (.int .u32 qx) ∧ W'.cell? ⟨w4.heap.size, 5, none⟩ = some (.slice b0 k0 c0))
        refine wp_region_held_drew (S := fun W => W.cell? ⟨vb, vo + i, none⟩ = some (.slice la ln lc) ∧ W.cell? ⟨w4.heap.size, 0, none⟩ = some (.int .u8 qk) ∧ W.cell? ⟨w4.heap.size, 1, none⟩ = some (.int .u8 ql) ∧ W.cell? ⟨w4.heap.size, 2, none⟩ = some (.int .u32 qi) ∧ W.cell? ⟨w4.heap.size, 3, none⟩ = some (.int .u64 qn) ∧ W.cell? ⟨w4.heap.size, 4, none⟩ = some (.int .u32 qx) ∧ W.cell? ⟨w4.heap.size, 5, none⟩ = some (.slice b0 k0 c0)) (by kernel_rfl) (KS.out _ _ ((Below.refl _ _).drew) ⟨x0, y0, y1, y2, y3, y4, y5⟩) (fun hHeld => ?_)
        refine wpAnyH_take (i := 0) (oi := { dst := some 48, op := Go.Op.load 45 (Go.Operand.tmp 10), type := 45, pos := "law.go:132", after := #[], guard := none }) (v := ?_) rfl (by kernel_rfl) (by kernel_rfl) (by kernel_rfl) (fun _ _ _ h => h) (Or.inl ⟨by rfl, ?_⟩) hHeld ?_
        rotate_left
        · (intro w hSw; go_simp <;> with_reducible rfl)
        simp only [Act.put, List.setIfInBounds_toArray, List.set_cons_zero, List.set_cons_succ]
        refine wpAnyH_take (i := 1) (oi := { dst := some 49, op := Go.Op.move (Go.Operand.tmp 7), type := 57, pos := "law.go:132", after := #[], guard := none }) (v := ?_) rfl (by kernel_rfl) (by kernel_rfl) (by kernel_rfl) (fun _ _ _ h => h) (Or.inl ⟨by rfl, ?_⟩) hHeld ?_
        rotate_left
        · (intro w hSw; go_simp <;> with_reducible rfl)
        simp only [Act.put, List.setIfInBounds_toArray, List.set_cons_zero, List.set_cons_succ]
        refine wpAnyH_take (i := 2) (oi := { dst := some 50, op := Go.Op.call { callee := Go.Callee.builtin Go.Builtin.len, args := #[Go.Operand.tmp 49], argTypes := #[57] }, type := 3, pos := "law.go:132", after := #[{ on := 1, ground := Go.Ground.data }], guard := none }) (v := ?_) rfl (by kernel_rfl) (by kernel_rfl) (by kernel_rfl) (fun _ _ _ h => h) (Or.inl ⟨by rfl, ?_⟩) hHeld ?_
        rotate_left
        · (intro w hSw; go_simp <;> with_reducible rfl)
        simp only [Act.put, List.setIfInBounds_toArray, List.set_cons_zero, List.set_cons_succ]
        refine wpAnyH_take (i := 3) (oi := { dst := some 51, op := Go.Op.binOp Go.BinOp.mul 3 (Go.Operand.const (Go.Value.int Go.IntKind.i64 10)) (Go.Operand.tmp 50) 3, type := 3, pos := "law.go:132", after := #[{ on := 2, ground := Go.Ground.data }], guard := none }) (v := ?_) rfl (by kernel_rfl) (by kernel_rfl) (by kernel_rfl) (fun _ _ _ h => h) (Or.inl ⟨by rfl, ?_⟩) hHeld ?_
        rotate_left
        · (intro w hSw; go_simp <;> with_reducible rfl)
        simp only [Act.put, List.setIfInBounds_toArray, List.set_cons_zero, List.set_cons_succ]
        refine wpAnyH_take (i := 4) (oi := { dst := some 52, op := Go.Op.convert 3 43 (Go.Operand.tmp 51), type := 43, pos := "law.go:132", after := #[{ on := 3, ground := Go.Ground.data }], guard := none }) (v := ?_) rfl (by kernel_rfl) (by kernel_rfl) (by kernel_rfl) (fun _ _ _ h => h) (Or.inl ⟨by rfl, ?_⟩) hHeld ?_
        rotate_left
        · (intro w hSw; go_simp <;> with_reducible rfl)
        simp only [Act.put, List.setIfInBounds_toArray, List.set_cons_zero, List.set_cons_succ]
        refine wpAnyH_take (i := 5) (oi := { dst := some 53, op := Go.Op.move (Go.Operand.tmp 1), type := 56, pos := "law.go:132", after := #[], guard := none }) (v := ?_) rfl (by kernel_rfl) (by kernel_rfl) (by kernel_rfl) (fun _ _ _ h => h) (Or.inl ⟨by rfl, ?_⟩) hHeld ?_
        rotate_left
        · (intro w hSw; go_simp <;> with_reducible rfl)
        simp only [Act.put, List.setIfInBounds_toArray, List.set_cons_zero, List.set_cons_succ]
        refine wpAnyH_take (i := 6) (oi := { dst := some 54, op := Go.Op.move (Go.Operand.tmp 9), type := 3, pos := "law.go:132", after := #[], guard := none }) (v := ?_) rfl (by kernel_rfl) (by kernel_rfl) (by kernel_rfl) (fun _ _ _ h => h) (Or.inl ⟨by rfl, ?_⟩) hHeld ?_
        rotate_left
        · (intro w hSw; go_simp <;> with_reducible rfl)
        simp only [Act.put, List.setIfInBounds_toArray, List.set_cons_zero, List.set_cons_succ]
        refine wpAnyH_take (i := 7) (oi := { dst := some 55, op := Go.Op.indexAddr 56 (Go.Operand.tmp 53) (Go.Operand.tmp 54), type := 0, pos := "law.go:132", after := #[{ on := 5, ground := Go.Ground.data }, { on := 6, ground := Go.Ground.data }], guard := none }) (v := ?_) rfl (by kernel_rfl) (by kernel_rfl) (by kernel_rfl) (fun _ _ _ h => h) (Or.inl ⟨by rfl, ?_⟩) hHeld ?_
        rotate_left
        · (intro w hSw; go_simp <;> with_reducible rfl)
        simp only [Act.put, List.setIfInBounds_toArray, List.set_cons_zero, List.set_cons_succ]
        refine wpAnyH_take (i := 8) (oi := { dst := some 56, op := Go.Op.load 22 (Go.Operand.tmp 55), type := 22, pos := "law.go:132", after := #[{ on := 7, ground := Go.Ground.data }], guard := none }) (v := ?_) rfl (by kernel_rfl) (by kernel_rfl) (by kernel_rfl) (fun _ _ _ h => h) (Or.inl ⟨by rfl, ?_⟩) hHeld ?_
        rotate_left
        · (intro w hSw; go_simp <;> with_reducible rfl)
        simp only [Act.put, List.setIfInBounds_toArray, List.set_cons_zero, List.set_cons_succ]
        refine wpAnyH_ready (rs := [9, 13]) (by kernel_rfl) (by simp) (AllReadyH.cons (o := { dst := some 57, op := Go.Op.call { callee := Go.Callee.value (Go.Operand.func 28), args := #[Go.Operand.tmp 48, Go.Operand.tmp 52, Go.Operand.tmp 56], argTypes := #[45, 43, 22] }, type := 47, pos := "law.go:132", after := #[{ on := 0, ground := Go.Ground.data }, { on := 4, ground := Go.Ground.data }, { on := 8, ground := Go.Ground.data }], guard := none }) rfl (fun K hK => ?_) (AllReadyH.cons (o := { dst := some 11, op := Go.Op.alloc 45, type := 0, pos := "law.go:132", after := #[], guard := none }) rfl (fun K hK => ?_) AllReadyH.nil))
        · go_simp
          refine (RBX.out _ hA.out).mono ?_
          rintro e w6 ⟨da, dc, rfl, ht6, hb6, hbw6, hf6⟩
          have hb6 := Lib.hid hb6
          have hS6 := Lib.hid (KS.out _ _ hbw6 hHeld)
          have h56 : w5.heap.size ≤ w6.heap.size := hb6.out.size
          clear hbw6
          (try simp only)
          refine hK.out _ _ ?_ (fun hHeld => ?_)
          · exact hS6.out
          clear hK K
          (try simp only [Act.put, List.setIfInBounds_toArray, List.set_cons_zero, List.set_cons_succ])
          refine wpAnyH_take (i := 10) (oi := { dst := some 47, op := Go.Op.move (Go.Operand.tmp 57), type := 47, pos := "law.go:132", after := #[{ on := 9, ground := Go.Ground.data }], guard := none }) (v := ?_) rfl (by kernel_rfl) (by kernel_rfl) (by kernel_rfl) (fun _ _ _ h => h) (Or.inl ⟨by rfl, ?_⟩) hHeld ?_
          rotate_left
          · (intro w hSw; go_simp <;> with_reducible rfl)
          simp only [Act.put, List.setIfInBounds_toArray, List.set_cons_zero, List.set_cons_succ]
          refine wpAnyH_take (i := 11) (oi := { dst := some 58, op := Go.Op.extract (Go.Operand.tmp 47) 0, type := 45, pos := "law.go:132", after := #[{ on := 10, ground := Go.Ground.data }], guard := none }) (v := ?_) rfl (by kernel_rfl) (by kernel_rfl) (by kernel_rfl) (fun _ _ _ h => h) (Or.inl ⟨by rfl, ?_⟩) hHeld ?_
          rotate_left
          · (intro w hSw; go_simp <;> with_reducible rfl)
          simp only [Act.put, List.setIfInBounds_toArray, List.set_cons_zero, List.set_cons_succ]
          refine wpAnyH_take (i := 12) (oi := { dst := some 59, op := Go.Op.extract (Go.Operand.tmp 47) 1, type := 30, pos := "law.go:132", after := #[{ on := 10, ground := Go.Ground.data }, { on := 14, ground := Go.Ground.gcOnly Go.Departure.lateStores }], guard := none }) (v := ?_) rfl (by kernel_rfl) (by kernel_rfl) (by kernel_rfl) (fun _ _ _ h => h) (Or.inl ⟨by rfl, ?_⟩) hHeld ?_
          rotate_left
          · (intro w hSw; go_simp <;> with_reducible rfl)
          simp only [Act.put, List.setIfInBounds_toArray, List.set_cons_zero, List.set_cons_succ]
          refine wpAnyH_ready (rs := [13]) (by kernel_rfl) (by simp) (AllReadyH.cons (o := { dst := some 11, op := Go.Op.alloc 45, type := 0, pos := "law.go:132", after := #[], guard := none }) rfl (fun K hK => ?_) AllReadyH.nil)
          · go_simp
            refine hK.out _ _ ?_ (fun hHeld => ?_)
            · exact KS.out _ _ (alloc_below _ _) hHeld
            clear hK K
            (try simp only [Act.put, List.setIfInBounds_toArray, List.set_cons_zero, List.set_cons_succ])
            refine wpAnyH_ready (rs := [14]) (by kernel_rfl) (by simp) (AllReadyH.cons (o := { dst := none, op := Go.Op.store 45 (Go.Operand.tmp 11) (Go.Operand.tmp 58), type := 0, pos := "law.go:132", after := #[{ on := 13, ground := Go.Ground.data }, { on := 11, ground := Go.Ground.data }, { on := 9, ground := Go.Ground.chain }, { on := 0, ground := Go.Ground.phase }, { on := 1, ground := Go.Ground.phase }, { on := 2, ground := Go.Ground.phase }, { on := 3, ground := Go.Ground.phase }, { on := 4, ground := Go.Ground.phase }, { on := 5, ground := Go.Ground.phase }, { on := 6, ground := Go.Ground.phase }, { on := 7, ground := Go.Ground.phase }, { on := 8, ground := Go.Ground.phase }, { on := 9, ground := Go.Ground.phase }, { on := 10, ground := Go.Ground.phase }, { on := 11, ground := Go.Ground.phase }, { on := 12, ground := Go.Ground.textOnly Go.Departure.lateStores }, { on := 13, ground := Go.Ground.phase }], guard := none }) rfl (fun K hK => ?_) AllReadyH.nil)
            · have Z6 := Lib.hid (PgBox.new w6 0 0 0 0 0 (.slice none 0 0))
              refine step_store_pg rfl (.tmp 11) (.tmp 58) rfl Z6.out dk dl di dn dx da d0 dc (by rfl) (by rfl) ?_
              intro wD hPD hKD
              have hPD := Lib.hid hPD
              have hKD := Lib.hid hKD
              refine hK.out _ _ ?_ (fun hHeld => ?_)
              · exact KO.out _ _ w6.heap.size hKD.out h56 hHeld
              clear hK K
              (try simp only [Act.put, List.setIfInBounds_toArray, List.set_cons_zero, List.set_cons_succ])
              refine wpAnyH_take (i := 15) (oi := { dst := some 12, op := Go.Op.assign (Go.Operand.tmp 59), type := 30, pos := "law.go:132", after := #[{ on := 12, ground := Go.Ground.data }, { on := 14, ground := Go.Ground.chain }, { on := 0, ground := Go.Ground.phase }, { on := 1, ground := Go.Ground.phase }, { on := 2, ground := Go.Ground.phase }, { on := 3, ground := Go.Ground.phase }, { on := 4, ground := Go.Ground.phase }, { on := 5, ground := Go.Ground.phase }, { on := 6, ground := Go.Ground.phase }, { on := 7, ground := Go.Ground.phase }, { on := 8, ground := Go.Ground.phase }, { on := 9, ground := Go.Ground.phase }, { on := 10, ground := Go.Ground.phase }, { on := 11, ground := Go.Ground.phase }, { on := 12, ground := Go.Ground.phase }, { on := 13, ground := Go.Ground.phase }, { on := 14, ground := Go.Ground.phase }], guard := none }) (v := ?_) rfl (by kernel_rfl) (by kernel_rfl) (by kernel_rfl) (fun _ _ _ h => h) (Or.inl ⟨by rfl, ?_⟩) hHeld ?_
              rotate_left
              · (intro w hSw; go_simp <;> with_reducible rfl)
              simp only [Act.put, List.setIfInBounds_toArray, List.set_cons_zero, List.set_cons_succ]
              refine wpAnyH_done (by kernel_rfl) ?_ _
              go_wp2_with fail
              go_meet
              exact ⟨w6.heap.size, da, dc, rfl, rfl, hPD, Lib.hid (texts_page Z6.out (ht6.out.below (alloc_below w6 _)) hKD.out (fun h x e => by cases e)), hf6, Lib.hid (OthersKept.below (below_then hb6.out (alloc_below w6 _)) hKD.out (fun k hk e => by omega))⟩
        · go_simp
          refine hK.out _ _ ?_ (fun hHeld => ?_)
          · exact KS.out _ _ (alloc_below _ _) hHeld
          clear hK K
          (try simp only [Act.put, List.setIfInBounds_toArray, List.set_cons_zero, List.set_cons_succ])
          refine wpAnyH_ready (rs := [9]) (by kernel_rfl) (by simp) (AllReadyH.cons (o := { dst := some 57, op := Go.Op.call { callee := Go.Callee.value (Go.Operand.func 28), args := #[Go.Operand.tmp 48, Go.Operand.tmp 52, Go.Operand.tmp 56], argTypes := #[45, 43, 22] }, type := 47, pos := "law.go:132", after := #[{ on := 0, ground := Go.Ground.data }, { on := 4, ground := Go.Ground.data }, { on := 8, ground := Go.Ground.data }], guard := none }) rfl (fun K hK => ?_) AllReadyH.nil)
          · go_simp
            refine (RBX.out _ hB.out).mono ?_
            rintro e w6 ⟨da, dc, rfl, ht6, hb6, hbw6, hf6⟩
            have Z6 : PgBox w6 w5.heap.size 0 0 0 0 0 (.slice none 0 0) := PgBox.below (PgBox.new w5.drew 0 0 0 0 0 (.slice none 0 0)) hbw6
            obtain ⟨_, v0, v1, v2, v3, v4, v5⟩ := Z6.cells
            obtain ⟨g0, g1, g2, g3, g4, g5⟩ := Z6.fr
            have Z6 := Lib.hid Z6
            have hb6 := Lib.hid hb6
            have hS6 := Lib.hid (KS.out _ _ hbw6 hHeld)
            clear hbw6
            (try simp only)
            refine hK.out _ _ ?_ (fun hHeld => ?_)
            · exact hS6.out
            clear hK K
            (try simp only [Act.put, List.setIfInBounds_toArray, List.set_cons_zero, List.set_cons_succ])
            refine wpAnyH_take (i := 10) (oi := { dst := some 47, op := Go.Op.move (Go.Operand.tmp 57), type := 47, pos := "law.go:132", after := #[{ on := 9, ground := Go.Ground.data }], guard := none }) (v := ?_) rfl (by kernel_rfl) (by kernel_rfl) (by kernel_rfl) (fun _ _ _ h => h) (Or.inl ⟨by rfl, ?_⟩) hHeld ?_
            rotate_left
            · (intro w hSw; go_simp <;> with_reducible rfl)
            simp only [Act.put, List.setIfInBounds_toArray, List.set_cons_zero, List.set_cons_succ]
            refine wpAnyH_take (i := 11) (oi := { dst := some 58, op := Go.Op.extract (Go.Operand.tmp 47) 0, type := 45, pos := "law.go:132", after := #[{ on := 10, ground := Go.Ground.data }], guard := none }) (v := ?_) rfl (by kernel_rfl) (by kernel_rfl) (by kernel_rfl) (fun _ _ _ h => h) (Or.inl ⟨by rfl, ?_⟩) hHeld ?_
            rotate_left
            · (intro w hSw; go_simp <;> with_reducible rfl)
            simp only [Act.put, List.setIfInBounds_toArray, List.set_cons_zero, List.set_cons_succ]
            refine wpAnyH_take (i := 12) (oi := { dst := some 59, op := Go.Op.extract (Go.Operand.tmp 47) 1, type := 30, pos := "law.go:132", after := #[{ on := 10, ground := Go.Ground.data }, { on := 14, ground := Go.Ground.gcOnly Go.Departure.lateStores }], guard := none }) (v := ?_) rfl (by kernel_rfl) (by kernel_rfl) (by kernel_rfl) (fun _ _ _ h => h) (Or.inl ⟨by rfl, ?_⟩) hHeld ?_
            rotate_left
            · (intro w hSw; go_simp <;> with_reducible rfl)
            simp only [Act.put, List.setIfInBounds_toArray, List.set_cons_zero, List.set_cons_succ]
            refine wpAnyH_ready (rs := [14]) (by kernel_rfl) (by simp) (AllReadyH.cons (o := { dst := none, op := Go.Op.store 45 (Go.Operand.tmp 11) (Go.Operand.tmp 58), type := 0, pos := "law.go:132", after := #[{ on := 13, ground := Go.Ground.data }, { on := 11, ground := Go.Ground.data }, { on := 9, ground := Go.Ground.chain }, { on := 0, ground := Go.Ground.phase }, { on := 1, ground := Go.Ground.phase }, { on := 2, ground := Go.Ground.phase }, { on := 3, ground := Go.Ground.phase }, { on := 4, ground := Go.Ground.phase }, { on := 5, ground := Go.Ground.phase }, { on := 6, ground := Go.Ground.phase }, { on := 7, ground := Go.Ground.phase }, { on := 8, ground := Go.Ground.phase }, { on := 9, ground := Go.Ground.phase }, { on := 10, ground := Go.Ground.phase }, { on := 11, ground := Go.Ground.phase }, { on := 12, ground := Go.Ground.textOnly Go.Departure.lateStores }, { on := 13, ground := Go.Ground.phase }], guard := none }) rfl (fun K hK => ?_) AllReadyH.nil)
            · refine step_store_pg rfl (.tmp 11) (.tmp 58) rfl Z6.out dk dl di dn dx da d0 dc (by rfl) (by rfl) ?_
              intro wD hPD hKD
              have hPD := Lib.hid hPD
              have hKD := Lib.hid hKD
              refine hK.out _ _ ?_ (fun hHeld => ?_)
              · exact KO.out _ _ w5.heap.size hKD.out (Nat.le_refl _) hHeld
              clear hK K
              (try simp only [Act.put, List.setIfInBounds_toArray, List.set_cons_zero, List.set_cons_succ])
              refine wpAnyH_take (i := 15) (oi := { dst := some 12, op := Go.Op.assign (Go.Operand.tmp 59), type := 30, pos := "law.go:132", after := #[{ on := 12, ground := Go.Ground.data }, { on := 14, ground := Go.Ground.chain }, { on := 0, ground := Go.Ground.phase }, { on := 1, ground := Go.Ground.phase }, { on := 2, ground := Go.Ground.phase }, { on := 3, ground := Go.Ground.phase }, { on := 4, ground := Go.Ground.phase }, { on := 5, ground := Go.Ground.phase }, { on := 6, ground := Go.Ground.phase }, { on := 7, ground := Go.Ground.phase }, { on := 8, ground := Go.Ground.phase }, { on := 9, ground := Go.Ground.phase }, { on := 10, ground := Go.Ground.phase }, { on := 11, ground := Go.Ground.phase }, { on := 12, ground := Go.Ground.phase }, { on := 13, ground := Go.Ground.phase }, { on := 14, ground := Go.Ground.phase }], guard := none }) (v := ?_) rfl (by kernel_rfl) (by kernel_rfl) (by kernel_rfl) (fun _ _ _ h => h) (Or.inl ⟨by rfl, ?_⟩) hHeld ?_
              rotate_left
              · (intro w hSw; go_simp <;> with_reducible rfl)
              simp only [Act.put, List.setIfInBounds_toArray, List.set_cons_zero, List.set_cons_succ]
              refine wpAnyH_done (by kernel_rfl) ?_ _
              go_wp2_with fail
              go_meet
              exact ⟨w5.heap.size, da, dc, rfl, rfl, hPD, Lib.hid (texts_page Z6.out ht6.out hKD.out (fun h x e => by cases e)), hf6, Lib.hid (OthersKept.below hb6.out hKD.out (fun k hk e => by omega))⟩
      case rest =>
        obtain ⟨gq, da, dc, rfl, rfl, HPQ, HTQ, FR6, HBQ⟩ := hcut
        have b7 := HBQ.out
        have B7 := Lib.hid (below_then B5.out b7)
        have O7 := Lib.hid (O5.out.below b7)
        have D7 := Lib.hid (own_below D5.out b7)
        have L7 := Lib.hid (L5.out.below b7)
        have T7 := HTQ
        have Q7 := HPQ
        have OL7 := b7
        generalize wc = w7 at *
        clear b7 B5 O5 D5 OL5 L5 HBQ HPQ HTQ
        obtain ⟨_, y0, y1, y2, y3, y4, y5⟩ := L7.out.cells
        obtain ⟨_, z0, z1, z2, z3, z4, z5⟩ := Q7.out.cells
        by_cases her : err = 0
        · subst her
          have e0 : ((0 : Int) != 0) = false := rfl
          by_cases hdq : dn = qn
          · have hdi : ((dn : Int) == (qn : Int)) = true := by simp; omega
            clear hdq
            go_wp2_with fail
            go_roundw
            case rel => exact ⟨i + 1, m, g, c7, b8, c8, LP, LD, by go_num, by omega, rfl, rfl, by omega, HST, O7, D7, HF, B7⟩
            case measure => simp [intOf] <;> omega
          · have hdi : ((dn : Int) == (qn : Int)) = false := by simp; omega
            have HDQ := Lib.hid hdq
            clear hdq
            have b8a := alloc_below w7 (.cells #[.int .u8 dk, .int .u8 dl, .int .u32 di, .int .u64 dn, .int .u32 dx, .slice da d0 dc] 45)
            have B8 := Lib.hid (below_then B7.out b8a)
            have O8 := Lib.hid (O7.out.below b8a)
            have D8 := Lib.hid (own_below D7.out b8a)
            have hx8 : (#[.int .u8 dk, .int .u8 dl, .int .u32 di, .int .u64 dn, .int .u32 dx, .slice da d0 dc] : Array Value) = (Pv.cell ⟨⟨dk, dl, di, dn, dx, dr⟩, da, dc⟩).toArray := by rw [HD0.out]; rfl
            have n8 := pv_news w7 ⟨⟨dk, dl, di, dn, dx, dr⟩, da, dc⟩
            rw [← hx8] at n8
            have N8 := Lib.hid n8
            have t7 := T7.out
            rw [HD0.out] at t7
            have t8 := t7.below b8a
            have T8 := Lib.hid t8
            have o8 := O8.out.1
            rw [HST.out.1] at o8
            have OO8 := Lib.hid o8
            have hbs : w.heap.size ≤ (w7.alloc (.cells #[.int .u8 dk, .int .u8 dl, .int .u32 di, .int .u64 dn, .int .u32 dx, .slice da d0 dc] 45)).heap.size := B8.out.size
            have fr := FR6.out
            rw [HD0.out, HK0.out] at fr
            have hfe := HFE.out
            rw [HK0.out] at hfe
            have hfv := HFV.out
            rw [HK0.out] at hfv
            have FX7 : Hid (Far (Pv.sv ⟨⟨dk, dl, di, dn, dx, dr⟩, da, dc⟩) (.slice (some ⟨g, 0, none⟩) (m + 1) c7) dr.length) := Lib.hid (far_new fr hfv (fun e => by injection e) (fun k hk => by injection hk with hk; rw [← hk]; exact HGW.out))
            have FX8 : Hid (Far (Pv.sv ⟨⟨dk, dl, di, dn, dx, dr⟩, da, dc⟩) (.slice b8 m c8) dr.length) := Lib.hid (far_new fr hfe (fun e => by injection e) HDW.out)
            clear b8a hx8 n8 t8 o8 fr hfe hfv
            go_upto_region 14 with fail
            go_wp2_with (at_builtin; refine wpList_append_two rfl (.tmp 69) (.tmp 71) 57 rfl w.heap.size 45 i0 (.agg #[.int .u8 0, .int .u8 0, .int .u32 0, .int .u64 0, .int .u32 0, .slice none 0 0]) 6 48 Try.underlying57 HI.out HI0.out HI1.out HI2.out rfl (by decide) (.slice (some ⟨g, 0, none⟩) (m + 1) c7) (m + 1) (LP.flatMap Pv.cell) (by rfl) OO8.out ⟨w7.heap.size, 0, none⟩ 1 1 (Pv.cell ⟨⟨dk, dl, di, dn, dx, dr⟩, da, dc⟩) (by rfl) rfl N8.out (pv_one _) (by unfold maxLen; omega) (by omega) hbs ?_; intro v9 w9 ho9 hg9 hd9; refine Aside.out ?_)
            have hx9 : (LP ++ [(⟨⟨dk, dl, di, dn, dx, dr⟩, da, dc⟩ : Pv)]).length = m + 1 + 1 := by rw [List.length_append, HST.out.1]; rfl
            have po9 := O8.out.snoc (e := ⟨⟨dk, dl, di, dn, dx, dr⟩, da, dc⟩) T8.out FX7.out (by rw [HST.out.1]; exact ho9) hg9 hd9
            obtain ⟨g9, c9, hv9, _, hc9, _, _⟩ := pgs_form po9 (by rw [hx9]; omega)
            rw [hx9] at hv9
            subst hv9
            have O9 := Lib.hid po9
            have D9 := Lib.hid (D8.out.kept hg9 (own_types D8.out OO8.out (by decide)))
            have B9 := Lib.hid (B8.out.grown hg9 hbs (fun j hj => by have := (OO8.out.lt j hj).1; omega))
            have hfa9 : FarAll (LP ++ [(⟨⟨dk, dl, di, dn, dx, dr⟩, da, dc⟩ : Pv)]) (.slice b8 m c8) := by
              intro y hy
              rcases List.mem_append.1 hy with hy | hy
              · exact HF.out y hy
              · rw [List.mem_singleton.1 hy]; exact FX8.out
            have F9 := Lib.hid hfa9
            have x9 := (B9.out.cell (p := ⟨vb, vo + i, none⟩) HX0.out.1).trans HX0.out.2
            unfold Aside
            clear po9 hx9 hfa9 ho9 hg9 hd9 y0 y1 y2 y3 y4 y5 z0 z1 z2 z3 z4 z5 O8 D8 B8 OO8 N8 T8 FX7 FX8 hbs L7 Q7 O7 D7 B7 T7 OL7
            have D10 := Lib.hid (own_below D9.out (alloc_below w9 (.cells #[.slice la ln lc] 22)))
            have O10 := Lib.hid (O9.out.below (alloc_below w9 (.cells #[.slice la ln lc] 22)))
            have B10 := Lib.hid (below_then B9.out (alloc_below w9 (.cells #[.slice la ln lc] 22)))
            have hbs : w.heap.size ≤ (w9.alloc (.cells #[.slice la ln lc] 22)).heap.size := B10.out.size
            go_wp2_with (at_builtin; refine wpList_append_two rfl (.tmp 73) (.tmp 78) 56 rfl w.heap.size 22 j0 (.slice none 0 0) 1 24 Try.underlying56 HJ.out HJ0.out HJ1.out HJ2.out rfl (by decide) (.slice b8 m c8) m (LD.map Prod.fst) (by rfl) D10.out ⟨w9.heap.size, 0, none⟩ 1 1 [.slice la ln lc] (by rfl) rfl (one_new _ _ _) (fun u hu => by rw [List.mem_singleton.1 hu]; rfl) (by unfold maxLen; omega) (by omega) hbs ?_; intro v11 w11 ho11 hg11 hd11; refine Aside.out ?_)
            have O11 := Lib.hid (O10.out.grown hg11 (own_types O10.out.1 D10.out (by decide)) F9.out)
            have F11 := Lib.hid (F9.out.next (fun e he => (O10.out.2 e he).1) hd11)
            have B11 := Lib.hid (B10.out.grown hg11 hbs (fun j hj => by have := (D10.out.lt j hj).1; omega))
            obtain ⟨b11, c11, rfl, _, hc11, _⟩ := own_form ho11
            have D11 : Hid (w11.ownsRow w.heap.size 22 1 (.slice b11 (m + 1) c11) (m + 1) ((LD ++ [(Value.slice la ln lc, L)]).map Prod.fst)) := by
              show World.ownsRow _ _ _ _ _ _ _
              rw [List.map_append]
              exact ho11
            have ST11 : Hid (RedoSt LL (LP ++ [(⟨⟨dk, dl, di, dn, dx, dr⟩, da, dc⟩ : Pv)]) (LD ++ [(Value.slice la ln lc, L)]) (m + 1)) := Lib.hid (HST.out.snoc (e := ⟨⟨qk, ql, qi, qn, qx, qr⟩, b0, c0⟩) HLAST.out (by show redoB _ _ _ = _; rw [← HLS.out]; exact HR.out.symm) HDQ.out ROK.out ⟨HME.out, HSM.out⟩)
            unfold Aside
            clear ho11 hg11 hd11
            go_wp2_with fail
            go_roundw
            case rel => exact ⟨i + 1, m + 1, g9, c9, b11, c11, _, _, by go_num, by omega, rfl, rfl, by omega, ST11, O11, D11, F11, B11⟩
            case measure => simp [intOf] <;> omega
        · have hei : (err != 0) = true := by simp; omega
          clear her
          go_wp2_with fail
          go_roundw
          case rel => exact ⟨i + 1, m, g, c7, b8, c8, LP, LD, by go_num, by omega, rfl, rfl, by omega, HST, O7, D7, HF, B7⟩
          case measure => simp [intOf] <;> omega
    · have hci : ¬ (i : Int) < (vn : Int) := by omega
      obtain ⟨k, hk⟩ : ∃ k, k = fr % (m + 1) := ⟨_, rfl⟩
      have hkm : k ≤ m := by have := Nat.mod_lt fr (show 0 < m + 1 by omega); omega
      have c1 : IntKind.i64.wrap ((fr : Nat) : Int) = ((fr : Nat) : Int) := IntWalk.i64_in _ ⟨by omega, by omega⟩
      have c2 : ((fr : Nat) : Int).tmod ((m : Int) + 1) = (k : Int) := by rw [hk]; exact (Int.ofNat_tmod fr (m + 1)).symm
      have c3 : ¬ ((m : Int) + 1) = 0 := by omega
      have c4 : IntKind.i64.wrap (k : Int) = (k : Int) := IntWalk.i64_in _ ⟨by omega, by omega⟩
      have k1 : (0 : Int) ≤ (k : Int) := by omega
      have k2 : (k : Int) < (m : Int) + 1 := by omega
      clear hk
      obtain ⟨⟨⟨qk, ql, qi, qn, qx, qr⟩, b0, c0⟩, ⟨hm, hme⟩, hewf, hewt, hlast⟩ := HST.out.at_ k hkm
      have hcl := fun (j : Nat) (v : Value) (hv : (Pv.cell ⟨⟨qk, ql, qi, qn, qx, qr⟩, b0, c0⟩)[j]? = some v) => HO.out.cell k hm j v (by rw [hme]; exact hv)
      obtain ⟨k0, hk0⟩ : ∃ k, k = qr.length := ⟨_, rfl⟩
      have hte := (HO.out.2 LP[k] (List.getElem_mem hm))
      rw [hme] at hte
      have y0 := hcl 0 _ rfl
      have y1 := hcl 1 _ rfl
      have y2 := hcl 2 _ rfl
      have y3 := hcl 3 _ rfl
      have y4 := hcl 4 _ rfl
      have y5 := hcl 5 _ rfl
      simp only [Pv.sv, Nat.add_zero] at y0 y1 y2 y3 y4 y5 hte
      rw [← hk0] at y5 hte
      have HQ0 : Hid ((LP.map Pv.p).getD (max k 0) Pg.zero = ⟨qk, ql, qi, qn, qx, qr⟩) := by
        show _ = _
        rw [Nat.max_eq_left (Nat.zero_le _)]; exact hlast
      have HW0 : Hid ((⟨qk, ql, qi, qn, qx, qr⟩ : Pg).wf ∧ weightB qr ≤ 20000) := Lib.hid ⟨hewf, hewt⟩
      have HK0 := Lib.hid hk0
      have HTE := Lib.hid hte.1
      have hgw : g < wr.heap.size := (HO.out.1.lt g rfl).2
      have HDG : Hid (∀ j, (Value.slice b8 m c8).ownBlock = some j → j < wr.heap.size) := Lib.hid fun j hj => (HD.out.lt j hj).2
      clear hcl hlast hk0 hewf hewt hte hme hm
      go_upto_region 18 with fail
      have b5 := alloc_below wr (.cells #[.int .u8 qk, .int .u8 ql, .int .u32 qi, .int .u64 qn, .int .u32 qx, .slice b0 k0 c0] 45)
      have B5 := Lib.hid (below_then HB.out b5)
      have O5 := Lib.hid (HO.out.below b5)
      have D5 := Lib.hid (own_below HD.out b5)
      have T5 := Lib.hid (HTE.out.below b5)
      have Q5 := Lib.hid (PgBox.new wr qk ql qi qn qx (.slice b0 k0 c0))
      obtain ⟨gq, hgq⟩ : ∃ x, x = wr.heap.size := ⟨_, rfl⟩
      rw [← hgq] at Q5 hgw HDG ⊢
      generalize wr.alloc (.cells #[.int .u8 qk, .int .u8 ql, .int .u32 qi, .int .u64 qn, .int .u32 qx, .slice b0 k0 c0] 45) = w5 at *
      clear y0 y1 y2 y3 y4 y5 b5 HB HO HD HTE HF hgq c1 c2 c3 c4 k1 k2
      go_wp2_with fail
      go_loopw [15] (fun s15 wv => ∃ (i2 fk fl fi fn fx : Nat) (fr2 : List (List UInt8)) (fa : Option Addr) (f0 fc : Nat), s15 = .int .i64 i2 ∧ i2 ≤ m ∧ Hid (f0 = fr2.length) ∧ Hid ((LP.map Pv.p).getD (max k i2) Pg.zero = ⟨fk, fl, fi, fn, fx, fr2⟩) ∧ Hid ((⟨fk, fl, fi, fn, fx, fr2⟩ : Pg).wf ∧ weightB fr2 ≤ 20000) ∧ Hid (TextsAt wv (.slice fa f0 fc) fr2) ∧ Hid (PgBox wv gq fk fl fi fn fx (.slice fa f0 fc)) ∧ Hid (PgsOwn wv w.heap.size (.slice (some ⟨g, 0, none⟩) (m + 1) c7) LP) ∧ Hid (wv.ownsRow w.heap.size 22 1 (.slice b8 m c8) m (LD.map Prod.fst)) ∧ Hid (Below w.heap.size w wv)) (fun v _ => m - (intOf v).toNat)
      case atStart => exact ⟨0, qk, ql, qi, qn, qx, qr, b0, k0, c0, rfl, Nat.zero_le _, HK0, HQ0, HW0, T5, Q5, O5, D5, B5⟩
      case round =>
        clear HQ0 HW0 HK0 T5 Q5 O5 D5 B5
        obtain ⟨i2, fk, fl, fi, fn, fx, fr2, fa, f0, fc, rfl, hi2, HF0, HQ, HW, HT2, HQB, HO, HD, HB⟩ := hrel
        by_cases hc2 : i2 < m
        · have hci2 : (i2 : Int) < (m : Int) := by omega
          have q1 : (0 : Int) ≤ (i2 : Int) := by omega
          have hil : i2 < LD.length := by rw [HST.out.2.1]; exact hc2
          obtain ⟨g8, rfl⟩ := own_base1 HD.out (by omega)
          have hx := own_cell HD.out i2 LD[i2].1 (by rw [List.getElem?_map, List.getElem?_eq_getElem hil]; rfl)
          have hd2 := HST.out.2.2.2.2 LD[i2] (List.getElem_mem hil)
          have hgd : (LD.map fun d => d.2.map Ov.o).getD i2 [] = LD[i2].2.map Ov.o := by rw [List.getD_eq_getElem?_getD, List.getElem?_map, List.getElem?_eq_getElem hil]; rfl
          have hstep := HST.out.2.2.1.step k i2 (by rw [List.length_map, HST.out.2.1]; exact hkm) (by rw [List.length_map]; exact hil)
          rw [hgd, HQ.out] at hstep
          obtain ⟨ex, hex, hxw, hxt, hxe⟩ := HST.out.at_ (max k (i2 + 1)) (by omega)
          have hnx : ((LP.map Pv.p).getD (max k (i2 + 1)) Pg.zero).wf ∧ weightB ((LP.map Pv.p).getD (max k (i2 + 1)) Pg.zero).rows ≤ 20000 := by rw [hxe]; exact ⟨hxw, hxt⟩
          have hlw := HLW.out LD[i2] hd2.1
          have hol : OpsAt w LD[i2].1 LD[i2].2 := by
            obtain ⟨_, _, _, _, _, _, h⟩ := HL.out
            exact h _ hd2.1
          have hsz := (sizes_mem hd2.2).2
          clear hgd hxw hxt hxe hex
          generalize LD[i2] = dl9 at *
          obtain ⟨lv, L⟩ := dl9
          simp only at hx hstep hlw hol hsz
          clear hd2
          have hol2 := hol
          obtain ⟨la, lc, rfl, hol3⟩ := hol2
          clear hol3
          obtain ⟨ln, hln⟩ : ∃ k, k = L.length := ⟨_, rfl⟩
          rw [← hln] at hol hx
          have HLL := Lib.hid hlw
          have HSZ := Lib.hid hsz
          have OLr := Lib.hid (hol.below HB.out)
          have x0 := hx
          have TEr := HT2
          obtain ⟨ls, hls⟩ : ∃ ls : Nat, ls = 10 * (i2 + 1) := ⟨_, rfl⟩
          rw [← hls] at hstep
          have RB := Lib.hid fun W (hL : OpsAt W (.slice la ln lc) L) (ht : TextsAt W (.slice fa f0 fc) fr2) => opRedoG_any ⟨fk, fl, fi, fn, fx, fr2⟩ (.slice fa f0 fc) (.slice la ln lc) ls L W ht HW.out.1 (by omega) (by have := HW.out.2; simp only at this ⊢; omega) hL (fun e he => (HLL.out e he).1) (fun e he => small_of (HSZ.out e he))
          rw [hstep] at RB
          obtain ⟨R, hR⟩ : ∃ R, R = ((LP.map Pv.p).getD (max k (i2 + 1)) Pg.zero, (0 : Int)) := ⟨_, rfl⟩
          rw [← hR] at RB
          have HSTEP := Lib.hid hR
          have HNX := Lib.hid hnx
          have m0 : IntKind.i64.wrap ((i2 : Int) + 1) = (i2 : Int) + 1 := IntWalk.i64_in _ ⟨by omega, by omega⟩
          have m1 : IntKind.i64.wrap ((10 : Int) * ((i2 : Int) + 1)) = (ls : Int) := by rw [hls]; exact IntWalk.i64_in _ ⟨by omega, by omega⟩
          have m2 : IntKind.u64.wrap (ls : Int) = (ls : Int) := IntWalk.u64_in _ ⟨by omega, by omega⟩
          unfold pgV at RB
          simp only at RB
          obtain ⟨hgql, y0, y1, y2, y3, y4, y5⟩ := HQB.out.cells
          have hwg : w.heap.size ≤ g := (HO.out.1.lt g rfl).1
          clear hR hls hstep hnx hx hlw hol hsz hln hgql
          go_upto_region 21 with fail
          obtain ⟨⟨dk, dl, di, dn, dx, dr⟩, err⟩ := R
          obtain ⟨d0, hd0⟩ : ∃ k, k = dr.length := ⟨_, rfl⟩
          have HD0 := Lib.hid hd0
          have RBX : Hid (∀ W, Below wr.heap.size wr W → Calls Try.prog 28 #[.agg #[.int .u8 fk, .int .u8 fl, .int .u32 fi, .int .u64 fn, .int .u32 fx, .slice fa f0 fc], .int .u64 ls, .slice la ln lc] W fun e w' => ∃ da dc, e = .returned (.tuple #[.agg #[.int .u8 dk, .int .u8 dl, .int .u32 di, .int .u64 dn, .int .u32 dx, .slice da d0 dc], .int .i64 err]) ∧ Hid (TextsAt w' (.slice da d0 dc) dr) ∧ Below wr.heap.size wr w' ∧ Below W.heap.size W w' ∧ Hid (Value.slice da d0 dc = .slice fa f0 fc ∨ ∀ k, (Value.slice da d0 dc).ownBlock = some k → wr.heap.size ≤ k)) := Lib.hid fun W hW => (RB.out W (OLr.out.below hW) (TEr.out.below hW)).mono (by
            rintro e w' ⟨sv', rfl, ht', hb', hf'⟩
            have ht2 := ht'
            obtain ⟨da, dc, rfl, hd3⟩ := ht2
            simp only at ht' hf'
            refine ⟨da, dc, by unfold pgV; rw [HD0.out], by rw [HD0.out]; exact Lib.hid ht', below_then hW hb', hb', ?_⟩
            rw [HD0.out]
            rcases hf' with h | h
            · exact Lib.hid (.inl h)
            · exact Lib.hid (.inr fun k hk => Nat.le_trans hW.size (h k hk)))
          have hA := Lib.hid ((Below.refl wr.heap.size wr).drew)
          have hB := Lib.hid (hA.out.alloc hA.out.size (.cells #[.int .u8 0, .int .u8 0, .int .u32 0, .int .u64 0, .int .u32 0, .slice none 0 0] 45))
          clear RB TEr hd0
          go_cut [16, 17] (fun s16 s17 w' => ∃ (gx : Nat) (da : Option Addr) (dc : Nat), s16 = .pointer (some ⟨gx, 0, none⟩) ∧ s17 = .int .i64 err ∧ Hid (PgBox w' gx dk dl di dn dx (.slice da d0 dc)) ∧ Hid (TextsAt w' (.slice da d0 dc) dr) ∧ Hid (Value.slice da d0 dc = .slice fa f0 fc ∨ ∀ k, (Value.slice da d0 dc).ownBlock = some k → wr.heap.size ≤ k) ∧ Hid (Below wr.heap.size wr w'))
          case first =>
            clear HSTEP HNX
            have hg85 : g8 < wr.heap.size := cell_lt x0
            have hv45 : gq < wr.heap.size := cell_lt y0
            have KS := Lib.hid fun W W' (hb : Below W.heap.size W W') (h : W.cell? ⟨g8, i2, none⟩ = some (.slice la ln lc) ∧ W.cell? ⟨gq, 0, none⟩ = some (.int .u8 fk) ∧ W.cell? ⟨gq, 1, none⟩ = some (.int .u8 fl) ∧ W.cell? ⟨gq, 2, none⟩ = some (.int .u32 fi) ∧ W.cell? ⟨gq, 3, none⟩ = some (.int .u64 fn) ∧ W.cell? ⟨gq, 4, none⟩ = some (.int .u32 fx) ∧ W.cell? ⟨gq, 5, none⟩ = some (.slice fa f0 fc)) => (⟨keep_cell hb h.1, keep_cell hb h.2.1, keep_cell hb h.2.2.1, keep_cell hb h.2.2.2.1, keep_cell hb h.2.2.2.2.1, keep_cell hb h.2.2.2.2.2.1, keep_cell hb h.2.2.2.2.2.2⟩ : W'.cell? ⟨g8, i2, none⟩ = some (.slice la ln lc) ∧ W'.cell? ⟨gq, 0, none⟩ = some (.int .u8 fk) ∧ W'.cell? ⟨gq, 1, none⟩ = some (.int .u8 fl) ∧ W'.cell? ⟨gq, 2, none⟩ = some (.int .u32 fi) ∧ W'.cell? ⟨gq, 3, none⟩ = some (.int .u64 fn) ∧ W'.cell? ⟨gq, 4, none⟩ = some (.int .u32 fx) ∧ W'.cell? ⟨gq, 5, none⟩ = some (.slice fa f0 fc))
            have KO := Lib.hid fun W W' gg (hb : OthersKept W W' (fun x => x = gg)) (hg : wr.heap.size ≤ gg) (h : W.cell? ⟨g8, i2, none⟩ = some (.slice la ln lc) ∧ W.cell? ⟨gq, 0, none⟩ = some (.int .u8 fk) ∧ W.cell? ⟨gq, 1, none⟩ = some (.int .u8 fl) ∧ W.cell? ⟨gq, 2, none⟩ = some (.int .u32 fi) ∧ W.cell? ⟨gq, 3, none⟩ = some (.int .u64 fn) ∧ W.cell? ⟨gq, 4, none⟩ = some (.int .u32 fx) ∧ W.cell? ⟨gq, 5, none⟩ = some (.slice fa f0 fc)) => (⟨hb.cell h.1 (fun e => absurd (show g8 = gg from e) (by omega)), hb.cell h.2.1 (fun e => absurd (show gq = gg from e) (by omega)), hb.cell h.2.2.1 (fun e => absurd (show gq = gg from e) (by omega)), hb.cell h.2.2.2.1 (fun e => absurd (show gq = gg from e) (by omega)), hb.cell h.2.2.2.2.1 (fun e => absurd (show gq = gg from e) (by omega)), hb.cell h.2.2.2.2.2.1 (fun e => absurd (show gq = gg from e) (by omega)), hb.cell h.2.2.2.2.2.2 (fun e => absurd (show gq = gg from e) (by omega))⟩ : W'.cell? ⟨g8, i2, none⟩ = some (.slice la ln lc) ∧ W'.cell? ⟨gq, 0, none⟩ = some (.int .u8 fk) ∧ W'.cell? ⟨gq, 1, none⟩ = some (.int .u8 fl) ∧ W'.cell? ⟨gq, 2, none⟩ = some (.int .u32 fi) ∧ W'.cell? ⟨gq, 3, none⟩ = some (.int .u64 fn) ∧ W'.cell? ⟨gq, 4, none⟩ = some (.int .u32 fx) ∧ W'.cell? ⟨gq, 5, none⟩ = some (.slice fa f0 fc))
            refine wp_region_held_drew (S := fun W => W.cell? ⟨g8, i2, none⟩ = some (.slice la ln lc) ∧ W.cell? ⟨gq, 0, none⟩ = some (.int .u8 fk) ∧ W.cell? ⟨gq, 1, none⟩ = some (.int .u8 fl) ∧ W.cell? ⟨gq, 2, none⟩ = some (.int .u32 fi) ∧ W.cell? ⟨gq, 3, none⟩ = some (.int .u64 fn) ∧ W.cell? ⟨gq, 4, none⟩ = some (.int .u32 fx) ∧ W.cell? ⟨gq, 5, none⟩ = some (.slice fa f0 fc)) (by kernel_rfl) (KS.out _ _ ((Below.refl _ _).drew) ⟨x0, y0, y1, y2, y3, y4, y5⟩) (fun hHeld => ?_)
            refine wpAnyH_take (i := 0) (oi := { dst := some 96, op := Go.Op.load 45 (Go.Operand.tmp 14), type := 45, pos := "law.go:142", after := #[], guard := none }) (v := ?_) rfl (by kernel_rfl) (by kernel_rfl) (by kernel_rfl) (fun _ _ _ h => h) (Or.inl ⟨by rfl, ?_⟩) hHeld ?_
            rotate_left
            · (intro w hSw; go_simp <;> with_reducible rfl)
            simp only [Act.put, List.setIfInBounds_toArray, List.set_cons_zero, List.set_cons_succ]
            refine wpAnyH_take (i := 1) (oi := { dst := some 97, op := Go.Op.move (Go.Operand.tmp 15), type := 3, pos := "law.go:142", after := #[], guard := none }) (v := ?_) rfl (by kernel_rfl) (by kernel_rfl) (by kernel_rfl) (fun _ _ _ h => h) (Or.inl ⟨by rfl, ?_⟩) hHeld ?_
            rotate_left
            · (intro w hSw; go_simp <;> with_reducible rfl)
            simp only [Act.put, List.setIfInBounds_toArray, List.set_cons_zero, List.set_cons_succ]
            refine wpAnyH_take (i := 2) (oi := { dst := some 98, op := Go.Op.binOp Go.BinOp.add 3 (Go.Operand.tmp 97) (Go.Operand.const (Go.Value.int Go.IntKind.i64 1)) 3, type := 3, pos := "law.go:142", after := #[{ on := 1, ground := Go.Ground.data }], guard := none }) (v := ?_) rfl (by kernel_rfl) (by kernel_rfl) (by kernel_rfl) (fun _ _ _ h => h) (Or.inl ⟨by rfl, ?_⟩) hHeld ?_
            rotate_left
            · (intro w hSw; go_simp <;> with_reducible rfl)
            simp only [Act.put, List.setIfInBounds_toArray, List.set_cons_zero, List.set_cons_succ]
            refine wpAnyH_take (i := 3) (oi := { dst := some 99, op := Go.Op.binOp Go.BinOp.mul 3 (Go.Operand.const (Go.Value.int Go.IntKind.i64 10)) (Go.Operand.tmp 98) 3, type := 3, pos := "law.go:142", after := #[{ on := 2, ground := Go.Ground.data }], guard := none }) (v := ?_) rfl (by kernel_rfl) (by kernel_rfl) (by kernel_rfl) (fun _ _ _ h => h) (Or.inl ⟨by rfl, ?_⟩) hHeld ?_
            rotate_left
            · (intro w hSw; go_simp <;> with_reducible rfl)
            simp only [Act.put, List.setIfInBounds_toArray, List.set_cons_zero, List.set_cons_succ]
            refine wpAnyH_take (i := 4) (oi := { dst := some 100, op := Go.Op.convert 3 43 (Go.Operand.tmp 99), type := 43, pos := "law.go:142", after := #[{ on := 3, ground := Go.Ground.data }], guard := none }) (v := ?_) rfl (by kernel_rfl) (by kernel_rfl) (by kernel_rfl) (fun _ _ _ h => h) (Or.inl ⟨by rfl, ?_⟩) hHeld ?_
            rotate_left
            · (intro w hSw; go_simp <;> with_reducible rfl)
            simp only [Act.put, List.setIfInBounds_toArray, List.set_cons_zero, List.set_cons_succ]
            refine wpAnyH_take (i := 5) (oi := { dst := some 101, op := Go.Op.move (Go.Operand.tmp 8), type := 56, pos := "law.go:142", after := #[], guard := none }) (v := ?_) rfl (by kernel_rfl) (by kernel_rfl) (by kernel_rfl) (fun _ _ _ h => h) (Or.inl ⟨by rfl, ?_⟩) hHeld ?_
            rotate_left
            · (intro w hSw; go_simp <;> with_reducible rfl)
            simp only [Act.put, List.setIfInBounds_toArray, List.set_cons_zero, List.set_cons_succ]
            refine wpAnyH_take (i := 6) (oi := { dst := some 102, op := Go.Op.move (Go.Operand.tmp 15), type := 3, pos := "law.go:142", after := #[], guard := none }) (v := ?_) rfl (by kernel_rfl) (by kernel_rfl) (by kernel_rfl) (fun _ _ _ h => h) (Or.inl ⟨by rfl, ?_⟩) hHeld ?_
            rotate_left
            · (intro w hSw; go_simp <;> with_reducible rfl)
            simp only [Act.put, List.setIfInBounds_toArray, List.set_cons_zero, List.set_cons_succ]
            refine wpAnyH_take (i := 7) (oi := { dst := some 103, op := Go.Op.indexAddr 56 (Go.Operand.tmp 101) (Go.Operand.tmp 102), type := 0, pos := "law.go:142", after := #[{ on := 5, ground := Go.Ground.data }, { on := 6, ground := Go.Ground.data }], guard := none }) (v := ?_) rfl (by kernel_rfl) (by kernel_rfl) (by kernel_rfl) (fun _ _ _ h => h) (Or.inl ⟨by rfl, ?_⟩) hHeld ?_
            rotate_left
            · (intro w hSw; go_simp <;> with_reducible rfl)
            simp only [Act.put, List.setIfInBounds_toArray, List.set_cons_zero, List.set_cons_succ]
            refine wpAnyH_take (i := 8) (oi := { dst := some 104, op := Go.Op.load 22 (Go.Operand.tmp 103), type := 22, pos := "law.go:142", after := #[{ on := 7, ground := Go.Ground.data }], guard := none }) (v := ?_) rfl (by kernel_rfl) (by kernel_rfl) (by kernel_rfl) (fun _ _ _ h => h) (Or.inl ⟨by rfl, ?_⟩) hHeld ?_
            rotate_left
            · (intro w hSw; go_simp <;> with_reducible rfl)
            simp only [Act.put, List.setIfInBounds_toArray, List.set_cons_zero, List.set_cons_succ]
            refine wpAnyH_ready (rs := [9, 13]) (by kernel_rfl) (by simp) (AllReadyH.cons (o := { dst := some 105, op := Go.Op.call { callee := Go.Callee.value (Go.Operand.func 28), args := #[Go.Operand.tmp 96, Go.Operand.tmp 100, Go.Operand.tmp 104], argTypes := #[45, 43, 22] }, type := 47, pos := "law.go:142", after := #[{ on := 0, ground := Go.Ground.data }, { on := 4, ground := Go.Ground.data }, { on := 8, ground := Go.Ground.data }], guard := none }) rfl (fun K hK => ?_) (AllReadyH.cons (o := { dst := some 16, op := Go.Op.alloc 45, type := 0, pos := "law.go:142", after := #[], guard := none }) rfl (fun K hK => ?_) AllReadyH.nil))
            · go_simp
              refine (RBX.out _ hA.out).mono ?_
              rintro e w6 ⟨da, dc, rfl, ht6, hb6, hbw6, hf6⟩
              have hb6 := Lib.hid hb6
              have hS6 := Lib.hid (KS.out _ _ hbw6 hHeld)
              have h56 : wr.heap.size ≤ w6.heap.size := hb6.out.size
              clear hbw6
              (try simp only)
              refine hK.out _ _ ?_ (fun hHeld => ?_)
              · exact hS6.out
              clear hK K
              (try simp only [Act.put, List.setIfInBounds_toArray, List.set_cons_zero, List.set_cons_succ])
              refine wpAnyH_take (i := 10) (oi := { dst := some 95, op := Go.Op.move (Go.Operand.tmp 105), type := 47, pos := "law.go:142", after := #[{ on := 9, ground := Go.Ground.data }], guard := none }) (v := ?_) rfl (by kernel_rfl) (by kernel_rfl) (by kernel_rfl) (fun _ _ _ h => h) (Or.inl ⟨by rfl, ?_⟩) hHeld ?_
              rotate_left
              · (intro w hSw; go_simp <;> with_reducible rfl)
              simp only [Act.put, List.setIfInBounds_toArray, List.set_cons_zero, List.set_cons_succ]
              refine wpAnyH_take (i := 11) (oi := { dst := some 106, op := Go.Op.extract (Go.Operand.tmp 95) 0, type := 45, pos := "law.go:142", after := #[{ on := 10, ground := Go.Ground.data }], guard := none }) (v := ?_) rfl (by kernel_rfl) (by kernel_rfl) (by kernel_rfl) (fun _ _ _ h => h) (Or.inl ⟨by rfl, ?_⟩) hHeld ?_
              rotate_left
              · (intro w hSw; go_simp <;> with_reducible rfl)
              simp only [Act.put, List.setIfInBounds_toArray, List.set_cons_zero, List.set_cons_succ]
              refine wpAnyH_take (i := 12) (oi := { dst := some 107, op := Go.Op.extract (Go.Operand.tmp 95) 1, type := 30, pos := "law.go:142", after := #[{ on := 10, ground := Go.Ground.data }, { on := 14, ground := Go.Ground.gcOnly Go.Departure.lateStores }], guard := none }) (v := ?_) rfl (by kernel_rfl) (by kernel_rfl) (by kernel_rfl) (fun _ _ _ h => h) (Or.inl ⟨by rfl, ?_⟩) hHeld ?_
              rotate_left
              · (intro w hSw; go_simp <;> with_reducible rfl)
              simp only [Act.put, List.setIfInBounds_toArray, List.set_cons_zero, List.set_cons_succ]
              refine wpAnyH_ready (rs := [13]) (by kernel_rfl) (by simp) (AllReadyH.cons (o := { dst := some 16, op := Go.Op.alloc 45, type := 0, pos := "law.go:142", after := #[], guard := none }) rfl (fun K hK => ?_) AllReadyH.nil)
              · go_simp
                refine hK.out _ _ ?_ (fun hHeld => ?_)
                · exact KS.out _ _ (alloc_below _ _) hHeld
                clear hK K
                (try simp only [Act.put, List.setIfInBounds_toArray, List.set_cons_zero, List.set_cons_succ])
                refine wpAnyH_ready (rs := [14]) (by kernel_rfl) (by simp) (AllReadyH.cons (o := { dst := none, op := Go.Op.store 45 (Go.Operand.tmp 16) (Go.Operand.tmp 106), type := 0, pos := "law.go:142", after := #[{ on := 13, ground := Go.Ground.data }, { on := 11, ground := Go.Ground.data }, { on := 9, ground := Go.Ground.chain }, { on := 0, ground := Go.Ground.phase }, { on := 1, ground := Go.Ground.phase }, { on := 2, ground := Go.Ground.phase }, { on := 3, ground := Go.Ground.phase }, { on := 4, ground := Go.Ground.phase }, { on := 5, ground := Go.Ground.phase }, { on := 6, ground := Go.Ground.phase }, { on := 7, ground := Go.Ground.phase }, { on := 8, ground := Go.Ground.phase }, { on := 9, ground := Go.Ground.phase }, { on := 10, ground := Go.Ground.phase }, { on := 11, ground := Go.Ground.phase }, { on := 12, ground := Go.Ground.textOnly Go.Departure.lateStores }, { on := 13, ground := Go.Ground.phase }], guard := none }) rfl (fun K hK => ?_) AllReadyH.nil)
                · have Z6 := Lib.hid (PgBox.new w6 0 0 0 0 0 (.slice none 0 0))
                  refine step_store_pg rfl (.tmp 16) (.tmp 106) rfl Z6.out dk dl di dn dx da d0 dc (by rfl) (by rfl) ?_
                  intro wD hPD hKD
                  have hPD := Lib.hid hPD
                  have hKD := Lib.hid hKD
                  refine hK.out _ _ ?_ (fun hHeld => ?_)
                  · exact KO.out _ _ w6.heap.size hKD.out h56 hHeld
                  clear hK K
                  (try simp only [Act.put, List.setIfInBounds_toArray, List.set_cons_zero, List.set_cons_succ])
                  refine wpAnyH_take (i := 15) (oi := { dst := some 17, op := Go.Op.assign (Go.Operand.tmp 107), type := 30, pos := "law.go:142", after := #[{ on := 12, ground := Go.Ground.data }, { on := 14, ground := Go.Ground.chain }, { on := 0, ground := Go.Ground.phase }, { on := 1, ground := Go.Ground.phase }, { on := 2, ground := Go.Ground.phase }, { on := 3, ground := Go.Ground.phase }, { on := 4, ground := Go.Ground.phase }, { on := 5, ground := Go.Ground.phase }, { on := 6, ground := Go.Ground.phase }, { on := 7, ground := Go.Ground.phase }, { on := 8, ground := Go.Ground.phase }, { on := 9, ground := Go.Ground.phase }, { on := 10, ground := Go.Ground.phase }, { on := 11, ground := Go.Ground.phase }, { on := 12, ground := Go.Ground.phase }, { on := 13, ground := Go.Ground.phase }, { on := 14, ground := Go.Ground.phase }], guard := none }) (v := ?_) rfl (by kernel_rfl) (by kernel_rfl) (by kernel_rfl) (fun _ _ _ h => h) (Or.inl ⟨by rfl, ?_⟩) hHeld ?_
                  rotate_left
                  · (intro w hSw; go_simp <;> with_reducible rfl)
                  simp only [Act.put, List.setIfInBounds_toArray, List.set_cons_zero, List.set_cons_succ]
                  refine wpAnyH_done (by kernel_rfl) ?_ _
                  go_wp2_with fail
                  go_meet
                  exact ⟨w6.heap.size, da, dc, rfl, rfl, hPD, Lib.hid (texts_page Z6.out (ht6.out.below (alloc_below w6 _)) hKD.out (fun h x e => by cases e)), hf6, Lib.hid (OthersKept.below (below_then hb6.out (alloc_below w6 _)) hKD.out (fun k hk e => by omega))⟩
            · go_simp
              refine hK.out _ _ ?_ (fun hHeld => ?_)
              · exact KS.out _ _ (alloc_below _ _) hHeld
              clear hK K
              (try simp only [Act.put, List.setIfInBounds_toArray, List.set_cons_zero, List.set_cons_succ])
              refine wpAnyH_ready (rs := [9]) (by kernel_rfl) (by simp) (AllReadyH.cons (o := { dst := some 105, op := Go.Op.call { callee := Go.Callee.value (Go.Operand.func 28), args := #[Go.Operand.tmp 96, Go.Operand.tmp 100, Go.Operand.tmp 104], argTypes := #[45, 43, 22] }, type := 47, pos := "law.go:142", after := #[{ on := 0, ground := Go.Ground.data }, { on := 4, ground := Go.Ground.data }, { on := 8, ground := Go.Ground.data }], guard := none }) rfl (fun K hK => ?_) AllReadyH.nil)
              · go_simp
                refine (RBX.out _ hB.out).mono ?_
                rintro e w6 ⟨da, dc, rfl, ht6, hb6, hbw6, hf6⟩
                have Z6 : PgBox w6 wr.heap.size 0 0 0 0 0 (.slice none 0 0) := PgBox.below (PgBox.new wr.drew 0 0 0 0 0 (.slice none 0 0)) hbw6
                obtain ⟨_, v0, v1, v2, v3, v4, v5⟩ := Z6.cells
                obtain ⟨g0, g1, g2, g3, g4, g5⟩ := Z6.fr
                have Z6 := Lib.hid Z6
                have hb6 := Lib.hid hb6
                have hS6 := Lib.hid (KS.out _ _ hbw6 hHeld)
                clear hbw6
                (try simp only)
                refine hK.out _ _ ?_ (fun hHeld => ?_)
                · exact hS6.out
                clear hK K
                (try simp only [Act.put, List.setIfInBounds_toArray, List.set_cons_zero, List.set_cons_succ])
                refine wpAnyH_take (i := 10) (oi := { dst := some 95, op := Go.Op.move (Go.Operand.tmp 105), type := 47, pos := "law.go:142", after := #[{ on := 9, ground := Go.Ground.data }], guard := none }) (v := ?_) rfl (by kernel_rfl) (by kernel_rfl) (by kernel_rfl) (fun _ _ _ h => h) (Or.inl ⟨by rfl, ?_⟩) hHeld ?_
                rotate_left
                · (intro w hSw; go_simp <;> with_reducible rfl)
                simp only [Act.put, List.setIfInBounds_toArray, List.set_cons_zero, List.set_cons_succ]
                refine wpAnyH_take (i := 11) (oi := { dst := some 106, op := Go.Op.extract (Go.Operand.tmp 95) 0, type := 45, pos := "law.go:142", after := #[{ on := 10, ground := Go.Ground.data }], guard := none }) (v := ?_) rfl (by kernel_rfl) (by kernel_rfl) (by kernel_rfl) (fun _ _ _ h => h) (Or.inl ⟨by rfl, ?_⟩) hHeld ?_
                rotate_left
                · (intro w hSw; go_simp <;> with_reducible rfl)
                simp only [Act.put, List.setIfInBounds_toArray, List.set_cons_zero, List.set_cons_succ]
                refine wpAnyH_take (i := 12) (oi := { dst := some 107, op := Go.Op.extract (Go.Operand.tmp 95) 1, type := 30, pos := "law.go:142", after := #[{ on := 10, ground := Go.Ground.data }, { on := 14, ground := Go.Ground.gcOnly Go.Departure.lateStores }], guard := none }) (v := ?_) rfl (by kernel_rfl) (by kernel_rfl) (by kernel_rfl) (fun _ _ _ h => h) (Or.inl ⟨by rfl, ?_⟩) hHeld ?_
                rotate_left
                · (intro w hSw; go_simp <;> with_reducible rfl)
                simp only [Act.put, List.setIfInBounds_toArray, List.set_cons_zero, List.set_cons_succ]
                refine wpAnyH_ready (rs := [14]) (by kernel_rfl) (by simp) (AllReadyH.cons (o := { dst := none, op := Go.Op.store 45 (Go.Operand.tmp 16) (Go.Operand.tmp 106), type := 0, pos := "law.go:142", after := #[{ on := 13, ground := Go.Ground.data }, { on := 11, ground := Go.Ground.data }, { on := 9, ground := Go.Ground.chain }, { on := 0, ground := Go.Ground.phase }, { on := 1, ground := Go.Ground.phase }, { on := 2, ground := Go.Ground.phase }, { on := 3, ground := Go.Ground.phase }, { on := 4, ground := Go.Ground.phase }, { on := 5, ground := Go.Ground.phase }, { on := 6, ground := Go.Ground.phase }, { on := 7, ground := Go.Ground.phase }, { on := 8, ground := Go.Ground.phase }, { on := 9, ground := Go.Ground.phase }, { on := 10, ground := Go.Ground.phase }, { on := 11, ground := Go.Ground.phase }, { on := 12, ground := Go.Ground.textOnly Go.Departure.lateStores }, { on := 13, ground := Go.Ground.phase }], guard := none }) rfl (fun K hK => ?_) AllReadyH.nil)
                · refine step_store_pg rfl (.tmp 16) (.tmp 106) rfl Z6.out dk dl di dn dx da d0 dc (by rfl) (by rfl) ?_
                  intro wD hPD hKD
                  have hPD := Lib.hid hPD
                  have hKD := Lib.hid hKD
                  refine hK.out _ _ ?_ (fun hHeld => ?_)
                  · exact KO.out _ _ wr.heap.size hKD.out (Nat.le_refl _) hHeld
                  clear hK K
                  (try simp only [Act.put, List.setIfInBounds_toArray, List.set_cons_zero, List.set_cons_succ])
                  refine wpAnyH_take (i := 15) (oi := { dst := some 17, op := Go.Op.assign (Go.Operand.tmp 107), type := 30, pos := "law.go:142", after := #[{ on := 12, ground := Go.Ground.data }, { on := 14, ground := Go.Ground.chain }, { on := 0, ground := Go.Ground.phase }, { on := 1, ground := Go.Ground.phase }, { on := 2, ground := Go.Ground.phase }, { on := 3, ground := Go.Ground.phase }, { on := 4, ground := Go.Ground.phase }, { on := 5, ground := Go.Ground.phase }, { on := 6, ground := Go.Ground.phase }, { on := 7, ground := Go.Ground.phase }, { on := 8, ground := Go.Ground.phase }, { on := 9, ground := Go.Ground.phase }, { on := 10, ground := Go.Ground.phase }, { on := 11, ground := Go.Ground.phase }, { on := 12, ground := Go.Ground.phase }, { on := 13, ground := Go.Ground.phase }, { on := 14, ground := Go.Ground.phase }], guard := none }) (v := ?_) rfl (by kernel_rfl) (by kernel_rfl) (by kernel_rfl) (fun _ _ _ h => h) (Or.inl ⟨by rfl, ?_⟩) hHeld ?_
                  rotate_left
                  · (intro w hSw; go_simp <;> with_reducible rfl)
                  simp only [Act.put, List.setIfInBounds_toArray, List.set_cons_zero, List.set_cons_succ]
                  refine wpAnyH_done (by kernel_rfl) ?_ _
                  go_wp2_with fail
                  go_meet
                  exact ⟨wr.heap.size, da, dc, rfl, rfl, hPD, Lib.hid (texts_page Z6.out ht6.out hKD.out (fun h x e => by cases e)), hf6, Lib.hid (OthersKept.below hb6.out hKD.out (fun k hk e => by omega))⟩
          case rest =>
            obtain ⟨gx, da, dc, rfl, rfl, HBX, HTQ, FR6, HBQ⟩ := hcut
            have he : err = 0 := congrArg Prod.snd HSTEP.out
            subst he
            have hnp : Hid ((LP.map Pv.p).getD (max k (i2 + 1)) Pg.zero = ⟨dk, dl, di, dn, dx, dr⟩) := (congrArg Prod.fst HSTEP.out).symm
            have HNX2 : Hid ((⟨dk, dl, di, dn, dx, dr⟩ : Pg).wf ∧ weightB dr ≤ 20000) := by
              have := HNX.out
              rw [hnp.out] at this
              exact this
            have b7 := HBQ.out
            have B7 := Lib.hid (below_then HB.out b7)
            have O7 := Lib.hid (HO.out.below b7)
            have D7 := Lib.hid (own_below HD.out b7)
            have Q7 := Lib.hid (HQB.out.below b7)
            have e0 : ((0 : Int) != 0) = false := rfl
            generalize wc = w7 at *
            clear b7 HBQ FR6 HSTEP HNX RBX hA hB HF0 HQ HW HT2 HQB HO HD HB OLr
            obtain ⟨_, y0, y1, y2, y3, y4, y5⟩ := Q7.out.cells
            obtain ⟨_, z0, z1, z2, z3, z4, z5⟩ := HBX.out.cells
            obtain ⟨f0', f1, f2, f3, f4, f5⟩ := Q7.out.fr
            go_upto_region 20 with fail
            have hk8 := setPg_kept w7 gq dk dl di dn dx (.slice da d0 dc)
            have Q8 := Lib.hid (Q7.out.put dk dl di dn dx (.slice da d0 dc))
            have T8 := Lib.hid (texts_page Q7.out HTQ.out hk8 (fun h x e => by cases e))
            have O8 := Lib.hid (O7.out.kept Q7.out (fun x e => by cases e) hk8 (fun j hj => by injection hj with hj; have h9 : g = j := hj; omega))
            have D8 := Lib.hid (hk8.owns D7.out (fun j hj => by have := HDG.out j hj; show ¬ j = gq; omega))
            have B8 := Lib.hid (OthersKept.below B7.out hk8 (fun k hk e => by have h9 : k = gq := e; omega))
            show Code.wp _ _ _ _ (setPg w7 gq dk dl di dn dx (.slice da d0 dc))
            generalize setPg w7 gq dk dl di dn dx (.slice da d0 dc) = w8 at *
            clear y0 y1 y2 y3 y4 y5 z0 z1 z2 z3 z4 z5 f0' f1 f2 f3 f4 f5 hk8 Q7 O7 D7 B7 HBX HTQ
            go_wp2_with fail
            go_roundw
            case rel => exact ⟨i2 + 1, dk, dl, di, dn, dx, dr, da, d0, dc, by go_num, by omega, HD0, hnp, HNX2, T8, Q8, O8, D8, B8⟩
            case measure => simp [intOf] <;> omega
        · have hci2 : ¬ (i2 : Int) < (m : Int) := by omega
          have hi3 : i2 = m := by omega
          subst hi3
          obtain ⟨⟨⟨qk, ql, qi, qn, qx, qr⟩, b0, c0⟩, ⟨hm, hme⟩, hewf, hewt, hlast⟩ := HST.out.last
          have hpp : (⟨qk, ql, qi, qn, qx, qr⟩ : Pg) = ⟨fk, fl, fi, fn, fx, fr2⟩ := by rw [← HQ.out, Nat.max_eq_right hkm]; exact hlast.symm
          have hcl := fun (j : Nat) (v : Value) (hv : (Pv.cell ⟨⟨qk, ql, qi, qn, qx, qr⟩, b0, c0⟩)[j]? = some v) => HO.out.cell i2 hm j v (by rw [hme]; exact hv)
          have hte := (HO.out.2 LP[i2] (List.getElem_mem hm))
          rw [hme] at hte
          clear hewf hewt hlast hme
          injection hpp with e1 e2 e3 e4 e5 e6
          subst e1 e2 e3 e4 e5 e6
          have y0 := hcl 0 _ rfl
          have y1 := hcl 1 _ rfl
          have y2 := hcl 2 _ rfl
          have y3 := hcl 3 _ rfl
          have y4 := hcl 4 _ rfl
          have y5 := hcl 5 _ rfl
          simp only [Pv.sv, Nat.add_zero] at y0 y1 y2 y3 y4 y5 hte
          rw [← HF0.out] at y5 hte
          obtain ⟨_, z0, z1, z2, z3, z4, z5⟩ := HQB.out.cells
          have HTE := Lib.hid hte.1
          have hmm : (0 : Int) ≤ (i2 : Int) := by omega
          have SA := Lib.hid fun (y : Ext wr.heap.size wr) => refSame06_eq ⟨qk, ql, qi, qn, qx, qr⟩ (.slice fa f0 fc) (.slice b0 f0 c0) y.val (HT2.out.below y.below) (HTE.out.below y.below)
          have ALx := Lib.hid fun (y : Ext wr.heap.size wr) => AL.out y.val
          unfold pgV at SA
          simp only at SA
          have e0 := ext_cell y0 (cell_lt y0)
          have e1 := ext_cell y1 (cell_lt y1)
          have e2 := ext_cell y2 (cell_lt y2)
          have e3 := ext_cell y3 (cell_lt y3)
          have e4 := ext_cell y4 (cell_lt y4)
          have e5 := ext_cell y5 (cell_lt y5)
          have d0 := ext_cell z0 (cell_lt z0)
          have d1 := ext_cell z1 (cell_lt z1)
          have d2 := ext_cell z2 (cell_lt z2)
          have d3 := ext_cell z3 (cell_lt z3)
          have d4 := ext_cell z4 (cell_lt z4)
          have d5 := ext_cell z5 (cell_lt z5)
          clear hcl hte y0 y1 y2 y3 y4 y5 z0 z1 z2 z3 z4 z5
          go_upto_region 25 with fail
          refine wp_region_ext wr.heap.size (by kernel_rfl) (by kernel_rfl) ?_
          repeat (go_big_quiet_step (first
            | (go_at_call 30; exact ext_call _ (Nat.le_refl _) (SA.out _))
            | (go_at_call 15; exact ext_call _ (Nat.le_refl _) (ALx.out _))))
          refine wpQuiet_nil ?_
          rintro _ ⟨X, rfl⟩
          have HXB := Lib.hid (below_then HB.out X.below)
          generalize X.val = w9 at *
          go_wp2_with fail
          go_ret
          exact ⟨rfl, HXB.out⟩

end Go.Proofs.Ytjcfnfpilladfaa
