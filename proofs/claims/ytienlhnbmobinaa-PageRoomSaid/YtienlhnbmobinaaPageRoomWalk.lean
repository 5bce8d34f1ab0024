/- the law PageRoom, walked -/
import Derived.Test.YtienlhnbmobinaaRows
import Derived.Test.YtienlhnbmobinaaNodeWeigh
import Derived.Test.YtienlhnbmobinaaAlive06
import Derived.Test.YtienlhnbmobinaaPageTorn06
import Derived.Test.YtienlhnbmobinaaPageSame06
import Derived.Test.YtienlhnbmobinaaPagePlain
import Derived.Test.YtienlhnbmobinaaTextsMove
import Derived.Test.YtienlhnbmobinaaTextsBack
import Derived.Test.YtienlhnbmobinaaPgStore
import Derived.Test.YtienlhnbmobinaaBase
import Derived.Test.YtienlhnbmobinaaPlains
import Derived.Test.YtienlhnbmobinaaTextsP
import Derived.Test.YtienlhnbmobinaaSum
import Derived.Deep.CutBlock
import Derived.WalkKit
import Derived.WalkLawsBesides
import Derived.WalkSpells
import Derived.LoopTactic
import Derived.WalkMore
import Derived.LoopN
import Derived.Laws.BitsAllLaws
import Derived.Laws.IdiomStrings
import Derived.BigQuiet
import Derived.Deep.QuietTactic
import Derived.Deep.DeepCutAuto
import Derived.Deep.RegionHeld3
import Derived.Deep.DrawnRows
import Derived.Lib.Hide
import Derived.Outline
import Derived.Deep.DeepMust
import Derived.Handy
namespace Go.Proofs.Ytienlhnbmobinaa
open Go.RowKit
set_option linter.unusedVariables false
set_option linter.unusedSimpArgs false

theorem TextsAt.off_pg {w w' : World} {g kind level id lsn next : Nat} {sv v : Value} {ts : List (List UInt8)} (h : TextsAt w v ts) (hp : PgBox w g kind level id lsn next sv) (hs : ∀ s, sv ≠ .string s) (hk : OthersKept w w' (fun k => k = g)) : TextsAt w' v ts := by
  obtain ⟨A, cp, h1, h2, h3, h4, h5⟩ := h
  refine ⟨A, cp, h1, h2, h3, h4, fun h0 => ?_⟩
  obtain ⟨b, o, h6, h7, h8⟩ := h5 h0
  have hne : b ≠ g := by
    intro e
    subst e
    have h9 := h8 0 h0
    rw [blk_cell hp] at h9
    have h10 : o + 0 < 6 := by
      have := (Array.getElem?_eq_some_iff.1 h9).1
      simpa using this
    obtain rfl | rfl | rfl | rfl | rfl | rfl : o = 0 ∨ o = 1 ∨ o = 2 ∨ o = 3 ∨ o = 4 ∨ o = 5 := by omega
    all_goals first
      | (simp at h9; done)
      | (simp at h9; exact hs _ h9)
  exact ⟨b, o, h6, Nat.lt_of_lt_of_le h7 hk.size, fun j hj => hk.cell (h8 j hj) hne⟩
theorem roomB_range (rows : List (List UInt8)) : -1 ≤ roomB rows ∧ roomB rows ≤ 480 := by
  unfold roomB
  omega
theorem one_reads {w : World} {g : Nat} {t : TypeId} {x : List UInt8} (h : w.heap[g]? = some (.cells #[.string ⟨x.toArray⟩] t (0, 0))) : Reads w (.slice (some ⟨g, 0, none⟩) 1 1) 1 1 (strs [x]) :=
  .inr ⟨_, 1, rfl, rfl, fun j u hu => by
    have hj : j = 0 := by
      have := (List.getElem?_eq_some_iff.1 hu).1
      simpa [strs] using this
    subst hj
    rw [Addr.add_lit, blk_cell h]
    simpa [strs] using hu⟩
set_option maxHeartbeats 8000000 in
set_option maxRecDepth 100000 in
theorem pageRoomLaw_any (p : Pg) (sv : Value) (n0 : Nat) (w : World) (hp : p.wf) (ht : TextsAt w sv p.rows) (hzp : ∀ r ∈ p.rows, r.length ≤ 140737488351232) (hn0 : n0 < 256 ^ 2) :
    Calls Try.prog 9 #[pgV p sv, .int .u16 n0] w fun e w' => e = .returned (.bool true) ∧ Below w.heap.size w w' := by
  have AL := Lib.hid fun W => alive06_any W
  have HV := Lib.hid fun W (h : TextsAt W sv p.rows) => heavy06_any p sv W h hzp
  have HP := Lib.hid hp
  have HT := Lib.hid ht
  have MY0 := Lib.hid fun W (hb : weightB p.rows ≤ 1000000) (hW : TextsAt W sv p.rows) => pageMay_any p sv W hp hW hb
  have RM0 := Lib.hid fun W (hb : weightB p.rows ≤ 1000000) (hW : TextsAt W sv p.rows) => pageRoom_any p sv W hW hb
  obtain ⟨n, hn⟩ : ∃ n, n = p.rows.length := ⟨_, rfl⟩
  obtain ⟨A, cp, hsv, h2, h3, h4, h5⟩ := ht
  rw [← hn] at hsv h2
  subst hsv
  unfold maxLen at h3
  have hwt := weight_heavy p.rows
  obtain ⟨kind, level, id, lsn, next, rows⟩ := p
  have HN := Lib.hid hn
  simp only at HV HT HN hwt ⊢
  obtain ⟨hv, hhv⟩ : ∃ k, k = heavyB rows := ⟨_, rfl⟩
  rw [← hhv] at HV hwt
  have wle : ¬ 4096 < hv → weightB rows ≤ 20000 ∧ rows.length ≤ 4096 := by omega
  have WL := Lib.hid wle
  obtain ⟨k, hk⟩ : ∃ k, k = n0 % 600 := ⟨_, rfl⟩
  have hk600 : k < 600 := by omega
  obtain ⟨zs, hzs⟩ : ∃ zs, zs = List.replicate k (0 : UInt8) := ⟨_, rfl⟩
  have HZS := Lib.hid hzs
  have HZL := Lib.hid (show zs.length = k by rw [hzs]; simp)
  clear hzs
  have hmod : (n0 : Int) % 600 = (k : Int) := by omega
  clear hhv hwt wle hn h4 h5 hp hzp hk
  unfold pgV at HV MY0 RM0 ⊢
  simp only at HV MY0 RM0 ⊢
  obtain ⟨i0, hif, hz0, hz1, hz2⟩ := info_parts Try.infoStrM
  have HI := Lib.hid hif
  have HI0 := Lib.hid hz0
  have HI1 := Lib.hid hz1
  have HI2 := Lib.hid hz2
  clear hif hz0 hz1 hz2
  have P0 := Lib.hid (PgBox.new w kind level id lsn next (.slice A n cp))
  have B0 := Lib.hid (alloc_below w (.cells #[.int .u8 kind, .int .u8 level, .int .u32 id, .int .u64 lsn, .int .u32 next, .slice A n cp] 26))
  go_enter Try.func9, Try.ntmps9
  go_upto_region 1 with fail
  generalize w.alloc (.cells #[.int .u8 kind, .int .u8 level, .int .u32 id, .int .u64 lsn, .int .u32 next, .slice A n cp] 26) = w0 at *
  have T0 := Lib.hid (HT.out.below B0.out)
  clear HT
  obtain ⟨x0, x1, x2, x3, x4, x5, x6⟩ := P0.out.cells
  go_wp2_with fail
  refine (HV.out _ T0.out).mono ?_
  rintro e w1 ⟨rfl, hb⟩
  have B1 := Lib.hid (below_then B0.out hb)
  have P1 := Lib.hid (P0.out.below hb)
  have T1 := Lib.hid (T0.out.below hb)
  clear hb B0 P0 T0 x0 x1 x2 x3 x4 x5 x6
  by_cases hh : 4096 < hv
  case pos =>
    rw [decide_eq_true hh]
    go_wp2_with fail
    refine (AL.out _).mono ?_
    rintro e wa ⟨rfl, hba⟩
    have Ba := Lib.hid (below_then B1.out hba)
    clear hba
    go_wp2_with fail
    go_ret
    exact ⟨rfl, Ba.out⟩
  rw [decide_eq_false hh]
  obtain ⟨wa1, wa2⟩ := WL.out hh
  have MY := Lib.hid fun W hW => MY0.out W (by omega) hW
  have RM := Lib.hid fun W hW => RM0.out W (by omega) hW
  obtain ⟨my, hmy⟩ : ∃ b, b = Pg.may ⟨kind, level, id, lsn, next, rows⟩ := ⟨_, rfl⟩
  rw [← hmy] at MY
  have HMY := Lib.hid hmy
  clear MY0 RM0 hmy hh WL
  obtain ⟨x0, x1, x2, x3, x4, x5, x6⟩ := P1.out.cells
  go_wp2_with fail
  refine (MY.out _ T1.out).mono ?_
  rintro e w2 ⟨rfl, hb⟩
  have B2 := Lib.hid (below_then B1.out hb)
  have P2 := Lib.hid (P1.out.below hb)
  have T2 := Lib.hid (T1.out.below hb)
  clear hb B1 P1 T1 x0 x1 x2 x3 x4 x5 x6
  cases my
  case false =>
    go_wp2_with fail
    refine (AL.out _).mono ?_
    rintro e wa ⟨rfl, hba⟩
    have Ba := Lib.hid (below_then B2.out hba)
    clear hba
    go_wp2_with fail
    go_ret
    exact ⟨rfl, Ba.out⟩
  have LAW := Lib.hid (may_room HMY.out.symm k zs HZL.out)
  simp only at LAW
  obtain ⟨x0, x1, x2, x3, x4, x5, x6⟩ := P2.out.cells
  go_wp2_with fail
  refine (RM.out _ T2.out).mono ?_
  rintro e w3 ⟨rfl, hb⟩
  have B3 := Lib.hid (below_then B2.out hb)
  have P3 := Lib.hid (P2.out.below hb)
  have T3 := Lib.hid (T2.out.below hb)
  clear hb B2 P2 T2 x0 x1 x2 x3 x4 x5 x6 MY RM HV
  have hrm := roomB_range rows
  obtain ⟨ro, hro⟩ : ∃ r, r = roomB rows := ⟨_, rfl⟩
  rw [← hro] at LAW hrm ⊢
  have HRO := Lib.hid hro
  clear hro
  obtain ⟨x0, x1, x2, x3, x4, x5, x6⟩ := P3.out.cells
  go_upto_region 6 with fail
  rw [hmod]
  have b5 := alloc_below w3 (.cells #[.int .u8 kind, .int .u8 level, .int .u32 id, .int .u64 lsn, .int .u32 next, .slice A n cp] 26)
  have H7 := Lib.hid (PgBox.new w3 kind level id lsn next (.slice A n cp))
  obtain ⟨g7, hg7⟩ : ∃ g, g = w3.heap.size := ⟨_, rfl⟩
  have hg7w : w.heap.size < g7 := by have := P3.out.lt; omega
  rw [← hg7] at H7 ⊢
  have BW5 := Lib.hid (below_then B3.out b5)
  have HT5 := Lib.hid (T3.out.below b5)
  have HX5 := Lib.hid (keep_cell b5 x6)
  generalize w3.alloc (.cells #[.int .u8 kind, .int .u8 level, .int .u32 id, .int .u64 lsn, .int .u32 next, .slice A n cp] 26) = w5 at *
  clear b5 x0 x1 x2 x3 x4 x5 x6 hg7 B3 P3 T3
  have hnl : n ≤ 4096 := by rw [HN.out]; exact wa2
  go_cut [6] (fun s6 w' => ∃ (rb : Option Addr) (rc : Nat), s6 = .int .i64 k ∧ Hid (PgBox w' g7 kind level id lsn next (.slice rb (n + 1) rc)) ∧ Hid (TextsAt w' (.slice rb (n + 1) rc) (rows ++ [zs])) ∧ Hid (Below w.heap.size w w'))
  case first =>
    clear AL HP LAW HRO HMY hmod hrm
    refine wp_region_held_drew (S := fun W => W.cell? ⟨w.heap.size, 5, none⟩ = some (.slice A n cp)) (by kernel_rfl) (HX5.out) (fun hHeld => ?_)
    have B0v := Lib.hid ((Below.refl w5.heap.size w5).drew)
    generalize w5.drew = v0 at *
    have B0 := B0v
    clear B0v
    refine wpAnyH_take (i := 1) (oi := { dst := some 23, op := Go.Op.fieldAddr 26 (Go.Operand.tmp 2) 5, type := 0, pos := "law.go:109", after := #[], guard := none }) (v := ?_) rfl (by kernel_rfl) (by kernel_rfl) (by kernel_rfl) (fun _ _ _ h => h) (Or.inl ⟨by rfl, ?_⟩) hHeld ?_
    rotate_left
    · (intro w hSw; go_simp <;> with_reducible rfl)
    simp only [Act.put, List.setIfInBounds_toArray, List.set_cons_zero, List.set_cons_succ]
    refine wpAnyH_take (i := 2) (oi := { dst := some 24, op := Go.Op.load 24 (Go.Operand.tmp 23), type := 24, pos := "law.go:109", after := #[{ on := 1, ground := Go.Ground.data }], guard := none }) (v := ?_) rfl (by kernel_rfl) (by kernel_rfl) (by kernel_rfl) (fun _ _ _ h => h) (Or.inl ⟨by rfl, ?_⟩) hHeld ?_
    rotate_left
    · (intro w hSw; go_simp <;> with_reducible rfl)
    simp only [Act.put, List.setIfInBounds_toArray, List.set_cons_zero, List.set_cons_succ]
    refine wpAnyH_take (i := 4) (oi := { dst := some 26, op := Go.Op.move (Go.Operand.tmp 6), type := 3, pos := "law.go:109", after := #[], guard := none }) (v := ?_) rfl (by kernel_rfl) (by kernel_rfl) (by kernel_rfl) (fun _ _ _ h => h) (Or.inl ⟨by rfl, ?_⟩) hHeld ?_
    rotate_left
    · (intro w hSw; go_simp <;> with_reducible rfl)
    simp only [Act.put, List.setIfInBounds_toArray, List.set_cons_zero, List.set_cons_succ]
    refine wpAnyH_ready (rs := [0, 5]) (by kernel_rfl) (by simp) (AllReadyH.cons (o := { dst := some 22, op := Go.Op.buildSlice 24 0 #[], type := 24, pos := "law.go:109", after := #[], guard := none }) rfl (fun K hK => ?_) (AllReadyH.cons (o := { dst := some 27, op := Go.Op.makeSlice 70 (Go.Operand.tmp 26) (Go.Operand.tmp 26), type := 70, pos := "law.go:109", after := #[{ on := 4, ground := Go.Ground.data }, { on := 4, ground := Go.Ground.data }], guard := none }) rfl (fun K hK => ?_) AllReadyH.nil))
    · go_simp
      have hb := alloc_below v0 (.cells #[] 9)
      have hn := World.size_alloc v0 (.cells #[] 9)
      have hE : (v0.alloc (.cells #[] 9)).ownsRow w5.heap.size 9 1 (.slice (some ⟨v0.heap.size, 0, none⟩) 0 0) 0 [] := World.ownsRow_made v0 #[] 0 B0.out.size (by unfold maxLen; omega) rfl
      obtain ⟨ge, hge⟩ : ∃ g, g = v0.heap.size := ⟨_, rfl⟩
      rw [← hge] at hE hn ⊢
      generalize v0.alloc (.cells #[] 9) = v1 at *
      have le : ge < v1.heap.size := by omega
      have E1 := Lib.hid hE
      have B1 := Lib.hid (below_then B0.out hb)
      clear hb hn hE hge
      refine hK.out _ _ ?_ (fun hHeld => ?_)
      · exact keep_cell B1.out HX5.out
      clear hK K
      (try simp only [Act.put, List.setIfInBounds_toArray, List.set_cons_zero, List.set_cons_succ])
      refine wpAnyH_ready (rs := [3, 5]) (by kernel_rfl) (by simp) (AllReadyH.cons (o := { dst := some 25, op := Go.Op.call { callee := Go.Callee.builtin Go.Builtin.append, args := #[Go.Operand.tmp 22, Go.Operand.tmp 24], argTypes := #[24, 24] }, type := 24, pos := "law.go:109", after := #[{ on := 0, ground := Go.Ground.data }, { on := 2, ground := Go.Ground.data }], guard := none }) rfl (fun K hK => ?_) (AllReadyH.cons (o := { dst := some 27, op := Go.Op.makeSlice 70 (Go.Operand.tmp 26) (Go.Operand.tmp 26), type := 70, pos := "law.go:109", after := #[{ on := 4, ground := Go.Ground.data }, { on := 4, ground := Go.Ground.data }], guard := none }) rfl (fun K hK => ?_) AllReadyH.nil))
      · have TA1 := Lib.hid (HT5.out.below B1.out).reads
        rw [← HN.out] at TA1
        refine step_append_any _ rfl (.tmp 22) (.tmp 24) 24 rfl w5.heap.size 9 i0 (.string ⟨#[]⟩) 1 16 Try.underlying24 HI.out HI0.out HI1.out HI2.out rfl (by decide) (.slice (some ⟨ge, 0, none⟩) 0 0) (0) ([]) (by rfl) E1.out (.slice A n cp) (n) (strs rows) (by rfl) TA1.out (strs_oneCell _) (by unfold maxLen; omega) (by omega) B1.out.size ?_
        intro vx v2 hown hgrow
        have B2 := Lib.hid (B1.out.grown hgrow B1.out.size (fun k hk => by have := (E1.out.lt k hk).1; omega))
        simp only [Nat.zero_add, List.nil_append] at hown
        obtain ⟨rb, rc, hvx, hrn, hrc, _⟩ := own_form hown
        subst hvx
        have V2 := Lib.hid hown
        clear hown hgrow TA1
        refine hK.out _ _ ?_ (fun hHeld => ?_)
        · exact keep_cell B2.out HX5.out
        clear hK K
        (try simp only [Act.put, List.setIfInBounds_toArray, List.set_cons_zero, List.set_cons_succ])
        refine wpAnyH_ready (rs := [5]) (by kernel_rfl) (by simp) (AllReadyH.cons (o := { dst := some 27, op := Go.Op.makeSlice 70 (Go.Operand.tmp 26) (Go.Operand.tmp 26), type := 70, pos := "law.go:109", after := #[{ on := 4, ground := Go.Ground.data }, { on := 4, ground := Go.Ground.data }], guard := none }) rfl (fun K hK => ?_) AllReadyH.nil)
        · go_simp
          refine upon_make _ 70 5 k Try.underlying70 (by kernel_rfl) (by kernel_rfl) (by kernel_rfl) (by omega) (fun v3 hrow hb => ?_)
          rw [← HZS.out] at hrow
          obtain ⟨gz, hgz⟩ : ∃ g, g = v2.heap.size := ⟨_, rfl⟩
          rw [← hgz] at hrow ⊢
          have Z3 := Lib.hid hrow
          have lz : gz < v3.heap.size := Z3.out.lt
          have B3 := Lib.hid (below_then B2.out hb)
          have V3 := Lib.hid (own_below V2.out hb)
          clear hb hrow hgz
          refine hK.out _ _ ?_ (fun hHeld => ?_)
          · exact keep_cell B3.out HX5.out
          clear hK K
          (try simp only [Act.put, List.setIfInBounds_toArray, List.set_cons_zero, List.set_cons_succ])
          refine wpAnyH_ready (rs := [6]) (by kernel_rfl) (by simp) (AllReadyH.cons (o := { dst := some 28, op := Go.Op.convert 70 9 (Go.Operand.tmp 27), type := 9, pos := "law.go:109", after := #[{ on := 5, ground := Go.Ground.data }], guard := none }) rfl (fun K hK => ?_) AllReadyH.nil)
          · go_simp
            refine upon_str Z3.out HZL.out 70 5 9 Try.underlying70 Try.underlying5 Try.underlying9 ?_
            rw [sumBytes]
            generalize hv4 : v3 = v4 at *
            have B4 := B3
            have V4 := V3
            clear Z3 hv4
            refine hK.out _ _ ?_ (fun hHeld => ?_)
            · exact keep_cell B4.out HX5.out
            clear hK K
            (try simp only [Act.put, List.setIfInBounds_toArray, List.set_cons_zero, List.set_cons_succ])
            refine wpAnyH_ready (rs := [7]) (by kernel_rfl) (by simp) (AllReadyH.cons (o := { dst := some 29, op := Go.Op.buildSlice 24 1 #[(0, Go.Operand.tmp 28)], type := 24, pos := "law.go:109", after := #[{ on := 6, ground := Go.Ground.data }], guard := none }) rfl (fun K hK => ?_) AllReadyH.nil)
            · go_simp
              have hb := alloc_below v4 (.cells #[.string ⟨zs.toArray⟩] 9)
              have hO := heap_alloc_new v4 (.cells #[.string ⟨zs.toArray⟩] 9)
              obtain ⟨go, hgo⟩ : ∃ g, g = v4.heap.size := ⟨_, rfl⟩
              rw [← hgo] at hO ⊢
              generalize v4.alloc (.cells #[.string ⟨zs.toArray⟩] 9) = v5 at *
              have O5 := Lib.hid hO
              have lo : go < v5.heap.size := blk_lt hO
              have B5 := Lib.hid (below_then B4.out hb)
              have V5 := Lib.hid (own_below V4.out hb)
              clear hb hO hgo
              refine hK.out _ _ ?_ (fun hHeld => ?_)
              · exact keep_cell B5.out HX5.out
              clear hK K
              (try simp only [Act.put, List.setIfInBounds_toArray, List.set_cons_zero, List.set_cons_succ])
              refine wpAnyH_ready (rs := [8]) (by kernel_rfl) (by simp) (AllReadyH.cons (o := { dst := some 30, op := Go.Op.call { callee := Go.Callee.builtin Go.Builtin.append, args := #[Go.Operand.tmp 25, Go.Operand.tmp 29], argTypes := #[24, 24] }, type := 24, pos := "law.go:109", after := #[{ on := 3, ground := Go.Ground.data }, { on := 7, ground := Go.Ground.data }, { on := 3, ground := Go.Ground.chain }], guard := none }) rfl (fun K hK => ?_) AllReadyH.nil)
              · have RD5 := Lib.hid (one_reads O5.out)
                refine step_append_any _ rfl (.tmp 25) (.tmp 29) 24 rfl w5.heap.size 9 i0 (.string ⟨#[]⟩) 1 16 Try.underlying24 HI.out HI0.out HI1.out HI2.out rfl (by decide) (.slice rb n rc) (n) (strs rows) (by rfl) V5.out (.slice (some ⟨go, 0, none⟩) 1 1) (1) (strs [zs]) (by rfl) RD5.out (strs_oneCell _) (by unfold maxLen; omega) (by omega) B5.out.size ?_
                intro vx v6 hown hgrow
                have B6 := Lib.hid (B5.out.grown hgrow B5.out.size (fun k hk => by have := (V5.out.lt k hk).1; omega))
                rw [← strs_append] at hown
                obtain ⟨rb2, rc2, hvx, _, _, _⟩ := own_form hown
                subst hvx
                have V6 := Lib.hid hown
                clear hown hgrow RD5
                refine hK.out _ _ ?_ (fun hHeld => ?_)
                · exact keep_cell B6.out HX5.out
                clear hK K
                (try simp only [Act.put, List.setIfInBounds_toArray, List.set_cons_zero, List.set_cons_succ])
                refine wpAnyH_take (i := 9) (oi := { dst := some 31, op := Go.Op.fieldAddr 26 (Go.Operand.tmp 7) 5, type := 0, pos := "law.go:109", after := #[{ on := 0, ground := Go.Ground.phase }, { on := 1, ground := Go.Ground.phase }, { on := 2, ground := Go.Ground.phase }, { on := 3, ground := Go.Ground.phase }, { on := 4, ground := Go.Ground.phase }, { on := 5, ground := Go.Ground.phase }, { on := 6, ground := Go.Ground.phase }, { on := 7, ground := Go.Ground.phase }, { on := 8, ground := Go.Ground.phase }], guard := none }) (v := ?_) rfl (by kernel_rfl) (by kernel_rfl) (by kernel_rfl) (fun _ _ _ h => h) (Or.inl ⟨by rfl, ?_⟩) hHeld ?_
                rotate_left
                · (intro w hSw; go_simp <;> with_reducible rfl)
                simp only [Act.put, List.setIfInBounds_toArray, List.set_cons_zero, List.set_cons_succ]
                refine wpAnyH_ready (rs := [10]) (by kernel_rfl) (by simp) (AllReadyH.cons (o := { dst := none, op := Go.Op.store 24 (Go.Operand.tmp 31) (Go.Operand.tmp 30), type := 0, pos := "law.go:109", after := #[{ on := 9, ground := Go.Ground.data }, { on := 8, ground := Go.Ground.data }, { on := 8, ground := Go.Ground.chain }, { on := 0, ground := Go.Ground.phase }, { on := 1, ground := Go.Ground.phase }, { on := 2, ground := Go.Ground.phase }, { on := 3, ground := Go.Ground.phase }, { on := 4, ground := Go.Ground.phase }, { on := 5, ground := Go.Ground.phase }, { on := 6, ground := Go.Ground.phase }, { on := 7, ground := Go.Ground.phase }, { on := 8, ground := Go.Ground.phase }], guard := none }) rfl (fun K hK => ?_) AllReadyH.nil)
                · obtain ⟨z0, z1, z2, z3, z4, z5, z6⟩ := (H7.out.below B6.out).cells
                  have zf := (H7.out.below B6.out).frozen 5
                  go_simp
                  have PF7 := Lib.hid ((H7.out.below B6.out).set5 (.slice rb2 (n + 1) rc2))
                  have KF7 := Lib.hid (one_kept v6 g7 5 (.slice rb2 (n + 1) rc2))
                  have TF7 := Lib.hid ((texts_own V6.out).1.off_pg (H7.out.below B6.out) (fun x e => by cases e) KF7.out)
                  generalize v6.setCell ⟨g7, 5, none⟩ (.slice rb2 (n + 1) rc2) = v7 at *
                  have B7 := Lib.hid (OthersKept.below (below_then BW5.out B6.out) KF7.out (fun k hk e => by omega))
                  clear z0 z1 z2 z3 z4 z5 z6 zf
                  refine hK.out _ _ ?_ (fun hHeld => ?_)
                  · exact KF7.out.cell (keep_cell B6.out HX5.out) (fun e => absurd (show w.heap.size = g7 from e) (by omega))
                  clear hK K
                  (try simp only [Act.put, List.setIfInBounds_toArray, List.set_cons_zero, List.set_cons_succ])
                  refine wpAnyH_done (by kernel_rfl) ?_ _
                  go_wp2_with fail
                  go_meet
                  exact ⟨rb2, rc2, rfl, PF7, TF7, B7⟩
      · go_simp
        refine upon_make _ 70 5 k Try.underlying70 (by kernel_rfl) (by kernel_rfl) (by kernel_rfl) (by omega) (fun v2 hrow hb => ?_)
        rw [← HZS.out] at hrow
        obtain ⟨gz, hgz⟩ : ∃ g, g = v1.heap.size := ⟨_, rfl⟩
        rw [← hgz] at hrow ⊢
        have Z2 := Lib.hid hrow
        have lz : gz < v2.heap.size := Z2.out.lt
        have dz : ge < gz := by omega
        have B2 := Lib.hid (below_then B1.out hb)
        have E2 := Lib.hid (own_below E1.out hb)
        have le : ge < v2.heap.size := Nat.lt_of_lt_of_le le hb.size
        clear hb hrow hgz
        refine hK.out _ _ ?_ (fun hHeld => ?_)
        · exact keep_cell B2.out HX5.out
        clear hK K
        (try simp only [Act.put, List.setIfInBounds_toArray, List.set_cons_zero, List.set_cons_succ])
        refine wpAnyH_ready (rs := [3, 6]) (by kernel_rfl) (by simp) (AllReadyH.cons (o := { dst := some 25, op := Go.Op.call { callee := Go.Callee.builtin Go.Builtin.append, args := #[Go.Operand.tmp 22, Go.Operand.tmp 24], argTypes := #[24, 24] }, type := 24, pos := "law.go:109", after := #[{ on := 0, ground := Go.Ground.data }, { on := 2, ground := Go.Ground.data }], guard := none }) rfl (fun K hK => ?_) (AllReadyH.cons (o := { dst := some 28, op := Go.Op.convert 70 9 (Go.Operand.tmp 27), type := 9, pos := "law.go:109", after := #[{ on := 5, ground := Go.Ground.data }], guard := none }) rfl (fun K hK => ?_) AllReadyH.nil))
        · have TA2 := Lib.hid (HT5.out.below B2.out).reads
          rw [← HN.out] at TA2
          refine step_append_any _ rfl (.tmp 22) (.tmp 24) 24 rfl w5.heap.size 9 i0 (.string ⟨#[]⟩) 1 16 Try.underlying24 HI.out HI0.out HI1.out HI2.out rfl (by decide) (.slice (some ⟨ge, 0, none⟩) 0 0) (0) ([]) (by rfl) E2.out (.slice A n cp) (n) (strs rows) (by rfl) TA2.out (strs_oneCell _) (by unfold maxLen; omega) (by omega) B2.out.size ?_
          intro vx v3 hown hgrow
          have B3 := Lib.hid (B2.out.grown hgrow B2.out.size (fun k hk => by have := (E2.out.lt k hk).1; omega))
          simp only [Nat.zero_add, List.nil_append] at hown
          obtain ⟨rb, rc, hvx, hrn, hrc, _⟩ := own_form hown
          subst hvx
          have V3 := Lib.hid hown
          have Z3 := Lib.hid (Z2.out.of_eq (hgrow.block gz Z2.out.lt (by simp [Value.ownBlock]; omega)))
          have lz : gz < v3.heap.size := Z3.out.lt
          clear hown hgrow TA2
          refine hK.out _ _ ?_ (fun hHeld => ?_)
          · exact keep_cell B3.out HX5.out
          clear hK K
          (try simp only [Act.put, List.setIfInBounds_toArray, List.set_cons_zero, List.set_cons_succ])
          refine wpAnyH_ready (rs := [6]) (by kernel_rfl) (by simp) (AllReadyH.cons (o := { dst := some 28, op := Go.Op.convert 70 9 (Go.Operand.tmp 27), type := 9, pos := "law.go:109", after := #[{ on := 5, ground := Go.Ground.data }], guard := none }) rfl (fun K hK => ?_) AllReadyH.nil)
          · go_simp
            refine upon_str Z3.out HZL.out 70 5 9 Try.underlying70 Try.underlying5 Try.underlying9 ?_
            rw [sumBytes]
            generalize hv4 : v3 = v4 at *
            have B4 := B3
            have V4 := V3
            clear Z3 hv4
            refine hK.out _ _ ?_ (fun hHeld => ?_)
            · exact keep_cell B4.out HX5.out
            clear hK K
            (try simp only [Act.put, List.setIfInBounds_toArray, List.set_cons_zero, List.set_cons_succ])
            refine wpAnyH_ready (rs := [7]) (by kernel_rfl) (by simp) (AllReadyH.cons (o := { dst := some 29, op := Go.Op.buildSlice 24 1 #[(0, Go.Operand.tmp 28)], type := 24, pos := "law.go:109", after := #[{ on := 6, ground := Go.Ground.data }], guard := none }) rfl (fun K hK => ?_) AllReadyH.nil)
            · go_simp
              have hb := alloc_below v4 (.cells #[.string ⟨zs.toArray⟩] 9)
              have hO := heap_alloc_new v4 (.cells #[.string ⟨zs.toArray⟩] 9)
              obtain ⟨go, hgo⟩ : ∃ g, g = v4.heap.size := ⟨_, rfl⟩
              rw [← hgo] at hO ⊢
              generalize v4.alloc (.cells #[.string ⟨zs.toArray⟩] 9) = v5 at *
              have O5 := Lib.hid hO
              have lo : go < v5.heap.size := blk_lt hO
              have B5 := Lib.hid (below_then B4.out hb)
              have V5 := Lib.hid (own_below V4.out hb)
              clear hb hO hgo
              refine hK.out _ _ ?_ (fun hHeld => ?_)
              · exact keep_cell B5.out HX5.out
              clear hK K
              (try simp only [Act.put, List.setIfInBounds_toArray, List.set_cons_zero, List.set_cons_succ])
              refine wpAnyH_ready (rs := [8]) (by kernel_rfl) (by simp) (AllReadyH.cons (o := { dst := some 30, op := Go.Op.call { callee := Go.Callee.builtin Go.Builtin.append, args := #[Go.Operand.tmp 25, Go.Operand.tmp 29], argTypes := #[24, 24] }, type := 24, pos := "law.go:109", after := #[{ on := 3, ground := Go.Ground.data }, { on := 7, ground := Go.Ground.data }, { on := 3, ground := Go.Ground.chain }], guard := none }) rfl (fun K hK => ?_) AllReadyH.nil)
              · have RD5 := Lib.hid (one_reads O5.out)
                refine step_append_any _ rfl (.tmp 25) (.tmp 29) 24 rfl w5.heap.size 9 i0 (.string ⟨#[]⟩) 1 16 Try.underlying24 HI.out HI0.out HI1.out HI2.out rfl (by decide) (.slice rb n rc) (n) (strs rows) (by rfl) V5.out (.slice (some ⟨go, 0, none⟩) 1 1) (1) (strs [zs]) (by rfl) RD5.out (strs_oneCell _) (by unfold maxLen; omega) (by omega) B5.out.size ?_
                intro vx v6 hown hgrow
                have B6 := Lib.hid (B5.out.grown hgrow B5.out.size (fun k hk => by have := (V5.out.lt k hk).1; omega))
                rw [← strs_append] at hown
                obtain ⟨rb2, rc2, hvx, _, _, _⟩ := own_form hown
                subst hvx
                have V6 := Lib.hid hown
                clear hown hgrow RD5
                refine hK.out _ _ ?_ (fun hHeld => ?_)
                · exact keep_cell B6.out HX5.out
                clear hK K
                (try simp only [Act.put, List.setIfInBounds_toArray, List.set_cons_zero, List.set_cons_succ])
                refine wpAnyH_take (i := 9) (oi := { dst := some 31, op := Go.Op.fieldAddr 26 (Go.Operand.tmp 7) 5, type := 0, pos := "law.go:109", after := #[{ on := 0, ground := Go.Ground.phase }, { on := 1, ground := Go.Ground.phase }, { on := 2, ground := Go.Ground.phase }, { on := 3, ground := Go.Ground.phase }, { on := 4, ground := Go.Ground.phase }, { on := 5, ground := Go.Ground.phase }, { on := 6, ground := Go.Ground.phase }, { on := 7, ground := Go.Ground.phase }, { on := 8, ground := Go.Ground.phase }], guard := none }) (v := ?_) rfl (by kernel_rfl) (by kernel_rfl) (by kernel_rfl) (fun _ _ _ h => h) (Or.inl ⟨by rfl, ?_⟩) hHeld ?_
                rotate_left
                · (intro w hSw; go_simp <;> with_reducible rfl)
                simp only [Act.put, List.setIfInBounds_toArray, List.set_cons_zero, List.set_cons_succ]
                refine wpAnyH_ready (rs := [10]) (by kernel_rfl) (by simp) (AllReadyH.cons (o := { dst := none, op := Go.Op.store 24 (Go.Operand.tmp 31) (Go.Operand.tmp 30), type := 0, pos := "law.go:109", after := #[{ on := 9, ground := Go.Ground.data }, { on := 8, ground := Go.Ground.data }, { on := 8, ground := Go.Ground.chain }, { on := 0, ground := Go.Ground.phase }, { on := 1, ground := Go.Ground.phase }, { on := 2, ground := Go.Ground.phase }, { on := 3, ground := Go.Ground.phase }, { on := 4, ground := Go.Ground.phase }, { on := 5, ground := Go.Ground.phase }, { on := 6, ground := Go.Ground.phase }, { on := 7, ground := Go.Ground.phase }, { on := 8, ground := Go.Ground.phase }], guard := none }) rfl (fun K hK => ?_) AllReadyH.nil)
                · obtain ⟨z0, z1, z2, z3, z4, z5, z6⟩ := (H7.out.below B6.out).cells
                  have zf := (H7.out.below B6.out).frozen 5
                  go_simp
                  have PF7 := Lib.hid ((H7.out.below B6.out).set5 (.slice rb2 (n + 1) rc2))
                  have KF7 := Lib.hid (one_kept v6 g7 5 (.slice rb2 (n + 1) rc2))
                  have TF7 := Lib.hid ((texts_own V6.out).1.off_pg (H7.out.below B6.out) (fun x e => by cases e) KF7.out)
                  generalize v6.setCell ⟨g7, 5, none⟩ (.slice rb2 (n + 1) rc2) = v7 at *
                  have B7 := Lib.hid (OthersKept.below (below_then BW5.out B6.out) KF7.out (fun k hk e => by omega))
                  clear z0 z1 z2 z3 z4 z5 z6 zf
                  refine hK.out _ _ ?_ (fun hHeld => ?_)
                  · exact KF7.out.cell (keep_cell B6.out HX5.out) (fun e => absurd (show w.heap.size = g7 from e) (by omega))
                  clear hK K
                  (try simp only [Act.put, List.setIfInBounds_toArray, List.set_cons_zero, List.set_cons_succ])
                  refine wpAnyH_done (by kernel_rfl) ?_ _
                  go_wp2_with fail
                  go_meet
                  exact ⟨rb2, rc2, rfl, PF7, TF7, B7⟩
        · go_simp
          refine upon_str Z2.out HZL.out 70 5 9 Try.underlying70 Try.underlying5 Try.underlying9 ?_
          rw [sumBytes]
          generalize hv3 : v2 = v3 at *
          have B3 := B2
          have E3 := E2
          clear Z2 hv3
          refine hK.out _ _ ?_ (fun hHeld => ?_)
          · exact keep_cell B3.out HX5.out
          clear hK K
          (try simp only [Act.put, List.setIfInBounds_toArray, List.set_cons_zero, List.set_cons_succ])
          refine wpAnyH_ready (rs := [3, 7]) (by kernel_rfl) (by simp) (AllReadyH.cons (o := { dst := some 25, op := Go.Op.call { callee := Go.Callee.builtin Go.Builtin.append, args := #[Go.Operand.tmp 22, Go.Operand.tmp 24], argTypes := #[24, 24] }, type := 24, pos := "law.go:109", after := #[{ on := 0, ground := Go.Ground.data }, { on := 2, ground := Go.Ground.data }], guard := none }) rfl (fun K hK => ?_) (AllReadyH.cons (o := { dst := some 29, op := Go.Op.buildSlice 24 1 #[(0, Go.Operand.tmp 28)], type := 24, pos := "law.go:109", after := #[{ on := 6, ground := Go.Ground.data }], guard := none }) rfl (fun K hK => ?_) AllReadyH.nil))
          · have TA3 := Lib.hid (HT5.out.below B3.out).reads
            rw [← HN.out] at TA3
            refine step_append_any _ rfl (.tmp 22) (.tmp 24) 24 rfl w5.heap.size 9 i0 (.string ⟨#[]⟩) 1 16 Try.underlying24 HI.out HI0.out HI1.out HI2.out rfl (by decide) (.slice (some ⟨ge, 0, none⟩) 0 0) (0) ([]) (by rfl) E3.out (.slice A n cp) (n) (strs rows) (by rfl) TA3.out (strs_oneCell _) (by unfold maxLen; omega) (by omega) B3.out.size ?_
            intro vx v4 hown hgrow
            have B4 := Lib.hid (B3.out.grown hgrow B3.out.size (fun k hk => by have := (E3.out.lt k hk).1; omega))
            simp only [Nat.zero_add, List.nil_append] at hown
            obtain ⟨rb, rc, hvx, hrn, hrc, _⟩ := own_form hown
            subst hvx
            have V4 := Lib.hid hown
            clear hown hgrow TA3
            refine hK.out _ _ ?_ (fun hHeld => ?_)
            · exact keep_cell B4.out HX5.out
            clear hK K
            (try simp only [Act.put, List.setIfInBounds_toArray, List.set_cons_zero, List.set_cons_succ])
            refine wpAnyH_ready (rs := [7]) (by kernel_rfl) (by simp) (AllReadyH.cons (o := { dst := some 29, op := Go.Op.buildSlice 24 1 #[(0, Go.Operand.tmp 28)], type := 24, pos := "law.go:109", after := #[{ on := 6, ground := Go.Ground.data }], guard := none }) rfl (fun K hK => ?_) AllReadyH.nil)
            · go_simp
              have hb := alloc_below v4 (.cells #[.string ⟨zs.toArray⟩] 9)
              have hO := heap_alloc_new v4 (.cells #[.string ⟨zs.toArray⟩] 9)
              obtain ⟨go, hgo⟩ : ∃ g, g = v4.heap.size := ⟨_, rfl⟩
              rw [← hgo] at hO ⊢
              generalize v4.alloc (.cells #[.string ⟨zs.toArray⟩] 9) = v5 at *
              have O5 := Lib.hid hO
              have lo : go < v5.heap.size := blk_lt hO
              have B5 := Lib.hid (below_then B4.out hb)
              have V5 := Lib.hid (own_below V4.out hb)
              clear hb hO hgo
              refine hK.out _ _ ?_ (fun hHeld => ?_)
              · exact keep_cell B5.out HX5.out
              clear hK K
              (try simp only [Act.put, List.setIfInBounds_toArray, List.set_cons_zero, List.set_cons_succ])
              refine wpAnyH_ready (rs := [8]) (by kernel_rfl) (by simp) (AllReadyH.cons (o := { dst := some 30, op := Go.Op.call { callee := Go.Callee.builtin Go.Builtin.append, args := #[Go.Operand.tmp 25, Go.Operand.tmp 29], argTypes := #[24, 24] }, type := 24, pos := "law.go:109", after := #[{ on := 3, ground := Go.Ground.data }, { on := 7, ground := Go.Ground.data }, { on := 3, ground := Go.Ground.chain }], guard := none }) rfl (fun K hK => ?_) AllReadyH.nil)
              · have RD5 := Lib.hid (one_reads O5.out)
                refine step_append_any _ rfl (.tmp 25) (.tmp 29) 24 rfl w5.heap.size 9 i0 (.string ⟨#[]⟩) 1 16 Try.underlying24 HI.out HI0.out HI1.out HI2.out rfl (by decide) (.slice rb n rc) (n) (strs rows) (by rfl) V5.out (.slice (some ⟨go, 0, none⟩) 1 1) (1) (strs [zs]) (by rfl) RD5.out (strs_oneCell _) (by unfold maxLen; omega) (by omega) B5.out.size ?_
                intro vx v6 hown hgrow
                have B6 := Lib.hid (B5.out.grown hgrow B5.out.size (fun k hk => by have := (V5.out.lt k hk).1; omega))
                rw [← strs_append] at hown
                obtain ⟨rb2, rc2, hvx, _, _, _⟩ := own_form hown
                subst hvx
                have V6 := Lib.hid hown
                clear hown hgrow RD5
                refine hK.out _ _ ?_ (fun hHeld => ?_)
                · exact keep_cell B6.out HX5.out
                clear hK K
                (try simp only [Act.put, List.setIfInBounds_toArray, List.set_cons_zero, List.set_cons_succ])
                refine wpAnyH_take (i := 9) (oi := { dst := some 31, op := Go.Op.fieldAddr 26 (Go.Operand.tmp 7) 5, type := 0, pos := "law.go:109", after := #[{ on := 0, ground := Go.Ground.phase }, { on := 1, ground := Go.Ground.phase }, { on := 2, ground := Go.Ground.phase }, { on := 3, ground := Go.Ground.phase }, { on := 4, ground := Go.Ground.phase }, { on := 5, ground := Go.Ground.phase }, { on := 6, ground := Go.Ground.phase }, { on := 7, ground := Go.Ground.phase }, { on := 8, ground := Go.Ground.phase }], guard := none }) (v := ?_) rfl (by kernel_rfl) (by kernel_rfl) (by kernel_rfl) (fun _ _ _ h => h) (Or.inl ⟨by rfl, ?_⟩) hHeld ?_
                rotate_left
                · (intro w hSw; go_simp <;> with_reducible rfl)
                simp only [Act.put, List.setIfInBounds_toArray, List.set_cons_zero, List.set_cons_succ]
                refine wpAnyH_ready (rs := [10]) (by kernel_rfl) (by simp) (AllReadyH.cons (o := { dst := none, op := Go.Op.store 24 (Go.Operand.tmp 31) (Go.Operand.tmp 30), type := 0, pos := "law.go:109", after := #[{ on := 9, ground := Go.Ground.data }, { on := 8, ground := Go.Ground.data }, { on := 8, ground := Go.Ground.chain }, { on := 0, ground := Go.Ground.phase }, { on := 1, ground := Go.Ground.phase }, { on := 2, ground := Go.Ground.phase }, { on := 3, ground := Go.Ground.phase }, { on := 4, ground := Go.Ground.phase }, { on := 5, ground := Go.Ground.phase }, { on := 6, ground := Go.Ground.phase }, { on := 7, ground := Go.Ground.phase }, { on := 8, ground := Go.Ground.phase }], guard := none }) rfl (fun K hK => ?_) AllReadyH.nil)
                · obtain ⟨z0, z1, z2, z3, z4, z5, z6⟩ := (H7.out.below B6.out).cells
                  have zf := (H7.out.below B6.out).frozen 5
                  go_simp
                  have PF7 := Lib.hid ((H7.out.below B6.out).set5 (.slice rb2 (n + 1) rc2))
                  have KF7 := Lib.hid (one_kept v6 g7 5 (.slice rb2 (n + 1) rc2))
                  have TF7 := Lib.hid ((texts_own V6.out).1.off_pg (H7.out.below B6.out) (fun x e => by cases e) KF7.out)
                  generalize v6.setCell ⟨g7, 5, none⟩ (.slice rb2 (n + 1) rc2) = v7 at *
                  have B7 := Lib.hid (OthersKept.below (below_then BW5.out B6.out) KF7.out (fun k hk e => by omega))
                  clear z0 z1 z2 z3 z4 z5 z6 zf
                  refine hK.out _ _ ?_ (fun hHeld => ?_)
                  · exact KF7.out.cell (keep_cell B6.out HX5.out) (fun e => absurd (show w.heap.size = g7 from e) (by omega))
                  clear hK K
                  (try simp only [Act.put, List.setIfInBounds_toArray, List.set_cons_zero, List.set_cons_succ])
                  refine wpAnyH_done (by kernel_rfl) ?_ _
                  go_wp2_with fail
                  go_meet
                  exact ⟨rb2, rc2, rfl, PF7, TF7, B7⟩
          · go_simp
            have hb := alloc_below v3 (.cells #[.string ⟨zs.toArray⟩] 9)
            have hO := heap_alloc_new v3 (.cells #[.string ⟨zs.toArray⟩] 9)
            obtain ⟨go, hgo⟩ : ∃ g, g = v3.heap.size := ⟨_, rfl⟩
            rw [← hgo] at hO ⊢
            generalize v3.alloc (.cells #[.string ⟨zs.toArray⟩] 9) = v4 at *
            have O4 := Lib.hid hO
            have lo : go < v4.heap.size := blk_lt hO
            have do_ : ge < go := by omega
            have B4 := Lib.hid (below_then B3.out hb)
            have E4 := Lib.hid (own_below E3.out hb)
            have le : ge < v4.heap.size := Nat.lt_of_lt_of_le le hb.size
            clear hb hO hgo
            refine hK.out _ _ ?_ (fun hHeld => ?_)
            · exact keep_cell B4.out HX5.out
            clear hK K
            (try simp only [Act.put, List.setIfInBounds_toArray, List.set_cons_zero, List.set_cons_succ])
            refine wpAnyH_ready (rs := [3]) (by kernel_rfl) (by simp) (AllReadyH.cons (o := { dst := some 25, op := Go.Op.call { callee := Go.Callee.builtin Go.Builtin.append, args := #[Go.Operand.tmp 22, Go.Operand.tmp 24], argTypes := #[24, 24] }, type := 24, pos := "law.go:109", after := #[{ on := 0, ground := Go.Ground.data }, { on := 2, ground := Go.Ground.data }], guard := none }) rfl (fun K hK => ?_) AllReadyH.nil)
            · have TA4 := Lib.hid (HT5.out.below B4.out).reads
              rw [← HN.out] at TA4
              refine step_append_any _ rfl (.tmp 22) (.tmp 24) 24 rfl w5.heap.size 9 i0 (.string ⟨#[]⟩) 1 16 Try.underlying24 HI.out HI0.out HI1.out HI2.out rfl (by decide) (.slice (some ⟨ge, 0, none⟩) 0 0) (0) ([]) (by rfl) E4.out (.slice A n cp) (n) (strs rows) (by rfl) TA4.out (strs_oneCell _) (by unfold maxLen; omega) (by omega) B4.out.size ?_
              intro vx v5 hown hgrow
              have B5 := Lib.hid (B4.out.grown hgrow B4.out.size (fun k hk => by have := (E4.out.lt k hk).1; omega))
              simp only [Nat.zero_add, List.nil_append] at hown
              obtain ⟨rb, rc, hvx, hrn, hrc, _⟩ := own_form hown
              subst hvx
              have V5 := Lib.hid hown
              have O5 := Lib.hid ((hgrow.block go (blk_lt O4.out) (by simp [Value.ownBlock]; omega)).trans O4.out)
              have lo : go < v5.heap.size := blk_lt O5.out
              clear hown hgrow TA4
              refine hK.out _ _ ?_ (fun hHeld => ?_)
              · exact keep_cell B5.out HX5.out
              clear hK K
              (try simp only [Act.put, List.setIfInBounds_toArray, List.set_cons_zero, List.set_cons_succ])
              refine wpAnyH_ready (rs := [8]) (by kernel_rfl) (by simp) (AllReadyH.cons (o := { dst := some 30, op := Go.Op.call { callee := Go.Callee.builtin Go.Builtin.append, args := #[Go.Operand.tmp 25, Go.Operand.tmp 29], argTypes := #[24, 24] }, type := 24, pos := "law.go:109", after := #[{ on := 3, ground := Go.Ground.data }, { on := 7, ground := Go.Ground.data }, { on := 3, ground := Go.Ground.chain }], guard := none }) rfl (fun K hK => ?_) AllReadyH.nil)
              · have RD5 := Lib.hid (one_reads O5.out)
                refine step_append_any _ rfl (.tmp 25) (.tmp 29) 24 rfl w5.heap.size 9 i0 (.string ⟨#[]⟩) 1 16 Try.underlying24 HI.out HI0.out HI1.out HI2.out rfl (by decide) (.slice rb n rc) (n) (strs rows) (by rfl) V5.out (.slice (some ⟨go, 0, none⟩) 1 1) (1) (strs [zs]) (by rfl) RD5.out (strs_oneCell _) (by unfold maxLen; omega) (by omega) B5.out.size ?_
                intro vx v6 hown hgrow
                have B6 := Lib.hid (B5.out.grown hgrow B5.out.size (fun k hk => by have := (V5.out.lt k hk).1; omega))
                rw [← strs_append] at hown
                obtain ⟨rb2, rc2, hvx, _, _, _⟩ := own_form hown
                subst hvx
                have V6 := Lib.hid hown
                clear hown hgrow RD5
                refine hK.out _ _ ?_ (fun hHeld => ?_)
                · exact keep_cell B6.out HX5.out
                clear hK K
                (try simp only [Act.put, List.setIfInBounds_toArray, List.set_cons_zero, List.set_cons_succ])
                refine wpAnyH_take (i := 9) (oi := { dst := some 31, op := Go.Op.fieldAddr 26 (Go.Operand.tmp 7) 5, type := 0, pos := "law.go:109", after := #[{ on := 0, ground := Go.Ground.phase }, { on := 1, ground := Go.Ground.phase }, { on := 2, ground := Go.Ground.phase }, { on := 3, ground := Go.Ground.phase }, { on := 4, ground := Go.Ground.phase }, { on := 5, ground := Go.Ground.phase }, { on := 6, ground := Go.Ground.phase }, { on := 7, ground := Go.Ground.phase }, { on := 8, ground := Go.Ground.phase }], guard := none }) (v := ?_) rfl (by kernel_rfl) (by kernel_rfl) (by kernel_rfl) (fun _ _ _ h => h) (Or.inl ⟨by rfl, ?_⟩) hHeld ?_
                rotate_left
                · (intro w hSw; go_simp <;> with_reducible rfl)
                simp only [Act.put, List.setIfInBounds_toArray, List.set_cons_zero, List.set_cons_succ]
                refine wpAnyH_ready (rs := [10]) (by kernel_rfl) (by simp) (AllReadyH.cons (o := { dst := none, op := Go.Op.store 24 (Go.Operand.tmp 31) (Go.Operand.tmp 30), type := 0, pos := "law.go:109", after := #[{ on := 9, ground := Go.Ground.data }, { on := 8, ground := Go.Ground.data }, { on := 8, ground := Go.Ground.chain }, { on := 0, ground := Go.Ground.phase }, { on := 1, ground := Go.Ground.phase }, { on := 2, ground := Go.Ground.phase }, { on := 3, ground := Go.Ground.phase }, { on := 4, ground := Go.Ground.phase }, { on := 5, ground := Go.Ground.phase }, { on := 6, ground := Go.Ground.phase }, { on := 7, ground := Go.Ground.phase }, { on := 8, ground := Go.Ground.phase }], guard := none }) rfl (fun K hK => ?_) AllReadyH.nil)
                · obtain ⟨z0, z1, z2, z3, z4, z5, z6⟩ := (H7.out.below B6.out).cells
                  have zf := (H7.out.below B6.out).frozen 5
                  go_simp
                  have PF7 := Lib.hid ((H7.out.below B6.out).set5 (.slice rb2 (n + 1) rc2))
                  have KF7 := Lib.hid (one_kept v6 g7 5 (.slice rb2 (n + 1) rc2))
                  have TF7 := Lib.hid ((texts_own V6.out).1.off_pg (H7.out.below B6.out) (fun x e => by cases e) KF7.out)
                  generalize v6.setCell ⟨g7, 5, none⟩ (.slice rb2 (n + 1) rc2) = v7 at *
                  have B7 := Lib.hid (OthersKept.below (below_then BW5.out B6.out) KF7.out (fun k hk e => by omega))
                  clear z0 z1 z2 z3 z4 z5 z6 zf
                  refine hK.out _ _ ?_ (fun hHeld => ?_)
                  · exact KF7.out.cell (keep_cell B6.out HX5.out) (fun e => absurd (show w.heap.size = g7 from e) (by omega))
                  clear hK K
                  (try simp only [Act.put, List.setIfInBounds_toArray, List.set_cons_zero, List.set_cons_succ])
                  refine wpAnyH_done (by kernel_rfl) ?_ _
                  go_wp2_with fail
                  go_meet
                  exact ⟨rb2, rc2, rfl, PF7, TF7, B7⟩
    · go_simp
      refine upon_make _ 70 5 k Try.underlying70 (by kernel_rfl) (by kernel_rfl) (by kernel_rfl) (by omega) (fun v1 hrow hb => ?_)
      rw [← HZS.out] at hrow
      obtain ⟨gz, hgz⟩ : ∃ g, g = v0.heap.size := ⟨_, rfl⟩
      rw [← hgz] at hrow ⊢
      have Z1 := Lib.hid hrow
      have lz : gz < v1.heap.size := Z1.out.lt
      have B1 := Lib.hid (below_then B0.out hb)
      clear hb hrow hgz
      refine hK.out _ _ ?_ (fun hHeld => ?_)
      · exact keep_cell B1.out HX5.out
      clear hK K
      (try simp only [Act.put, List.setIfInBounds_toArray, List.set_cons_zero, List.set_cons_succ])
      refine wpAnyH_ready (rs := [0, 6]) (by kernel_rfl) (by simp) (AllReadyH.cons (o := { dst := some 22, op := Go.Op.buildSlice 24 0 #[], type := 24, pos := "law.go:109", after := #[], guard := none }) rfl (fun K hK => ?_) (AllReadyH.cons (o := { dst := some 28, op := Go.Op.convert 70 9 (Go.Operand.tmp 27), type := 9, pos := "law.go:109", after := #[{ on := 5, ground := Go.Ground.data }], guard := none }) rfl (fun K hK => ?_) AllReadyH.nil))
      · go_simp
        have hb := alloc_below v1 (.cells #[] 9)
        have hn := World.size_alloc v1 (.cells #[] 9)
        have hE : (v1.alloc (.cells #[] 9)).ownsRow w5.heap.size 9 1 (.slice (some ⟨v1.heap.size, 0, none⟩) 0 0) 0 [] := World.ownsRow_made v1 #[] 0 B1.out.size (by unfold maxLen; omega) rfl
        obtain ⟨ge, hge⟩ : ∃ g, g = v1.heap.size := ⟨_, rfl⟩
        rw [← hge] at hE hn ⊢
        generalize v1.alloc (.cells #[] 9) = v2 at *
        have le : ge < v2.heap.size := by omega
        have dz : gz < ge := by omega
        have E2 := Lib.hid hE
        have B2 := Lib.hid (below_then B1.out hb)
        have Z2 := Lib.hid (Z1.out.of_eq (hb.block gz Z1.out.lt))
        have lz : gz < v2.heap.size := Z2.out.lt
        clear hb hn hE hge
        refine hK.out _ _ ?_ (fun hHeld => ?_)
        · exact keep_cell B2.out HX5.out
        clear hK K
        (try simp only [Act.put, List.setIfInBounds_toArray, List.set_cons_zero, List.set_cons_succ])
        refine wpAnyH_ready (rs := [3, 6]) (by kernel_rfl) (by simp) (AllReadyH.cons (o := { dst := some 25, op := Go.Op.call { callee := Go.Callee.builtin Go.Builtin.append, args := #[Go.Operand.tmp 22, Go.Operand.tmp 24], argTypes := #[24, 24] }, type := 24, pos := "law.go:109", after := #[{ on := 0, ground := Go.Ground.data }, { on := 2, ground := Go.Ground.data }], guard := none }) rfl (fun K hK => ?_) (AllReadyH.cons (o := { dst := some 28, op := Go.Op.convert 70 9 (Go.Operand.tmp 27), type := 9, pos := "law.go:109", after := #[{ on := 5, ground := Go.Ground.data }], guard := none }) rfl (fun K hK => ?_) AllReadyH.nil))
        · have TA2 := Lib.hid (HT5.out.below B2.out).reads
          rw [← HN.out] at TA2
          refine step_append_any _ rfl (.tmp 22) (.tmp 24) 24 rfl w5.heap.size 9 i0 (.string ⟨#[]⟩) 1 16 Try.underlying24 HI.out HI0.out HI1.out HI2.out rfl (by decide) (.slice (some ⟨ge, 0, none⟩) 0 0) (0) ([]) (by rfl) E2.out (.slice A n cp) (n) (strs rows) (by rfl) TA2.out (strs_oneCell _) (by unfold maxLen; omega) (by omega) B2.out.size ?_
          intro vx v3 hown hgrow
          have B3 := Lib.hid (B2.out.grown hgrow B2.out.size (fun k hk => by have := (E2.out.lt k hk).1; omega))
          simp only [Nat.zero_add, List.nil_append] at hown
          obtain ⟨rb, rc, hvx, hrn, hrc, _⟩ := own_form hown
          subst hvx
          have V3 := Lib.hid hown
          have Z3 := Lib.hid (Z2.out.of_eq (hgrow.block gz Z2.out.lt (by simp [Value.ownBlock]; omega)))
          have lz : gz < v3.heap.size := Z3.out.lt
          clear hown hgrow TA2
          refine hK.out _ _ ?_ (fun hHeld => ?_)
          · exact keep_cell B3.out HX5.out
          clear hK K
          (try simp only [Act.put, List.setIfInBounds_toArray, List.set_cons_zero, List.set_cons_succ])
          refine wpAnyH_ready (rs := [6]) (by kernel_rfl) (by simp) (AllReadyH.cons (o := { dst := some 28, op := Go.Op.convert 70 9 (Go.Operand.tmp 27), type := 9, pos := "law.go:109", after := #[{ on := 5, ground := Go.Ground.data }], guard := none }) rfl (fun K hK => ?_) AllReadyH.nil)
          · go_simp
            refine upon_str Z3.out HZL.out 70 5 9 Try.underlying70 Try.underlying5 Try.underlying9 ?_
            rw [sumBytes]
            generalize hv4 : v3 = v4 at *
            have B4 := B3
            have V4 := V3
            clear Z3 hv4
            refine hK.out _ _ ?_ (fun hHeld => ?_)
            · exact keep_cell B4.out HX5.out
            clear hK K
            (try simp only [Act.put, List.setIfInBounds_toArray, List.set_cons_zero, List.set_cons_succ])
            refine wpAnyH_ready (rs := [7]) (by kernel_rfl) (by simp) (AllReadyH.cons (o := { dst := some 29, op := Go.Op.buildSlice 24 1 #[(0, Go.Operand.tmp 28)], type := 24, pos := "law.go:109", after := #[{ on := 6, ground := Go.Ground.data }], guard := none }) rfl (fun K hK => ?_) AllReadyH.nil)
            · go_simp
              have hb := alloc_below v4 (.cells #[.string ⟨zs.toArray⟩] 9)
              have hO := heap_alloc_new v4 (.cells #[.string ⟨zs.toArray⟩] 9)
              obtain ⟨go, hgo⟩ : ∃ g, g = v4.heap.size := ⟨_, rfl⟩
              rw [← hgo] at hO ⊢
              generalize v4.alloc (.cells #[.string ⟨zs.toArray⟩] 9) = v5 at *
              have O5 := Lib.hid hO
              have lo : go < v5.heap.size := blk_lt hO
              have B5 := Lib.hid (below_then B4.out hb)
              have V5 := Lib.hid (own_below V4.out hb)
              clear hb hO hgo
              refine hK.out _ _ ?_ (fun hHeld => ?_)
              · exact keep_cell B5.out HX5.out
              clear hK K
              (try simp only [Act.put, List.setIfInBounds_toArray, List.set_cons_zero, List.set_cons_succ])
              refine wpAnyH_ready (rs := [8]) (by kernel_rfl) (by simp) (AllReadyH.cons (o := { dst := some 30, op := Go.Op.call { callee := Go.Callee.builtin Go.Builtin.append, args := #[Go.Operand.tmp 25, Go.Operand.tmp 29], argTypes := #[24, 24] }, type := 24, pos := "law.go:109", after := #[{ on := 3, ground := Go.Ground.data }, { on := 7, ground := Go.Ground.data }, { on := 3, ground := Go.Ground.chain }], guard := none }) rfl (fun K hK => ?_) AllReadyH.nil)
              · have RD5 := Lib.hid (one_reads O5.out)
                refine step_append_any _ rfl (.tmp 25) (.tmp 29) 24 rfl w5.heap.size 9 i0 (.string ⟨#[]⟩) 1 16 Try.underlying24 HI.out HI0.out HI1.out HI2.out rfl (by decide) (.slice rb n rc) (n) (strs rows) (by rfl) V5.out (.slice (some ⟨go, 0, none⟩) 1 1) (1) (strs [zs]) (by rfl) RD5.out (strs_oneCell _) (by unfold maxLen; omega) (by omega) B5.out.size ?_
                intro vx v6 hown hgrow
                have B6 := Lib.hid (B5.out.grown hgrow B5.out.size (fun k hk => by have := (V5.out.lt k hk).1; omega))
                rw [← strs_append] at hown
                obtain ⟨rb2, rc2, hvx, _, _, _⟩ := own_form hown
                subst hvx
                have V6 := Lib.hid hown
                clear hown hgrow RD5
                refine hK.out _ _ ?_ (fun hHeld => ?_)
                · exact keep_cell B6.out HX5.out
                clear hK K
                (try simp only [Act.put, List.setIfInBounds_toArray, List.set_cons_zero, List.set_cons_succ])
                refine wpAnyH_take (i := 9) (oi := { dst := some 31, op := Go.Op.fieldAddr 26 (Go.Operand.tmp 7) 5, type := 0, pos := "law.go:109", after := #[{ on := 0, ground := Go.Ground.phase }, { on := 1, ground := Go.Ground.phase }, { on := 2, ground := Go.Ground.phase }, { on := 3, ground := Go.Ground.phase }, { on := 4, ground := Go.Ground.phase }, { on := 5, ground := Go.Ground.phase }, { on := 6, ground := Go.Ground.phase }, { on := 7, ground := Go.Ground.phase }, { on := 8, ground := Go.Ground.phase }], guard := none }) (v := ?_) rfl (by kernel_rfl) (by kernel_rfl) (by kernel_rfl) (fun _ _ _ h => h) (Or.inl ⟨by rfl, ?_⟩) hHeld ?_
                rotate_left
                · (intro w hSw; go_simp <;> with_reducible rfl)
                simp only [Act.put, List.setIfInBounds_toArray, List.set_cons_zero, List.set_cons_succ]
                refine wpAnyH_ready (rs := [10]) (by kernel_rfl) (by simp) (AllReadyH.cons (o := { dst := none, op := Go.Op.store 24 (Go.Operand.tmp 31) (Go.Operand.tmp 30), type := 0, pos := "law.go:109", after := #[{ on := 9, ground := Go.Ground.data }, { on := 8, ground := Go.Ground.data }, { on := 8, ground := Go.Ground.chain }, { on := 0, ground := Go.Ground.phase }, { on := 1, ground := Go.Ground.phase }, { on := 2, ground := Go.Ground.phase }, { on := 3, ground := Go.Ground.phase }, { on := 4, ground := Go.Ground.phase }, { on := 5, ground := Go.Ground.phase }, { on := 6, ground := Go.Ground.phase }, { on := 7, ground := Go.Ground.phase }, { on := 8, ground := Go.Ground.phase }], guard := none }) rfl (fun K hK => ?_) AllReadyH.nil)
                · obtain ⟨z0, z1, z2, z3, z4, z5, z6⟩ := (H7.out.below B6.out).cells
                  have zf := (H7.out.below B6.out).frozen 5
                  go_simp
                  have PF7 := Lib.hid ((H7.out.below B6.out).set5 (.slice rb2 (n + 1) rc2))
                  have KF7 := Lib.hid (one_kept v6 g7 5 (.slice rb2 (n + 1) rc2))
                  have TF7 := Lib.hid ((texts_own V6.out).1.off_pg (H7.out.below B6.out) (fun x e => by cases e) KF7.out)
                  generalize v6.setCell ⟨g7, 5, none⟩ (.slice rb2 (n + 1) rc2) = v7 at *
                  have B7 := Lib.hid (OthersKept.below (below_then BW5.out B6.out) KF7.out (fun k hk e => by omega))
                  clear z0 z1 z2 z3 z4 z5 z6 zf
                  refine hK.out _ _ ?_ (fun hHeld => ?_)
                  · exact KF7.out.cell (keep_cell B6.out HX5.out) (fun e => absurd (show w.heap.size = g7 from e) (by omega))
                  clear hK K
                  (try simp only [Act.put, List.setIfInBounds_toArray, List.set_cons_zero, List.set_cons_succ])
                  refine wpAnyH_done (by kernel_rfl) ?_ _
                  go_wp2_with fail
                  go_meet
                  exact ⟨rb2, rc2, rfl, PF7, TF7, B7⟩
        · go_simp
          refine upon_str Z2.out HZL.out 70 5 9 Try.underlying70 Try.underlying5 Try.underlying9 ?_
          rw [sumBytes]
          generalize hv3 : v2 = v3 at *
          have B3 := B2
          have E3 := E2
          clear Z2 hv3
          refine hK.out _ _ ?_ (fun hHeld => ?_)
          · exact keep_cell B3.out HX5.out
          clear hK K
          (try simp only [Act.put, List.setIfInBounds_toArray, List.set_cons_zero, List.set_cons_succ])
          refine wpAnyH_ready (rs := [3, 7]) (by kernel_rfl) (by simp) (AllReadyH.cons (o := { dst := some 25, op := Go.Op.call { callee := Go.Callee.builtin Go.Builtin.append, args := #[Go.Operand.tmp 22, Go.Operand.tmp 24], argTypes := #[24, 24] }, type := 24, pos := "law.go:109", after := #[{ on := 0, ground := Go.Ground.data }, { on := 2, ground := Go.Ground.data }], guard := none }) rfl (fun K hK => ?_) (AllReadyH.cons (o := { dst := some 29, op := Go.Op.buildSlice 24 1 #[(0, Go.Operand.tmp 28)], type := 24, pos := "law.go:109", after := #[{ on := 6, ground := Go.Ground.data }], guard := none }) rfl (fun K hK => ?_) AllReadyH.nil))
          · have TA3 := Lib.hid (HT5.out.below B3.out).reads
            rw [← HN.out] at TA3
            refine step_append_any _ rfl (.tmp 22) (.tmp 24) 24 rfl w5.heap.size 9 i0 (.string ⟨#[]⟩) 1 16 Try.underlying24 HI.out HI0.out HI1.out HI2.out rfl (by decide) (.slice (some ⟨ge, 0, none⟩) 0 0) (0) ([]) (by rfl) E3.out (.slice A n cp) (n) (strs rows) (by rfl) TA3.out (strs_oneCell _) (by unfold maxLen; omega) (by omega) B3.out.size ?_
            intro vx v4 hown hgrow
            have B4 := Lib.hid (B3.out.grown hgrow B3.out.size (fun k hk => by have := (E3.out.lt k hk).1; omega))
            simp only [Nat.zero_add, List.nil_append] at hown
            obtain ⟨rb, rc, hvx, hrn, hrc, _⟩ := own_form hown
            subst hvx
            have V4 := Lib.hid hown
            clear hown hgrow TA3
            refine hK.out _ _ ?_ (fun hHeld => ?_)
            · exact keep_cell B4.out HX5.out
            clear hK K
            (try simp only [Act.put, List.setIfInBounds_toArray, List.set_cons_zero, List.set_cons_succ])
            refine wpAnyH_ready (rs := [7]) (by kernel_rfl) (by simp) (AllReadyH.cons (o := { dst := some 29, op := Go.Op.buildSlice 24 1 #[(0, Go.Operand.tmp 28)], type := 24, pos := "law.go:109", after := #[{ on := 6, ground := Go.Ground.data }], guard := none }) rfl (fun K hK => ?_) AllReadyH.nil)
            · go_simp
              have hb := alloc_below v4 (.cells #[.string ⟨zs.toArray⟩] 9)
              have hO := heap_alloc_new v4 (.cells #[.string ⟨zs.toArray⟩] 9)
              obtain ⟨go, hgo⟩ : ∃ g, g = v4.heap.size := ⟨_, rfl⟩
              rw [← hgo] at hO ⊢
              generalize v4.alloc (.cells #[.string ⟨zs.toArray⟩] 9) = v5 at *
              have O5 := Lib.hid hO
              have lo : go < v5.heap.size := blk_lt hO
              have B5 := Lib.hid (below_then B4.out hb)
              have V5 := Lib.hid (own_below V4.out hb)
              clear hb hO hgo
              refine hK.out _ _ ?_ (fun hHeld => ?_)
              · exact keep_cell B5.out HX5.out
              clear hK K
              (try simp only [Act.put, List.setIfInBounds_toArray, List.set_cons_zero, List.set_cons_succ])
              refine wpAnyH_ready (rs := [8]) (by kernel_rfl) (by simp) (AllReadyH.cons (o := { dst := some 30, op := Go.Op.call { callee := Go.Callee.builtin Go.Builtin.append, args := #[Go.Operand.tmp 25, Go.Operand.tmp 29], argTypes := #[24, 24] }, type := 24, pos := "law.go:109", after := #[{ on := 3, ground := Go.Ground.data }, { on := 7, ground := Go.Ground.data }, { on := 3, ground := Go.Ground.chain }], guard := none }) rfl (fun K hK => ?_) AllReadyH.nil)
              · have RD5 := Lib.hid (one_reads O5.out)
                refine step_append_any _ rfl (.tmp 25) (.tmp 29) 24 rfl w5.heap.size 9 i0 (.string ⟨#[]⟩) 1 16 Try.underlying24 HI.out HI0.out HI1.out HI2.out rfl (by decide) (.slice rb n rc) (n) (strs rows) (by rfl) V5.out (.slice (some ⟨go, 0, none⟩) 1 1) (1) (strs [zs]) (by rfl) RD5.out (strs_oneCell _) (by unfold maxLen; omega) (by omega) B5.out.size ?_
                intro vx v6 hown hgrow
                have B6 := Lib.hid (B5.out.grown hgrow B5.out.size (fun k hk => by have := (V5.out.lt k hk).1; omega))
                rw [← strs_append] at hown
                obtain ⟨rb2, rc2, hvx, _, _, _⟩ := own_form hown
                subst hvx
                have V6 := Lib.hid hown
                clear hown hgrow RD5
                refine hK.out _ _ ?_ (fun hHeld => ?_)
                · exact keep_cell B6.out HX5.out
                clear hK K
                (try simp only [Act.put, List.setIfInBounds_toArray, List.set_cons_zero, List.set_cons_succ])
                refine wpAnyH_take (i := 9) (oi := { dst := some 31, op := Go.Op.fieldAddr 26 (Go.Operand.tmp 7) 5, type := 0, pos := "law.go:109", after := #[{ on := 0, ground := Go.Ground.phase }, { on := 1, ground := Go.Ground.phase }, { on := 2, ground := Go.Ground.phase }, { on := 3, ground := Go.Ground.phase }, { on := 4, ground := Go.Ground.phase }, { on := 5, ground := Go.Ground.phase }, { on := 6, ground := Go.Ground.phase }, { on := 7, ground := Go.Ground.phase }, { on := 8, ground := Go.Ground.phase }], guard := none }) (v := ?_) rfl (by kernel_rfl) (by kernel_rfl) (by kernel_rfl) (fun _ _ _ h => h) (Or.inl ⟨by rfl, ?_⟩) hHeld ?_
                rotate_left
                · (intro w hSw; go_simp <;> with_reducible rfl)
                simp only [Act.put, List.setIfInBounds_toArray, List.set_cons_zero, List.set_cons_succ]
                refine wpAnyH_ready (rs := [10]) (by kernel_rfl) (by simp) (AllReadyH.cons (o := { dst := none, op := Go.Op.store 24 (Go.Operand.tmp 31) (Go.Operand.tmp 30), type := 0, pos := "law.go:109", after := #[{ on := 9, ground := Go.Ground.data }, { on := 8, ground := Go.Ground.data }, { on := 8, ground := Go.Ground.chain }, { on := 0, ground := Go.Ground.phase }, { on := 1, ground := Go.Ground.phase }, { on := 2, ground := Go.Ground.phase }, { on := 3, ground := Go.Ground.phase }, { on := 4, ground := Go.Ground.phase }, { on := 5, ground := Go.Ground.phase }, { on := 6, ground := Go.Ground.phase }, { on := 7, ground := Go.Ground.phase }, { on := 8, ground := Go.Ground.phase }], guard := none }) rfl (fun K hK => ?_) AllReadyH.nil)
                · obtain ⟨z0, z1, z2, z3, z4, z5, z6⟩ := (H7.out.below B6.out).cells
                  have zf := (H7.out.below B6.out).frozen 5
                  go_simp
                  have PF7 := Lib.hid ((H7.out.below B6.out).set5 (.slice rb2 (n + 1) rc2))
                  have KF7 := Lib.hid (one_kept v6 g7 5 (.slice rb2 (n + 1) rc2))
                  have TF7 := Lib.hid ((texts_own V6.out).1.off_pg (H7.out.below B6.out) (fun x e => by cases e) KF7.out)
                  generalize v6.setCell ⟨g7, 5, none⟩ (.slice rb2 (n + 1) rc2) = v7 at *
                  have B7 := Lib.hid (OthersKept.below (below_then BW5.out B6.out) KF7.out (fun k hk e => by omega))
                  clear z0 z1 z2 z3 z4 z5 z6 zf
                  refine hK.out _ _ ?_ (fun hHeld => ?_)
                  · exact KF7.out.cell (keep_cell B6.out HX5.out) (fun e => absurd (show w.heap.size = g7 from e) (by omega))
                  clear hK K
                  (try simp only [Act.put, List.setIfInBounds_toArray, List.set_cons_zero, List.set_cons_succ])
                  refine wpAnyH_done (by kernel_rfl) ?_ _
                  go_wp2_with fail
                  go_meet
                  exact ⟨rb2, rc2, rfl, PF7, TF7, B7⟩
          · go_simp
            have hb := alloc_below v3 (.cells #[.string ⟨zs.toArray⟩] 9)
            have hO := heap_alloc_new v3 (.cells #[.string ⟨zs.toArray⟩] 9)
            obtain ⟨go, hgo⟩ : ∃ g, g = v3.heap.size := ⟨_, rfl⟩
            rw [← hgo] at hO ⊢
            generalize v3.alloc (.cells #[.string ⟨zs.toArray⟩] 9) = v4 at *
            have O4 := Lib.hid hO
            have lo : go < v4.heap.size := blk_lt hO
            have do_ : ge < go := by omega
            have B4 := Lib.hid (below_then B3.out hb)
            have E4 := Lib.hid (own_below E3.out hb)
            have le : ge < v4.heap.size := Nat.lt_of_lt_of_le le hb.size
            clear hb hO hgo
            refine hK.out _ _ ?_ (fun hHeld => ?_)
            · exact keep_cell B4.out HX5.out
            clear hK K
            (try simp only [Act.put, List.setIfInBounds_toArray, List.set_cons_zero, List.set_cons_succ])
            refine wpAnyH_ready (rs := [3]) (by kernel_rfl) (by simp) (AllReadyH.cons (o := { dst := some 25, op := Go.Op.call { callee := Go.Callee.builtin Go.Builtin.append, args := #[Go.Operand.tmp 22, Go.Operand.tmp 24], argTypes := #[24, 24] }, type := 24, pos := "law.go:109", after := #[{ on := 0, ground := Go.Ground.data }, { on := 2, ground := Go.Ground.data }], guard := none }) rfl (fun K hK => ?_) AllReadyH.nil)
            · have TA4 := Lib.hid (HT5.out.below B4.out).reads
              rw [← HN.out] at TA4
              refine step_append_any _ rfl (.tmp 22) (.tmp 24) 24 rfl w5.heap.size 9 i0 (.string ⟨#[]⟩) 1 16 Try.underlying24 HI.out HI0.out HI1.out HI2.out rfl (by decide) (.slice (some ⟨ge, 0, none⟩) 0 0) (0) ([]) (by rfl) E4.out (.slice A n cp) (n) (strs rows) (by rfl) TA4.out (strs_oneCell _) (by unfold maxLen; omega) (by omega) B4.out.size ?_
              intro vx v5 hown hgrow
              have B5 := Lib.hid (B4.out.grown hgrow B4.out.size (fun k hk => by have := (E4.out.lt k hk).1; omega))
              simp only [Nat.zero_add, List.nil_append] at hown
              obtain ⟨rb, rc, hvx, hrn, hrc, _⟩ := own_form hown
              subst hvx
              have V5 := Lib.hid hown
              have O5 := Lib.hid ((hgrow.block go (blk_lt O4.out) (by simp [Value.ownBlock]; omega)).trans O4.out)
              have lo : go < v5.heap.size := blk_lt O5.out
              clear hown hgrow TA4
              refine hK.out _ _ ?_ (fun hHeld => ?_)
              · exact keep_cell B5.out HX5.out
              clear hK K
              (try simp only [Act.put, List.setIfInBounds_toArray, List.set_cons_zero, List.set_cons_succ])
              refine wpAnyH_ready (rs := [8]) (by kernel_rfl) (by simp) (AllReadyH.cons (o := { dst := some 30, op := Go.Op.call { callee := Go.Callee.builtin Go.Builtin.append, args := #[Go.Operand.tmp 25, Go.Operand.tmp 29], argTypes := #[24, 24] }, type := 24, pos := "law.go:109", after := #[{ on := 3, ground := Go.Ground.data }, { on := 7, ground := Go.Ground.data }, { on := 3, ground := Go.Ground.chain }], guard := none }) rfl (fun K hK => ?_) AllReadyH.nil)
              · have RD5 := Lib.hid (one_reads O5.out)
                refine step_append_any _ rfl (.tmp 25) (.tmp 29) 24 rfl w5.heap.size 9 i0 (.string ⟨#[]⟩) 1 16 Try.underlying24 HI.out HI0.out HI1.out HI2.out rfl (by decide) (.slice rb n rc) (n) (strs rows) (by rfl) V5.out (.slice (some ⟨go, 0, none⟩) 1 1) (1) (strs [zs]) (by rfl) RD5.out (strs_oneCell _) (by unfold maxLen; omega) (by omega) B5.out.size ?_
                intro vx v6 hown hgrow
                have B6 := Lib.hid (B5.out.grown hgrow B5.out.size (fun k hk => by have := (V5.out.lt k hk).1; omega))
                rw [← strs_append] at hown
                obtain ⟨rb2, rc2, hvx, _, _, _⟩ := own_form hown
                subst hvx
                have V6 := Lib.hid hown
                clear hown hgrow RD5
                refine hK.out _ _ ?_ (fun hHeld => ?_)
                · exact keep_cell B6.out HX5.out
                clear hK K
                (try simp only [Act.put, List.setIfInBounds_toArray, List.set_cons_zero, List.set_cons_succ])
                refine wpAnyH_take (i := 9) (oi := { dst := some 31, op := Go.Op.fieldAddr 26 (Go.Operand.tmp 7) 5, type := 0, pos := "law.go:109", after := #[{ on := 0, ground := Go.Ground.phase }, { on := 1, ground := Go.Ground.phase }, { on := 2, ground := Go.Ground.phase }, { on := 3, ground := Go.Ground.phase }, { on := 4, ground := Go.Ground.phase }, { on := 5, ground := Go.Ground.phase }, { on := 6, ground := Go.Ground.phase }, { on := 7, ground := Go.Ground.phase }, { on := 8, ground := Go.Ground.phase }], guard := none }) (v := ?_) rfl (by kernel_rfl) (by kernel_rfl) (by kernel_rfl) (fun _ _ _ h => h) (Or.inl ⟨by rfl, ?_⟩) hHeld ?_
                rotate_left
                · (intro w hSw; go_simp <;> with_reducible rfl)
                simp only [Act.put, List.setIfInBounds_toArray, List.set_cons_zero, List.set_cons_succ]
                refine wpAnyH_ready (rs := [10]) (by kernel_rfl) (by simp) (AllReadyH.cons (o := { dst := none, op := Go.Op.store 24 (Go.Operand.tmp 31) (Go.Operand.tmp 30), type := 0, pos := "law.go:109", after := #[{ on := 9, ground := Go.Ground.data }, { on := 8, ground := Go.Ground.data }, { on := 8, ground := Go.Ground.chain }, { on := 0, ground := Go.Ground.phase }, { on := 1, ground := Go.Ground.phase }, { on := 2, ground := Go.Ground.phase }, { on := 3, ground := Go.Ground.phase }, { on := 4, ground := Go.Ground.phase }, { on := 5, ground := Go.Ground.phase }, { on := 6, ground := Go.Ground.phase }, { on := 7, ground := Go.Ground.phase }, { on := 8, ground := Go.Ground.phase }], guard := none }) rfl (fun K hK => ?_) AllReadyH.nil)
                · obtain ⟨z0, z1, z2, z3, z4, z5, z6⟩ := (H7.out.below B6.out).cells
                  have zf := (H7.out.below B6.out).frozen 5
                  go_simp
                  have PF7 := Lib.hid ((H7.out.below B6.out).set5 (.slice rb2 (n + 1) rc2))
                  have KF7 := Lib.hid (one_kept v6 g7 5 (.slice rb2 (n + 1) rc2))
                  have TF7 := Lib.hid ((texts_own V6.out).1.off_pg (H7.out.below B6.out) (fun x e => by cases e) KF7.out)
                  generalize v6.setCell ⟨g7, 5, none⟩ (.slice rb2 (n + 1) rc2) = v7 at *
                  have B7 := Lib.hid (OthersKept.below (below_then BW5.out B6.out) KF7.out (fun k hk e => by omega))
                  clear z0 z1 z2 z3 z4 z5 z6 zf
                  refine hK.out _ _ ?_ (fun hHeld => ?_)
                  · exact KF7.out.cell (keep_cell B6.out HX5.out) (fun e => absurd (show w.heap.size = g7 from e) (by omega))
                  clear hK K
                  (try simp only [Act.put, List.setIfInBounds_toArray, List.set_cons_zero, List.set_cons_succ])
                  refine wpAnyH_done (by kernel_rfl) ?_ _
                  go_wp2_with fail
                  go_meet
                  exact ⟨rb2, rc2, rfl, PF7, TF7, B7⟩
      · go_simp
        refine upon_str Z1.out HZL.out 70 5 9 Try.underlying70 Try.underlying5 Try.underlying9 ?_
        rw [sumBytes]
        generalize hv2 : v1 = v2 at *
        have B2 := B1
        clear Z1 hv2
        refine hK.out _ _ ?_ (fun hHeld => ?_)
        · exact keep_cell B2.out HX5.out
        clear hK K
        (try simp only [Act.put, List.setIfInBounds_toArray, List.set_cons_zero, List.set_cons_succ])
        refine wpAnyH_ready (rs := [0, 7]) (by kernel_rfl) (by simp) (AllReadyH.cons (o := { dst := some 22, op := Go.Op.buildSlice 24 0 #[], type := 24, pos := "law.go:109", after := #[], guard := none }) rfl (fun K hK => ?_) (AllReadyH.cons (o := { dst := some 29, op := Go.Op.buildSlice 24 1 #[(0, Go.Operand.tmp 28)], type := 24, pos := "law.go:109", after := #[{ on := 6, ground := Go.Ground.data }], guard := none }) rfl (fun K hK => ?_) AllReadyH.nil))
        · go_simp
          have hb := alloc_below v2 (.cells #[] 9)
          have hn := World.size_alloc v2 (.cells #[] 9)
          have hE : (v2.alloc (.cells #[] 9)).ownsRow w5.heap.size 9 1 (.slice (some ⟨v2.heap.size, 0, none⟩) 0 0) 0 [] := World.ownsRow_made v2 #[] 0 B2.out.size (by unfold maxLen; omega) rfl
          obtain ⟨ge, hge⟩ : ∃ g, g = v2.heap.size := ⟨_, rfl⟩
          rw [← hge] at hE hn ⊢
          generalize v2.alloc (.cells #[] 9) = v3 at *
          have le : ge < v3.heap.size := by omega
          have E3 := Lib.hid hE
          have B3 := Lib.hid (below_then B2.out hb)
          clear hb hn hE hge
          refine hK.out _ _ ?_ (fun hHeld => ?_)
          · exact keep_cell B3.out HX5.out
          clear hK K
          (try simp only [Act.put, List.setIfInBounds_toArray, List.set_cons_zero, List.set_cons_succ])
          refine wpAnyH_ready (rs := [3, 7]) (by kernel_rfl) (by simp) (AllReadyH.cons (o := { dst := some 25, op := Go.Op.call { callee := Go.Callee.builtin Go.Builtin.append, args := #[Go.Operand.tmp 22, Go.Operand.tmp 24], argTypes := #[24, 24] }, type := 24, pos := "law.go:109", after := #[{ on := 0, ground := Go.Ground.data }, { on := 2, ground := Go.Ground.data }], guard := none }) rfl (fun K hK => ?_) (AllReadyH.cons (o := { dst := some 29, op := Go.Op.buildSlice 24 1 #[(0, Go.Operand.tmp 28)], type := 24, pos := "law.go:109", after := #[{ on := 6, ground := Go.Ground.data }], guard := none }) rfl (fun K hK => ?_) AllReadyH.nil))
          · have TA3 := Lib.hid (HT5.out.below B3.out).reads
            rw [← HN.out] at TA3
            refine step_append_any _ rfl (.tmp 22) (.tmp 24) 24 rfl w5.heap.size 9 i0 (.string ⟨#[]⟩) 1 16 Try.underlying24 HI.out HI0.out HI1.out HI2.out rfl (by decide) (.slice (some ⟨ge, 0, none⟩) 0 0) (0) ([]) (by rfl) E3.out (.slice A n cp) (n) (strs rows) (by rfl) TA3.out (strs_oneCell _) (by unfold maxLen; omega) (by omega) B3.out.size ?_
            intro vx v4 hown hgrow
            have B4 := Lib.hid (B3.out.grown hgrow B3.out.size (fun k hk => by have := (E3.out.lt k hk).1; omega))
            simp only [Nat.zero_add, List.nil_append] at hown
            obtain ⟨rb, rc, hvx, hrn, hrc, _⟩ := own_form hown
            subst hvx
            have V4 := Lib.hid hown
            clear hown hgrow TA3
            refine hK.out _ _ ?_ (fun hHeld => ?_)
            · exact keep_cell B4.out HX5.out
            clear hK K
            (try simp only [Act.put, List.setIfInBounds_toArray, List.set_cons_zero, List.set_cons_succ])
            refine wpAnyH_ready (rs := [7]) (by kernel_rfl) (by simp) (AllReadyH.cons (o := { dst := some 29, op := Go.Op.buildSlice 24 1 #[(0, Go.Operand.tmp 28)], type := 24, pos := "law.go:109", after := #[{ on := 6, ground := Go.Ground.data }], guard := none }) rfl (fun K hK => ?_) AllReadyH.nil)
            · go_simp
              have hb := alloc_below v4 (.cells #[.string ⟨zs.toArray⟩] 9)
              have hO := heap_alloc_new v4 (.cells #[.string ⟨zs.toArray⟩] 9)
              obtain ⟨go, hgo⟩ : ∃ g, g = v4.heap.size := ⟨_, rfl⟩
              rw [← hgo] at hO ⊢
              generalize v4.alloc (.cells #[.string ⟨zs.toArray⟩] 9) = v5 at *
              have O5 := Lib.hid hO
              have lo : go < v5.heap.size := blk_lt hO
              have B5 := Lib.hid (below_then B4.out hb)
              have V5 := Lib.hid (own_below V4.out hb)
              clear hb hO hgo
              refine hK.out _ _ ?_ (fun hHeld => ?_)
              · exact keep_cell B5.out HX5.out
              clear hK K
              (try simp only [Act.put, List.setIfInBounds_toArray, List.set_cons_zero, List.set_cons_succ])
              refine wpAnyH_ready (rs := [8]) (by kernel_rfl) (by simp) (AllReadyH.cons (o := { dst := some 30, op := Go.Op.call { callee := Go.Callee.builtin Go.Builtin.append, args := #[Go.Operand.tmp 25, Go.Operand.tmp 29], argTypes := #[24, 24] }, type := 24, pos := "law.go:109", after := #[{ on := 3, ground := Go.Ground.data }, { on := 7, ground := Go.Ground.data }, { on := 3, ground := Go.Ground.chain }], guard := none }) rfl (fun K hK => ?_) AllReadyH.nil)
              · have RD5 := Lib.hid (one_reads O5.out)
                refine step_append_any _ rfl (.tmp 25) (.tmp 29) 24 rfl w5.heap.size 9 i0 (.string ⟨#[]⟩) 1 16 Try.underlying24 HI.out HI0.out HI1.out HI2.out rfl (by decide) (.slice rb n rc) (n) (strs rows) (by rfl) V5.out (.slice (some ⟨go, 0, none⟩) 1 1) (1) (strs [zs]) (by rfl) RD5.out (strs_oneCell _) (by unfold maxLen; omega) (by omega) B5.out.size ?_
                intro vx v6 hown hgrow
                have B6 := Lib.hid (B5.out.grown hgrow B5.out.size (fun k hk => by have := (V5.out.lt k hk).1; omega))
                rw [← strs_append] at hown
                obtain ⟨rb2, rc2, hvx, _, _, _⟩ := own_form hown
                subst hvx
                have V6 := Lib.hid hown
                clear hown hgrow RD5
                refine hK.out _ _ ?_ (fun hHeld => ?_)
                · exact keep_cell B6.out HX5.out
                clear hK K
                (try simp only [Act.put, List.setIfInBounds_toArray, List.set_cons_zero, List.set_cons_succ])
                refine wpAnyH_take (i := 9) (oi := { dst := some 31, op := Go.Op.fieldAddr 26 (Go.Operand.tmp 7) 5, type := 0, pos := "law.go:109", after := #[{ on := 0, ground := Go.Ground.phase }, { on := 1, ground := Go.Ground.phase }, { on := 2, ground := Go.Ground.phase }, { on := 3, ground := Go.Ground.phase }, { on := 4, ground := Go.Ground.phase }, { on := 5, ground := Go.Ground.phase }, { on := 6, ground := Go.Ground.phase }, { on := 7, ground := Go.Ground.phase }, { on := 8, ground := Go.Ground.phase }], guard := none }) (v := ?_) rfl (by kernel_rfl) (by kernel_rfl) (by kernel_rfl) (fun _ _ _ h => h) (Or.inl ⟨by rfl, ?_⟩) hHeld ?_
                rotate_left
                · (intro w hSw; go_simp <;> with_reducible rfl)
                simp only [Act.put, List.setIfInBounds_toArray, List.set_cons_zero, List.set_cons_succ]
                refine wpAnyH_ready (rs := [10]) (by kernel_rfl) (by simp) (AllReadyH.cons (o := { dst := none, op := Go.Op.store 24 (Go.Operand.tmp 31) (Go.Operand.tmp 30), type := 0, pos := "law.go:109", after := #[{ on := 9, ground := Go.Ground.data }, { on := 8, ground := Go.Ground.data }, { on := 8, ground := Go.Ground.chain }, { on := 0, ground := Go.Ground.phase }, { on := 1, ground := Go.Ground.phase }, { on := 2, ground := Go.Ground.phase }, { on := 3, ground := Go.Ground.phase }, { on := 4, ground := Go.Ground.phase }, { on := 5, ground := Go.Ground.phase }, { on := 6, ground := Go.Ground.phase }, { on := 7, ground := Go.Ground.phase }, { on := 8, ground := Go.Ground.phase }], guard := none }) rfl (fun K hK => ?_) AllReadyH.nil)
                · obtain ⟨z0, z1, z2, z3, z4, z5, z6⟩ := (H7.out.below B6.out).cells
                  have zf := (H7.out.below B6.out).frozen 5
                  go_simp
                  have PF7 := Lib.hid ((H7.out.below B6.out).set5 (.slice rb2 (n + 1) rc2))
                  have KF7 := Lib.hid (one_kept v6 g7 5 (.slice rb2 (n + 1) rc2))
                  have TF7 := Lib.hid ((texts_own V6.out).1.off_pg (H7.out.below B6.out) (fun x e => by cases e) KF7.out)
                  generalize v6.setCell ⟨g7, 5, none⟩ (.slice rb2 (n + 1) rc2) = v7 at *
                  have B7 := Lib.hid (OthersKept.below (below_then BW5.out B6.out) KF7.out (fun k hk e => by omega))
                  clear z0 z1 z2 z3 z4 z5 z6 zf
                  refine hK.out _ _ ?_ (fun hHeld => ?_)
                  · exact KF7.out.cell (keep_cell B6.out HX5.out) (fun e => absurd (show w.heap.size = g7 from e) (by omega))
                  clear hK K
                  (try simp only [Act.put, List.setIfInBounds_toArray, List.set_cons_zero, List.set_cons_succ])
                  refine wpAnyH_done (by kernel_rfl) ?_ _
                  go_wp2_with fail
                  go_meet
                  exact ⟨rb2, rc2, rfl, PF7, TF7, B7⟩
          · go_simp
            have hb := alloc_below v3 (.cells #[.string ⟨zs.toArray⟩] 9)
            have hO := heap_alloc_new v3 (.cells #[.string ⟨zs.toArray⟩] 9)
            obtain ⟨go, hgo⟩ : ∃ g, g = v3.heap.size := ⟨_, rfl⟩
            rw [← hgo] at hO ⊢
            generalize v3.alloc (.cells #[.string ⟨zs.toArray⟩] 9) = v4 at *
            have O4 := Lib.hid hO
            have lo : go < v4.heap.size := blk_lt hO
            have do_ : ge < go := by omega
            have B4 := Lib.hid (below_then B3.out hb)
            have E4 := Lib.hid (own_below E3.out hb)
            have le : ge < v4.heap.size := Nat.lt_of_lt_of_le le hb.size
            clear hb hO hgo
            refine hK.out _ _ ?_ (fun hHeld => ?_)
            · exact keep_cell B4.out HX5.out
            clear hK K
            (try simp only [Act.put, List.setIfInBounds_toArray, List.set_cons_zero, List.set_cons_succ])
            refine wpAnyH_ready (rs := [3]) (by kernel_rfl) (by simp) (AllReadyH.cons (o := { dst := some 25, op := Go.Op.call { callee := Go.Callee.builtin Go.Builtin.append, args := #[Go.Operand.tmp 22, Go.Operand.tmp 24], argTypes := #[24, 24] }, type := 24, pos := "law.go:109", after := #[{ on := 0, ground := Go.Ground.data }, { on := 2, ground := Go.Ground.data }], guard := none }) rfl (fun K hK => ?_) AllReadyH.nil)
            · have TA4 := Lib.hid (HT5.out.below B4.out).reads
              rw [← HN.out] at TA4
              refine step_append_any _ rfl (.tmp 22) (.tmp 24) 24 rfl w5.heap.size 9 i0 (.string ⟨#[]⟩) 1 16 Try.underlying24 HI.out HI0.out HI1.out HI2.out rfl (by decide) (.slice (some ⟨ge, 0, none⟩) 0 0) (0) ([]) (by rfl) E4.out (.slice A n cp) (n) (strs rows) (by rfl) TA4.out (strs_oneCell _) (by unfold maxLen; omega) (by omega) B4.out.size ?_
              intro vx v5 hown hgrow
              have B5 := Lib.hid (B4.out.grown hgrow B4.out.size (fun k hk => by have := (E4.out.lt k hk).1; omega))
              simp only [Nat.zero_add, List.nil_append] at hown
              obtain ⟨rb, rc, hvx, hrn, hrc, _⟩ := own_form hown
              subst hvx
              have V5 := Lib.hid hown
              have O5 := Lib.hid ((hgrow.block go (blk_lt O4.out) (by simp [Value.ownBlock]; omega)).trans O4.out)
              have lo : go < v5.heap.size := blk_lt O5.out
              clear hown hgrow TA4
              refine hK.out _ _ ?_ (fun hHeld => ?_)
              · exact keep_cell B5.out HX5.out
              clear hK K
              (try simp only [Act.put, List.setIfInBounds_toArray, List.set_cons_zero, List.set_cons_succ])
              refine wpAnyH_ready (rs := [8]) (by kernel_rfl) (by simp) (AllReadyH.cons (o := { dst := some 30, op := Go.Op.call { callee := Go.Callee.builtin Go.Builtin.append, args := #[Go.Operand.tmp 25, Go.Operand.tmp 29], argTypes := #[24, 24] }, type := 24, pos := "law.go:109", after := #[{ on := 3, ground := Go.Ground.data }, { on := 7, ground := Go.Ground.data }, { on := 3, ground := Go.Ground.chain }], guard := none }) rfl (fun K hK => ?_) AllReadyH.nil)
              · have RD5 := Lib.hid (one_reads O5.out)
                refine step_append_any _ rfl (.tmp 25) (.tmp 29) 24 rfl w5.heap.size 9 i0 (.string ⟨#[]⟩) 1 16 Try.underlying24 HI.out HI0.out HI1.out HI2.out rfl (by decide) (.slice rb n rc) (n) (strs rows) (by rfl) V5.out (.slice (some ⟨go, 0, none⟩) 1 1) (1) (strs [zs]) (by rfl) RD5.out (strs_oneCell _) (by unfold maxLen; omega) (by omega) B5.out.size ?_
                intro vx v6 hown hgrow
                have B6 := Lib.hid (B5.out.grown hgrow B5.out.size (fun k hk => by have := (V5.out.lt k hk).1; omega))
                rw [← strs_append] at hown
                obtain ⟨rb2, rc2, hvx, _, _, _⟩ := own_form hown
                subst hvx
                have V6 := Lib.hid hown
                clear hown hgrow RD5
                refine hK.out _ _ ?_ (fun hHeld => ?_)
                · exact keep_cell B6.out HX5.out
                clear hK K
                (try simp only [Act.put, List.setIfInBounds_toArray, List.set_cons_zero, List.set_cons_succ])
                refine wpAnyH_take (i := 9) (oi := { dst := some 31, op := Go.Op.fieldAddr 26 (Go.Operand.tmp 7) 5, type := 0, pos := "law.go:109", after := #[{ on := 0, ground := Go.Ground.phase }, { on := 1, ground := Go.Ground.phase }, { on := 2, ground := Go.Ground.phase }, { on := 3, ground := Go.Ground.phase }, { on := 4, ground := Go.Ground.phase }, { on := 5, ground := Go.Ground.phase }, { on := 6, ground := Go.Ground.phase }, { on := 7, ground := Go.Ground.phase }, { on := 8, ground := Go.Ground.phase }], guard := none }) (v := ?_) rfl (by kernel_rfl) (by kernel_rfl) (by kernel_rfl) (fun _ _ _ h => h) (Or.inl ⟨by rfl, ?_⟩) hHeld ?_
                rotate_left
                · (intro w hSw; go_simp <;> with_reducible rfl)
                simp only [Act.put, List.setIfInBounds_toArray, List.set_cons_zero, List.set_cons_succ]
                refine wpAnyH_ready (rs := [10]) (by kernel_rfl) (by simp) (AllReadyH.cons (o := { dst := none, op := Go.Op.store 24 (Go.Operand.tmp 31) (Go.Operand.tmp 30), type := 0, pos := "law.go:109", after := #[{ on := 9, ground := Go.Ground.data }, { on := 8, ground := Go.Ground.data }, { on := 8, ground := Go.Ground.chain }, { on := 0, ground := Go.Ground.phase }, { on := 1, ground := Go.Ground.phase }, { on := 2, ground := Go.Ground.phase }, { on := 3, ground := Go.Ground.phase }, { on := 4, ground := Go.Ground.phase }, { on := 5, ground := Go.Ground.phase }, { on := 6, ground := Go.Ground.phase }, { on := 7, ground := Go.Ground.phase }, { on := 8, ground := Go.Ground.phase }], guard := none }) rfl (fun K hK => ?_) AllReadyH.nil)
                · obtain ⟨z0, z1, z2, z3, z4, z5, z6⟩ := (H7.out.below B6.out).cells
                  have zf := (H7.out.below B6.out).frozen 5
                  go_simp
                  have PF7 := Lib.hid ((H7.out.below B6.out).set5 (.slice rb2 (n + 1) rc2))
                  have KF7 := Lib.hid (one_kept v6 g7 5 (.slice rb2 (n + 1) rc2))
                  have TF7 := Lib.hid ((texts_own V6.out).1.off_pg (H7.out.below B6.out) (fun x e => by cases e) KF7.out)
                  generalize v6.setCell ⟨g7, 5, none⟩ (.slice rb2 (n + 1) rc2) = v7 at *
                  have B7 := Lib.hid (OthersKept.below (below_then BW5.out B6.out) KF7.out (fun k hk e => by omega))
                  clear z0 z1 z2 z3 z4 z5 z6 zf
                  refine hK.out _ _ ?_ (fun hHeld => ?_)
                  · exact KF7.out.cell (keep_cell B6.out HX5.out) (fun e => absurd (show w.heap.size = g7 from e) (by omega))
                  clear hK K
                  (try simp only [Act.put, List.setIfInBounds_toArray, List.set_cons_zero, List.set_cons_succ])
                  refine wpAnyH_done (by kernel_rfl) ?_ _
                  go_wp2_with fail
                  go_meet
                  exact ⟨rb2, rc2, rfl, PF7, TF7, B7⟩
        · go_simp
          have hb := alloc_below v2 (.cells #[.string ⟨zs.toArray⟩] 9)
          have hO := heap_alloc_new v2 (.cells #[.string ⟨zs.toArray⟩] 9)
          obtain ⟨go, hgo⟩ : ∃ g, g = v2.heap.size := ⟨_, rfl⟩
          rw [← hgo] at hO ⊢
          generalize v2.alloc (.cells #[.string ⟨zs.toArray⟩] 9) = v3 at *
          have O3 := Lib.hid hO
          have lo : go < v3.heap.size := blk_lt hO
          have B3 := Lib.hid (below_then B2.out hb)
          clear hb hO hgo
          refine hK.out _ _ ?_ (fun hHeld => ?_)
          · exact keep_cell B3.out HX5.out
          clear hK K
          (try simp only [Act.put, List.setIfInBounds_toArray, List.set_cons_zero, List.set_cons_succ])
          refine wpAnyH_ready (rs := [0]) (by kernel_rfl) (by simp) (AllReadyH.cons (o := { dst := some 22, op := Go.Op.buildSlice 24 0 #[], type := 24, pos := "law.go:109", after := #[], guard := none }) rfl (fun K hK => ?_) AllReadyH.nil)
          · go_simp
            have hb := alloc_below v3 (.cells #[] 9)
            have hn := World.size_alloc v3 (.cells #[] 9)
            have hE : (v3.alloc (.cells #[] 9)).ownsRow w5.heap.size 9 1 (.slice (some ⟨v3.heap.size, 0, none⟩) 0 0) 0 [] := World.ownsRow_made v3 #[] 0 B3.out.size (by unfold maxLen; omega) rfl
            obtain ⟨ge, hge⟩ : ∃ g, g = v3.heap.size := ⟨_, rfl⟩
            rw [← hge] at hE hn ⊢
            generalize v3.alloc (.cells #[] 9) = v4 at *
            have le : ge < v4.heap.size := by omega
            have do_ : go < ge := by omega
            have E4 := Lib.hid hE
            have B4 := Lib.hid (below_then B3.out hb)
            have O4 := Lib.hid ((hb.block go (blk_lt O3.out)).trans O3.out)
            have lo : go < v4.heap.size := blk_lt O4.out
            clear hb hn hE hge
            refine hK.out _ _ ?_ (fun hHeld => ?_)
            · exact keep_cell B4.out HX5.out
            clear hK K
            (try simp only [Act.put, List.setIfInBounds_toArray, List.set_cons_zero, List.set_cons_succ])
            refine wpAnyH_ready (rs := [3]) (by kernel_rfl) (by simp) (AllReadyH.cons (o := { dst := some 25, op := Go.Op.call { callee := Go.Callee.builtin Go.Builtin.append, args := #[Go.Operand.tmp 22, Go.Operand.tmp 24], argTypes := #[24, 24] }, type := 24, pos := "law.go:109", after := #[{ on := 0, ground := Go.Ground.data }, { on := 2, ground := Go.Ground.data }], guard := none }) rfl (fun K hK => ?_) AllReadyH.nil)
            · have TA4 := Lib.hid (HT5.out.below B4.out).reads
              rw [← HN.out] at TA4
              refine step_append_any _ rfl (.tmp 22) (.tmp 24) 24 rfl w5.heap.size 9 i0 (.string ⟨#[]⟩) 1 16 Try.underlying24 HI.out HI0.out HI1.out HI2.out rfl (by decide) (.slice (some ⟨ge, 0, none⟩) 0 0) (0) ([]) (by rfl) E4.out (.slice A n cp) (n) (strs rows) (by rfl) TA4.out (strs_oneCell _) (by unfold maxLen; omega) (by omega) B4.out.size ?_
              intro vx v5 hown hgrow
              have B5 := Lib.hid (B4.out.grown hgrow B4.out.size (fun k hk => by have := (E4.out.lt k hk).1; omega))
              simp only [Nat.zero_add, List.nil_append] at hown
              obtain ⟨rb, rc, hvx, hrn, hrc, _⟩ := own_form hown
              subst hvx
              have V5 := Lib.hid hown
              have O5 := Lib.hid ((hgrow.block go (blk_lt O4.out) (by simp [Value.ownBlock]; omega)).trans O4.out)
              have lo : go < v5.heap.size := blk_lt O5.out
              clear hown hgrow TA4
              refine hK.out _ _ ?_ (fun hHeld => ?_)
              · exact keep_cell B5.out HX5.out
              clear hK K
              (try simp only [Act.put, List.setIfInBounds_toArray, List.set_cons_zero, List.set_cons_succ])
              refine wpAnyH_ready (rs := [8]) (by kernel_rfl) (by simp) (AllReadyH.cons (o := { dst := some 30, op := Go.Op.call { callee := Go.Callee.builtin Go.Builtin.append, args := #[Go.Operand.tmp 25, Go.Operand.tmp 29], argTypes := #[24, 24] }, type := 24, pos := "law.go:109", after := #[{ on := 3, ground := Go.Ground.data }, { on := 7, ground := Go.Ground.data }, { on := 3, ground := Go.Ground.chain }], guard := none }) rfl (fun K hK => ?_) AllReadyH.nil)
              · have RD5 := Lib.hid (one_reads O5.out)
                refine step_append_any _ rfl (.tmp 25) (.tmp 29) 24 rfl w5.heap.size 9 i0 (.string ⟨#[]⟩) 1 16 Try.underlying24 HI.out HI0.out HI1.out HI2.out rfl (by decide) (.slice rb n rc) (n) (strs rows) (by rfl) V5.out (.slice (some ⟨go, 0, none⟩) 1 1) (1) (strs [zs]) (by rfl) RD5.out (strs_oneCell _) (by unfold maxLen; omega) (by omega) B5.out.size ?_
                intro vx v6 hown hgrow
                have B6 := Lib.hid (B5.out.grown hgrow B5.out.size (fun k hk => by have := (V5.out.lt k hk).1; omega))
                rw [← strs_append] at hown
                obtain ⟨rb2, rc2, hvx, _, _, _⟩ := own_form hown
                subst hvx
                have V6 := Lib.hid hown
                clear hown hgrow RD5
                refine hK.out _ _ ?_ (fun hHeld => ?_)
                · exact keep_cell B6.out HX5.out
                clear hK K
                (try simp only [Act.put, List.setIfInBounds_toArray, List.set_cons_zero, List.set_cons_succ])
                refine wpAnyH_take (i := 9) (oi := { dst := some 31, op := Go.Op.fieldAddr 26 (Go.Operand.tmp 7) 5, type := 0, pos := "law.go:109", after := #[{ on := 0, ground := Go.Ground.phase }, { on := 1, ground := Go.Ground.phase }, { on := 2, ground := Go.Ground.phase }, { on := 3, ground := Go.Ground.phase }, { on := 4, ground := Go.Ground.phase }, { on := 5, ground := Go.Ground.phase }, { on := 6, ground := Go.Ground.phase }, { on := 7, ground := Go.Ground.phase }, { on := 8, ground := Go.Ground.phase }], guard := none }) (v := ?_) rfl (by kernel_rfl) (by kernel_rfl) (by kernel_rfl) (fun _ _ _ h => h) (Or.inl ⟨by rfl, ?_⟩) hHeld ?_
                rotate_left
                · (intro w hSw; go_simp <;> with_reducible rfl)
                simp only [Act.put, List.setIfInBounds_toArray, List.set_cons_zero, List.set_cons_succ]
                refine wpAnyH_ready (rs := [10]) (by kernel_rfl) (by simp) (AllReadyH.cons (o := { dst := none, op := Go.Op.store 24 (Go.Operand.tmp 31) (Go.Operand.tmp 30), type := 0, pos := "law.go:109", after := #[{ on := 9, ground := Go.Ground.data }, { on := 8, ground := Go.Ground.data }, { on := 8, ground := Go.Ground.chain }, { on := 0, ground := Go.Ground.phase }, { on := 1, ground := Go.Ground.phase }, { on := 2, ground := Go.Ground.phase }, { on := 3, ground := Go.Ground.phase }, { on := 4, ground := Go.Ground.phase }, { on := 5, ground := Go.Ground.phase }, { on := 6, ground := Go.Ground.phase }, { on := 7, ground := Go.Ground.phase }, { on := 8, ground := Go.Ground.phase }], guard := none }) rfl (fun K hK => ?_) AllReadyH.nil)
                · obtain ⟨z0, z1, z2, z3, z4, z5, z6⟩ := (H7.out.below B6.out).cells
                  have zf := (H7.out.below B6.out).frozen 5
                  go_simp
                  have PF7 := Lib.hid ((H7.out.below B6.out).set5 (.slice rb2 (n + 1) rc2))
                  have KF7 := Lib.hid (one_kept v6 g7 5 (.slice rb2 (n + 1) rc2))
                  have TF7 := Lib.hid ((texts_own V6.out).1.off_pg (H7.out.below B6.out) (fun x e => by cases e) KF7.out)
                  generalize v6.setCell ⟨g7, 5, none⟩ (.slice rb2 (n + 1) rc2) = v7 at *
                  have B7 := Lib.hid (OthersKept.below (below_then BW5.out B6.out) KF7.out (fun k hk e => by omega))
                  clear z0 z1 z2 z3 z4 z5 z6 zf
                  refine hK.out _ _ ?_ (fun hHeld => ?_)
                  · exact KF7.out.cell (keep_cell B6.out HX5.out) (fun e => absurd (show w.heap.size = g7 from e) (by omega))
                  clear hK K
                  (try simp only [Act.put, List.setIfInBounds_toArray, List.set_cons_zero, List.set_cons_succ])
                  refine wpAnyH_done (by kernel_rfl) ?_ _
                  go_wp2_with fail
                  go_meet
                  exact ⟨rb2, rc2, rfl, PF7, TF7, B7⟩
  case rest =>
  obtain ⟨rb, rc, rfl, PB8, TB8, BB8⟩ := hcut
  generalize wc = w8 at *
  clear H7 HT5 HX5 BW5
  have HWB : weightB (rows ++ [zs]) ≤ 1000000 := by rw [weightB_append, weightB_cons, weightB_nil, HZL.out]; omega
  have HWB2 := Lib.hid HWB
  have MB := Lib.hid fun W hW => pageMay_any ⟨kind, level, id, lsn, next, rows ++ [zs]⟩ (.slice rb (n + 1) rc) W HP.out hW HWB2.out
  have RB := Lib.hid fun W hW => pageRoom_any ⟨kind, level, id, lsn, next, rows ++ [zs]⟩ (.slice rb (n + 1) rc) W hW HWB2.out
  unfold pgV at MB RB
  simp only at MB RB
  obtain ⟨mb, hmb⟩ : ∃ b, b = Pg.may ⟨kind, level, id, lsn, next, rows ++ [zs]⟩ := ⟨_, rfl⟩
  rw [← hmb] at MB LAW
  obtain ⟨rb2, hrb2⟩ : ∃ r, r = roomB (rows ++ [zs]) := ⟨_, rfl⟩
  rw [← hrb2] at RB LAW
  obtain ⟨l1, l2⟩ := LAW.out
  clear hmb hrb2 LAW HWB
  obtain ⟨x0, x1, x2, x3, x4, x5, x6⟩ := PB8.out.cells
  go_wp2_with fail
  refine (MB.out _ TB8.out).mono ?_
  rintro e w9 ⟨rfl, hb⟩
  have B9 := Lib.hid (below_then BB8.out hb)
  have P9 := Lib.hid (PB8.out.below hb)
  have T9 := Lib.hid (TB8.out.below hb)
  clear hb BB8 PB8 TB8 x0 x1 x2 x3 x4 x5 x6
  have L2 := Lib.hid l2
  by_cases hkr : (k : Int) ≤ ro
  case neg =>
    have e2 : decide (ro < (k : Int)) = true := decide_eq_true (by omega)
    have e3 : decide ((k : Int) ≤ ro) = false := decide_eq_false hkr
    have hmb : mb = false := by
      cases mb
      · rfl
      · exact absurd (l1.1 rfl) hkr
    subst hmb
    clear l1 l2
    go_wp2_with fail
    refine (AL.out _).mono ?_
    rintro e wa ⟨rfl, hba⟩
    have Ba := Lib.hid (below_then B9.out hba)
    clear hba
    go_wp2_with fail
    go_ret
    exact ⟨rfl, Ba.out⟩
  have e2 : decide (ro < (k : Int)) = false := decide_eq_false (by omega)
  obtain rfl : rb2 = if ro - 4 - (k : Int) < -1 then -1 else ro - 4 - (k : Int) := L2.out hkr
  have hmb : mb = true := l1.2 hkr
  subst hmb
  clear l1 l2 L2
  have e3 : decide ((k : Int) ≤ ro) = true := decide_eq_true hkr
  obtain ⟨x0, x1, x2, x3, x4, x5, x6⟩ := P9.out.cells
  have hmx := fun (ats : Array TypeId) (ty : TypeId) (W : World) => run_max_neg (P := Try.prog) (ro - 4 - (k : Int)) ats ty W
  go_wp2_with fail
  refine (RB.out _ T9.out).mono ?_
  rintro e w10 ⟨rfl, hb⟩
  have B10 := Lib.hid (below_then B9.out hb)
  clear hb
  obtain ⟨mx, hmx2⟩ : ∃ m, m = (if ro - 4 - (k : Int) < -1 then -1 else ro - 4 - (k : Int)) := ⟨_, rfl⟩
  rw [← hmx2] at hmx ⊢
  clear hmx2
  have e4 : (mx == mx) = true := by simp
  go_wp2_with fail
  refine (AL.out _).mono ?_
  rintro e wa ⟨rfl, hba⟩
  have Ba := Lib.hid (below_then B10.out hba)
  clear hba
  go_wp2_with fail
  go_ret
  exact ⟨rfl, Ba.out⟩

end Go.Proofs.Ytienlhnbmobinaa
