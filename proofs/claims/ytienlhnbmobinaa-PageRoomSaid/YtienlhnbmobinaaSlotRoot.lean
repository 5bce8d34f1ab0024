/- The slot area's ground: plain laws, bytes, texts, New, Free -/
import Derived.Test.YtienlhnbmobinaaRows
import Derived.Test.YtienlhnbmobinaaBase
import Derived.Test.YtienlhnbmobinaaPlains
import Derived.Test.YtienlhnbmobinaaWordWalks
import Derived.WalkKit
import Derived.WalkLawsBesides
import Derived.WalkSpells
import Derived.LoopTactic
import Derived.WalkMore
import Derived.LoopN
import Derived.Laws.BitsAllLaws
import Derived.Laws.IdiomStrings
import Derived.BigQuiet
import Derived.Deep.QuietTactic
import Derived.Deep.DeepCutAuto
import Derived.Deep.RegionHeld3
import Derived.Deep.DrawnRows
import Derived.Lib.Hide
import Derived.Outline
import Derived.Deep.DeepMust
import Derived.Handy
namespace Go.Proofs.Ytienlhnbmobinaa
open Go.RowKit
set_option linter.unusedVariables false
set_option linter.unusedSimpArgs false

theorem strOfNums_bytes : ∀ zs : List UInt8, strOfNums (zs.map fun b => (b.toNat : Int)) = ⟨zs.toArray⟩
  | [] => rfl
  | z :: zs => by
    apply bytes_ext
    rw [List.map_cons, strOfNums_cons, strOfNums_bytes zs]
    simp
/-- The zeros of a new row. -/
def zerosRow (n : Nat) : Array Value := (List.replicate n (Value.int .u8 0)).toArray
theorem run_make_zeros {P : Program} (W : World) (t e : TypeId) (n : Nat) (ht : P.underlying t = some (.slice e)) (hz : (P.info? e).map (·.zero) = some (some (.int .u8 0))) (hs : (P.info? e).map (·.size) = some 1) (hb : (P.info? e).map (·.bytes) = some 1) (hn : n ≤ 1000000) :
    (Instr.makeSlice t (.int .i64 n) (.int .i64 n)).run P W = .ok (.slice (some ⟨W.heap.size, 0, none⟩) n n) (W.alloc (.cells (zerosRow n) e)) := by
  cases hq : P.info? e with
  | none => rw [hq] at hs; simp at hs
  | some i =>
    rw [hq] at hz hs hb
    simp at hz hs hb
    have hr := run_makeSlice (P := P) W t e i _ ht hq hz .i64 .i64 (n : Int) (n : Int) (by omega) (Int.le_refl _) (by rw [hs]; simp; omega) (by rw [hb]; omega) (by omega)
    rw [hr]
    simp only [Int.toNat_natCast, hs, Nat.mul_one]
    congr 3
    apply Array.ext'
    apply List.ext_getElem
    · simp [madeCells, Value.cells, zerosRow]
    · intro j h1 h2
      simp [madeCells, Value.cells, zerosRow, Nat.mod_one]
theorem run_zeros_str {P : Program} (W : World) (src e dst : TypeId) (g n : Nat) (hs : P.underlying src = some (.slice e)) (he : P.underlying e = some (.int .u8)) (hd : P.underlying dst = some .string) (h : W.heap[g]? = some (.cells (zerosRow n) e (0, 0))) :
    (convert src dst (.slice (some ⟨g, 0, none⟩) n n)).run P W = .ok (.string ⟨(List.replicate n 0).toArray⟩) W := by
  have hr : RowAt W g (List.replicate n 0) := ⟨_, e, 0, 0, h, by simp [zerosRow], .inr rfl, fun i hi => by
    have : i < n := by simpa using hi
    simp [zerosRow, this]⟩
  have := row_str (P := P) (cap := n) hr src e dst hs he hd
  rw [List.length_replicate] at this
  rw [this, strOfNums_bytes]
theorem below_alloc {w w1 : World} (h : Below w.heap.size w w1) (o : Obj) : Below w.heap.size w (w1.alloc o) := h.alloc h.size o

end Go.Proofs.Ytienlhnbmobinaa

namespace Go.Proofs.Ytienlhnbmobinaa
open Go.RowKit
set_option linter.unusedVariables false
set_option linter.unusedSimpArgs false

/-- 'copy(b[k:], c)' of bytes that lie elsewhere (or in the same row). -/
theorem run_copy_part {P : Program} {W : World} {g k dLen dCap sLen sCap : Nat} {l zs : List UInt8} (h : RowAt W g l) (dT sT ty elem : TypeId) (a : Addr)
    (hu : P.underlying dT = some (.slice elem)) (hs : (P.info? elem).map (·.size) = some 1) (hz : zs.length = Nat.min sLen dLen)
    (hsrc : ∀ j (hj : j < zs.length), W.cell? (a.add j) = some (.int .u8 (zs[j].toNat : Int))) (hfit : k + zs.length ≤ l.length) :
    ∃ W', (Builtin.copy_ #[dT, sT] ty #[.slice (some ⟨g, k, none⟩) dLen dCap, .slice (some a) sLen sCap]).run P W = .ok (goInt zs.length) W' ∧ RowAt W' g (l.take k ++ zs ++ l.drop (k + zs.length)) ∧ W.grownBy W' (some g) := by
  obtain ⟨W', h1, h2, h3⟩ := run_storeBytes (P := P) g k zs 0 l W h (by simpa using hfit)
  have hl := run_loadCells_list (P := P) W a (zs.map fun b => Value.int .u8 (b.toNat : Int)) (fun j v hj => by
    have hjl : j < zs.length := by
      rcases Nat.lt_or_ge j zs.length with h | h
      · exact h
      · rw [List.getElem?_eq_none (by simpa using h)] at hj; cases hj
    rw [List.getElem?_map, List.getElem?_eq_getElem hjl] at hj
    simp at hj
    rw [← hj]
    exact hsrc j hjl)
  refine ⟨W', ?_, by simpa using h2, h3⟩
  rw [List.length_map] at hl
  cases hq : P.info? elem with
  | none => simp [hq] at hs
  | some i =>
    have hi : i.size = 1 := by simpa [hq] using hs
    simp [Builtin.copy_, run_underlying hu, Builtin.lenOf, Builtin.firstCells, sizeOf, typeInfo, hq, hi, ← hz, hl, h1]

theorem upon_copy_part {P : Program} {o : Oper} {a : Act} {K : Act → World → Prop} {Q : Exit → Act → World → Prop} {W : World} {g k dLen dCap sLen sCap : Nat} {l zs : List UInt8} (h : RowAt W g l) (dT sT ty elem : TypeId) (p : Addr)
    (hu : P.underlying dT = some (.slice elem)) (hs : (P.info? elem).map (·.size) = some 1) (hz : zs.length = Nat.min sLen dLen)
    (hsrc : ∀ j (hj : j < zs.length), W.cell? (p.add j) = some (.int .u8 (zs[j].toNat : Int))) (hfit : k + zs.length ≤ l.length)
    (hk : ∀ W', RowAt W' g (l.take k ++ zs ++ l.drop (k + zs.length)) → W.grownBy W' (some g) → K (a.put o.dst (goInt zs.length)) W') :
    o.upon P a K Q (((Builtin.copy_ #[dT, sT] ty #[.slice (some ⟨g, k, none⟩) dLen dCap, .slice (some p) sLen sCap]).run P W).andThen fun v w' => .ok (.value v) w') := by
  obtain ⟨W', h1, h2, h3⟩ := run_copy_part (P := P) (dCap := dCap) (sCap := sCap) h dT sT ty elem p hu hs hz hsrc hfit
  rw [h1]
  simp only [Result.andThen]
  rw [Oper.upon_value]
  exact hk W' h2 h3

end Go.Proofs.Ytienlhnbmobinaa

namespace Go.Proofs.Ytienlhnbmobinaa
open Go.RowKit
set_option linter.unusedVariables false
set_option linter.unusedSimpArgs false

set_option maxHeartbeats 1000000 in
set_option maxRecDepth 100000 in
theorem cloneBytes_any (g off n cap : Nat) (zs : List UInt8) (w : World) (hz : zs.length = n) (hn : n ≤ 1000000) (hc : ∀ j (hj : j < zs.length), w.cell? ⟨g, off + j, none⟩ = some (.int .u8 (zs[j].toNat : Int))) :
    Calls Try.prog 162 #[.slice (some ⟨g, off, none⟩) n cap] w fun e w' => ∃ g' c', e = .returned (.slice (some ⟨g', 0, none⟩) n c') ∧ w'.ownsRow w.heap.size 5 1 (.slice (some ⟨g', 0, none⟩) n c') n (zs.map fun b => .int .u8 (b.toNat : Int)) ∧ Below w.heap.size w w' := by
  have eq := fun W => Lib.run_eql_slice_nil (P := Try.prog) W 70 5 (some ⟨g, off, none⟩) n cap 0 0 Try.underlying70
  obtain ⟨i0, hi, hz0, hz1, hz2⟩ := info_parts (P := Try.prog) (e := 5) (z := .int .u8 0) (size := 1) (bytes := 1) (by kernel_rfl)
  go_enter Try.func162, Try.ntmps162
  have hnew : ∀ j u, (zs.map fun b => Value.int .u8 (b.toNat : Int))[j]? = some u → (w.alloc (.cells #[] 5)).cell? ((⟨g, off, none⟩ : Addr).add j) = some u := by
    intro j u hu
    have hj : j < zs.length := by
      rcases Nat.lt_or_ge j zs.length with h | h
      · exact h
      · rw [List.getElem?_eq_none (by simpa using h)] at hu; cases hu
    rw [List.getElem?_map, List.getElem?_eq_getElem hj] at hu
    injection hu with hu
    rw [← hu, Addr.add_lit]
    exact keep_cell ((Below.refl _ _).alloc (Nat.le_refl _) _) (hc j hj)
  have HN := Lib.hid hnew
  have HC := Lib.hid hc
  have HZ := Lib.hid hz
  clear hnew hc hz
  go_wp2_with (at_builtin; refine wpList_append_own _ rfl _ _ 70 rfl w.heap.size 5 i0 (.int .u8 0) 1 1 Try.underlying70 hi hz0 hz1 hz2 rfl (by decide) (.slice (some ⟨w.heap.size, 0, none⟩) 0 0) 0 [] (by rfl) (World.ownsRow_made w #[] 0 (Nat.le_refl _) (by unfold maxLen; omega) rfl) ⟨g, off, none⟩ n cap (zs.map fun b => .int .u8 (b.toNat : Int)) (by rfl) (by simp [HZ.out]) HN.out (by intro u hu; obtain ⟨b, _, rfl⟩ := List.mem_map.1 hu; rfl) (by unfold maxLen; omega) (by omega) (by simp) ?_; intro v' w5 hown5 hgrow5 hnil)
  have hb5 : Below w.heap.size w w5 := ((Below.refl w.heap.size w).alloc (Nat.le_refl _) (.cells #[] 5)).grown hgrow5 (by simp) (fun k hk => by simp [Value.ownBlock] at hk; omega)
  simp only [Nat.zero_add, List.nil_append] at hown5
  obtain ⟨b5, c5, rfl, _, _, hb⟩ := own_form hown5
  have hb6 : ∃ g', b5 = some ⟨g', 0, none⟩ := by
    rcases hown5.2 with ⟨h0, _⟩ | ⟨g', _, _, h0, _⟩
    · have := (hnil.1 h0).1
      cases this
    · injection h0 with h0
      exact ⟨g', h0⟩
  obtain ⟨g', rfl⟩ := hb6
  have HO := Lib.hid hown5
  have HB := Lib.hid hb5
  clear hown5 hb5 hgrow5 hnil hb
  go_wp2_with fail
  go_ret
  exact ⟨g', c5, rfl, HO.out, HB.out⟩

end Go.Proofs.Ytienlhnbmobinaa

namespace Go.Proofs.Ytienlhnbmobinaa
open Go.RowKit
set_option linter.unusedVariables false
set_option linter.unusedSimpArgs false

/-- 'copy(b[k:], c)' at a step of a region that draws its order. -/
theorem step_copy_part {P : Program} {ops : Array Oper} {o : Oper} {a : Act} {K : Act → World → Prop} {Q : Exit → Act → World → Prop} {E : Prop} {W : World} {g k dLen dCap sLen sCap : Nat} {l zs : List UInt8} (hgd : o.guard = none) (d s : Operand) (dT sT elem : TypeId) (p : Addr)
    (ho : o.op = .call { callee := .builtin .copy, args := #[d, s], argTypes := #[dT, sT] })
    (hd : a.eval d = .slice (some ⟨g, k, none⟩) dLen dCap) (hx : a.eval s = .slice (some p) sLen sCap)
    (h : RowAt W g l) (hu : P.underlying dT = some (.slice elem)) (hs : (P.info? elem).map (·.size) = some 1) (hz : zs.length = Nat.min sLen dLen)
    (hsrc : ∀ j (hj : j < zs.length), W.cell? (p.add j) = some (.int .u8 (zs[j].toNat : Int))) (hfit : k + zs.length ≤ l.length)
    (hk : ∀ W', RowAt W' g (l.take k ++ zs ++ l.drop (k + zs.length)) → W.grownBy W' (some g) → K (a.put o.dst (goInt zs.length)) W') :
    if Region.wanted o (yielded ops a.tmps) = true then Oper.wp P o a W K Q else E := by
  have hw : Region.wanted o (yielded ops a.tmps) = true := by simp [Region.wanted, hgd]
  rw [if_pos hw]
  obtain ⟨W', hr, h2, h3⟩ := run_copy_part (P := P) (dCap := dCap) (sCap := sCap) h dT sT o.type elem p hu hs hz hsrc hfit
  unfold Oper.wp execOp
  simp only [ho, resolve, invoke, builtin, Sem.run_bind, Sem.run_pure, Result.andThen_ok, List.map_toArray, List.map_cons, List.map_nil, hd, hx, hr]
  exact hk W' h2 h3

end Go.Proofs.Ytienlhnbmobinaa

namespace Go.Proofs.Ytienlhnbmobinaa
set_option linter.unusedVariables false
set_option linter.unusedSimpArgs false

/-- A number of two bytes that stands at a place. -/
def u2 (l : List UInt8) (k : Nat) : Nat := 256 * (l.getD k 0).toNat + (l.getD (k + 1) 0).toNat
theorem u2_lt (l : List UInt8) (k : Nat) : u2 l k < 65536 := by
  unfold u2
  have h1 := (l.getD k 0).toNat_lt
  have h2 := (l.getD (k + 1) 0).toNat_lt
  omega

/-- The text of an entry. -/
def txt (l : List UInt8) (k : Nat) : List UInt8 := (l.drop (u2 l (4 + 4 * k))).take (u2 l (6 + 4 * k))


/-- What an area's functions leave: its row holds other bytes; what was there is as it was, but that row. -/
def setTwo (l : List UInt8) (k n : Nat) : List UInt8 := l.take k ++ be 2 n ++ l.drop (k + 2)
theorem setTwo_len {l : List UInt8} {k n : Nat} (h : k + 2 ≤ l.length) : (setTwo l k n).length = l.length := by
  unfold setTwo
  simp [be_length]
  omega

/-- A place in the directory. -/
def setPlace (l : List UInt8) (k f n : Nat) : List UInt8 := setTwo (setTwo l (4 + 4 * k) f) (6 + 4 * k) n


/-- A text is laid at a place. -/
def putAt (l : List UInt8) (k : Nat) (s : List UInt8) : List UInt8 := l.take k ++ s ++ l.drop (k + s.length)
theorem putAt_len {l : List UInt8} {k : Nat} {s : List UInt8} (h : k + s.length ≤ l.length) : (putAt l k s).length = l.length := by
  unfold putAt
  simp
  omega
theorem putAt_nil (l : List UInt8) (k : Nat) : putAt l k [] = l := by unfold putAt; simp
def belowL (l : List UInt8) (s : List UInt8) : List UInt8 := setTwo (putAt l (u2 l 2 - s.length) s) 2 (u2 l 2 - s.length)


/-- The sizes of the first texts. -/
def sizes (l : List UInt8) : Nat → Nat
  | 0 => 0
  | k + 1 => sizes l k + u2 l (6 + 4 * k)
theorem sizes_le (l : List UInt8) : ∀ k, sizes l k ≤ 65536 * k
  | 0 => Nat.le_refl _
  | k + 1 => by
    have h1 := sizes_le l k
    have h2 := u2_lt l (6 + 4 * k)
    show sizes l k + u2 l (6 + 4 * k) ≤ _
    omega
def freeL (l : List UInt8) : Int := (l.length : Int) - 4 - 4 * (u2 l 0 : Int) - (sizes l (u2 l 0) : Int)

/-- An area, as plain data: all its bytes (those ahead of the texts count for nothing), the low place, the directory. -/
structure Ar where
  B : List UInt8
  low : Nat
  L : List (Nat × Nat)

def ents : List (Nat × Nat) → List UInt8
  | [] => []
  | p :: r => be 2 p.1 ++ (be 2 p.2 ++ ents r)
theorem ents_length : ∀ L, (ents L).length = 4 * L.length
  | [] => rfl
  | p :: r => by simp [ents, be_length, ents_length r]; omega
theorem ents_append : ∀ a b, ents (a ++ b) = ents a ++ ents b
  | [], b => rfl
  | p :: r, b => by simp [ents, ents_append r]

def Ar.fin (a : Ar) : Nat := 4 + 4 * a.L.length
def Ar.enc (a : Ar) : List UInt8 := be 2 a.L.length ++ (be 2 a.low ++ (ents a.L ++ a.B.drop a.fin))

theorem Ar.enc_length (a : Ar) (h : a.fin ≤ a.B.length) : a.enc.length = a.B.length := by
  simp only [Ar.enc, List.length_append, be_length, ents_length, List.length_drop]
  unfold Ar.fin at *
  omega

theorem be2 (n : Nat) : be 2 n = [UInt8.ofNat (n / 256), UInt8.ofNat n] := by simp [be]

theorem u2_at (x y : List UInt8) (n k : Nat) (hk : x.length = k) (hn : n < 65536) : u2 (x ++ (be 2 n ++ y)) k = n := by
  subst hk
  unfold u2
  rw [be2]
  simp [List.getD_eq_getElem?_getD]
  omega

theorem setTwo_at (x y : List UInt8) (n m k : Nat) (hk : x.length = k) : setTwo (x ++ (be 2 m ++ y)) k n = x ++ (be 2 n ++ y) := by
  subst hk
  unfold setTwo
  have e : (be 2 m ++ y).drop 2 = y := by rw [be2]; rfl
  rw [List.take_left, ← List.drop_drop, List.drop_left, e]
  simp

theorem split_at (L : List (Nat × Nat)) (k : Nat) (h : k < L.length) : L = L.take k ++ L[k] :: L.drop (k + 1) := by
  rw [← List.drop_eq_getElem_cons h, List.take_append_drop]

theorem enc_split (a : Ar) (k : Nat) (h : k < a.L.length) : a.enc = (be 2 a.L.length ++ (be 2 a.low ++ ents (a.L.take k))) ++ (be 2 a.L[k].1 ++ (be 2 a.L[k].2 ++ (ents (a.L.drop (k + 1)) ++ a.B.drop a.fin))) := by
  have e : ents a.L = ents (a.L.take k) ++ (be 2 a.L[k].1 ++ (be 2 a.L[k].2 ++ ents (a.L.drop (k + 1)))) := by
    conv => lhs; rw [split_at a.L k h, ents_append]
    rfl
  unfold Ar.enc
  rw [e]
  simp

theorem Ar.u2_n (a : Ar) (h : a.L.length < 65536) : u2 a.enc 0 = a.L.length := u2_at [] _ _ 0 rfl h
theorem Ar.u2_low (a : Ar) (h : a.low < 65536) : u2 a.enc 2 = a.low := u2_at (be 2 a.L.length) _ _ 2 (be_length _ _) h
theorem Ar.u2_from (a : Ar) (k : Nat) (h : k < a.L.length) (hf : a.L[k].1 < 65536) : u2 a.enc (4 + 4 * k) = a.L[k].1 := by
  rw [enc_split a k h]
  exact u2_at _ _ _ _ (by simp [be_length, ents_length]; omega) hf
theorem Ar.u2_size (a : Ar) (k : Nat) (h : k < a.L.length) (hf : a.L[k].2 < 65536) : u2 a.enc (6 + 4 * k) = a.L[k].2 := by
  rw [enc_split a k h]
  have e := u2_at (be 2 a.L.length ++ (be 2 a.low ++ ents (a.L.take k)) ++ be 2 a.L[k].1) (ents (a.L.drop (k + 1)) ++ a.B.drop a.fin) a.L[k].2 (6 + 4 * k) (by simp [be_length, ents_length]; omega) hf
  rw [List.append_assoc (_ ++ _) (be 2 a.L[k].1)] at e
  exact e

theorem Ar.set_low (a : Ar) (n : Nat) : setTwo a.enc 2 n = ({ a with low := n } : Ar).enc := setTwo_at (be 2 a.L.length) _ n _ 2 (be_length _ _)
theorem Ar.set_n (a : Ar) (n : Nat) : setTwo a.enc 0 n = be 2 n ++ (be 2 a.low ++ (ents a.L ++ a.B.drop a.fin)) := setTwo_at [] _ n _ 0 rfl

theorem Ar.set_place (a : Ar) (k f n : Nat) (h : k < a.L.length) : setPlace a.enc k f n = ({ a with L := a.L.set k (f, n) } : Ar).enc := by
  have e1 : setTwo a.enc (4 + 4 * k) f = (be 2 a.L.length ++ (be 2 a.low ++ ents (a.L.take k))) ++ (be 2 f ++ (be 2 a.L[k].2 ++ (ents (a.L.drop (k + 1)) ++ a.B.drop a.fin))) := by
    rw [enc_split a k h]
    exact setTwo_at _ _ _ _ _ (by simp [be_length, ents_length]; omega)
  have e2 := setTwo_at (be 2 a.L.length ++ (be 2 a.low ++ ents (a.L.take k)) ++ be 2 f) (ents (a.L.drop (k + 1)) ++ a.B.drop a.fin) n a.L[k].2 (6 + 4 * k) (by simp [be_length, ents_length]; omega)
  have h' : k < (a.L.set k (f, n)).length := by simpa using h
  have e3 := enc_split { a with L := a.L.set k (f, n) } k h'
  simp only [List.getElem_set_self, List.length_set, List.take_set_of_le (Nat.le_refl k), List.drop_set_of_lt (Nat.lt_succ_self k)] at e3
  rw [e3]
  unfold setPlace
  rw [e1]
  simp only [List.append_assoc] at e2 ⊢
  rw [e2]
  simp [Ar.fin]

theorem putAt_app (x y : List UInt8) (k : Nat) (t : List UInt8) (hk : x.length ≤ k) : putAt (x ++ y) k t = x ++ putAt y (k - x.length) t := by
  unfold putAt
  rw [List.take_append, List.take_of_length_le hk, List.drop_append, List.drop_of_length_le (by omega), show k + t.length - x.length = k - x.length + t.length by omega]
  simp

theorem putAt_drop (l : List UInt8) (k f : Nat) (t : List UInt8) (hf : f ≤ k) (hk : k ≤ l.length) : (putAt l k t).drop f = putAt (l.drop f) (k - f) t := by
  unfold putAt
  rw [List.append_assoc, List.drop_append, List.length_take, Nat.min_eq_left hk, show f - k = 0 by omega, List.drop_zero, List.drop_take, List.drop_drop, List.append_assoc, show f + (k - f + t.length) = k + t.length by omega]

theorem Ar.put_at (a : Ar) (k : Nat) (t : List UInt8) (hk : a.fin ≤ k) (hl : k ≤ a.B.length) : putAt a.enc k t = ({ a with B := putAt a.B k t } : Ar).enc := by
  have e : a.enc = (be 2 a.L.length ++ (be 2 a.low ++ ents a.L)) ++ a.B.drop a.fin := by simp [Ar.enc]
  have hx : (be 2 a.L.length ++ (be 2 a.low ++ ents a.L)).length = a.fin := by
    simp only [List.length_append, be_length, ents_length]
    unfold Ar.fin
    omega
  rw [e, putAt_app _ _ _ _ (by omega), hx]
  show _ = be 2 a.L.length ++ (be 2 a.low ++ (ents a.L ++ (putAt a.B k t).drop a.fin))
  rw [putAt_drop _ _ _ _ hk hl]
  simp

/-- A text, of a place. -/
def Ar.text (a : Ar) (p : Nat × Nat) : List UInt8 := (a.B.drop p.1).take p.2
def Ar.below (a : Ar) (t : List UInt8) : Ar := { a with B := putAt a.B (a.low - t.length) t, low := a.low - t.length }
/-- A text stands below, as that of place k. -/
def Ar.stand (a : Ar) (k : Nat) (t : List UInt8) : Ar := { a.below t with L := a.L.set k (a.low - t.length, t.length) }
def Ar.stands (a : Ar) (ts : List (List UInt8)) : Nat → Ar
  | 0 => a
  | k + 1 => (a.stands ts k).stand k (ts.getD k [])
def Ar.compact (a : Ar) : Ar :=
  let c := ({ a with low := a.B.length } : Ar).stands (a.L.map a.text) a.L.length
  { c with B := List.replicate c.low 0 ++ c.B.drop c.low }
def Ar.sum (a : Ar) : Nat := (a.L.map (·.2)).sum
def Ar.free (a : Ar) : Int := (a.B.length : Int) - a.fin - a.sum
def Ar.gap (a : Ar) : Int := (a.low : Int) - a.fin
/-- A text more. -/
def Ar.putIn (a : Ar) (k : Nat) (t : List UInt8) : Ar := { a.below t with L := a.L.take k ++ (a.low - t.length, t.length) :: a.L.drop k }
def Ar.roomy (a : Ar) (n : Nat) : Ar := if a.gap < n then a.compact else a
def Ar.put (a : Ar) (k : Int) (t : List UInt8) : Ar × Int :=
  if k < 0 ∨ (a.L.length : Int) < k then (a, 2) else if a.free < t.length + 4 then (a, 4) else ((a.roomy (t.length + 4)).putIn k.toNat t, 0)
def Ar.short (a : Ar) (k : Nat) (t : List UInt8) : Ar := { a with B := putAt a.B (a.L.getD k (0, 0)).1 t, L := a.L.set k ((a.L.getD k (0, 0)).1, t.length) }
def Ar.long (a : Ar) (k : Nat) (t : List UInt8) : Ar :=
  if a.gap < t.length then ({ a with L := a.L.set k ((a.L.getD k (0, 0)).1, 0) } : Ar).compact.stand k t else a.stand k t
def Ar.set (a : Ar) (k : Int) (t : List UInt8) : Ar × Int :=
  if ¬ (0 ≤ k ∧ k < (a.L.length : Int)) then (a, 3)
  else if t.length ≤ (a.L.getD k.toNat (0, 0)).2 then (a.short k.toNat t, 0)
  else if a.free < (t.length : Int) - (a.L.getD k.toNat (0, 0)).2 then (a, 4)
  else (a.long k.toNat t, 0)
def Ar.cut (a : Ar) (k : Nat) : Ar := { a with B := a.B.take (a.fin - 4) ++ List.replicate 4 0 ++ a.B.drop a.fin, L := a.L.eraseIdx k }
def Ar.remove (a : Ar) (k : Int) : Ar × Int := if ¬ (0 ≤ k ∧ k < (a.L.length : Int)) then (a, 3) else (a.cut k.toNat, 0)
def Ar.new (n : Nat) : Ar := { B := List.replicate n 0, low := n, L := [] }

def Apart (p q : Nat × Nat) : Prop := p.2 = 0 ∨ q.2 = 0 ∨ p.1 + p.2 ≤ q.1 ∨ q.1 + q.2 ≤ p.1
structure Ar.Good (a : Ar) : Prop where
  lo : 16 ≤ a.B.length
  hi : a.B.length ≤ 4096
  f : a.fin ≤ a.low
  l : a.low ≤ a.B.length
  inn : ∀ p ∈ a.L, a.low ≤ p.1 ∧ p.1 + p.2 ≤ a.B.length
  dis : a.L.Pairwise Apart


theorem sum_filter (p : Nat × Nat → Bool) : ∀ L : List (Nat × Nat), (L.map (·.2)).sum = ((L.filter p).map (·.2)).sum + ((L.filter fun q => !p q).map (·.2)).sum
  | [] => rfl
  | q :: r => by
    have ih := sum_filter p r
    by_cases h : p q = true
    · simp [List.filter_cons, h, ih]; omega
    · simp [List.filter_cons, h, ih]; omega

theorem sum_apart : ∀ (n : Nat) (L : List (Nat × Nat)) (lo hi : Nat), L.length ≤ n → lo ≤ hi → (∀ q ∈ L, q.2 = 0 ∨ (lo ≤ q.1 ∧ q.1 + q.2 ≤ hi)) → L.Pairwise Apart → (L.map (·.2)).sum ≤ hi - lo
  | _, [], _, _, _, _, _, _ => by simp
  | 0, p :: r, _, _, hn, _, _, _ => by simp at hn
  | n + 1, p :: r, lo, hi, hn, hl, hin, hap => by
    have hn' : r.length ≤ n := by simpa using hn
    rw [List.pairwise_cons] at hap
    obtain ⟨hp, hr⟩ := hap
    by_cases h0 : p.2 = 0
    · have := sum_apart n r lo hi hn' hl (fun q hq => hin q (by simp [hq])) hr
      simpa [h0] using this
    · obtain ⟨h1, h2⟩ := (hin p (by simp)).resolve_left h0
      have e := sum_filter (fun q => decide (q.1 + q.2 ≤ p.1)) r
      have i1 := sum_apart n (r.filter fun q => decide (q.1 + q.2 ≤ p.1)) lo p.1 (Nat.le_trans (List.length_filter_le _ _) hn') h1 (fun q hq => by
        rw [List.mem_filter] at hq
        have := hin q (by simp [hq.1])
        have h3 : q.1 + q.2 ≤ p.1 := by simpa using hq.2
        omega) (hr.filter _)
      have i2 := sum_apart n (r.filter fun q => !decide (q.1 + q.2 ≤ p.1)) (p.1 + p.2) hi (Nat.le_trans (List.length_filter_le _ _) hn') h2 (fun q hq => by
        rw [List.mem_filter] at hq
        have := hin q (by simp [hq.1])
        have h3 : ¬ q.1 + q.2 ≤ p.1 := by simpa using hq.2
        have h4 := hp q hq.1
        unfold Apart at h4
        omega) (hr.filter _)
      simp only [List.map_cons, List.sum_cons]
      omega

theorem Ar.Good.sum_le {a : Ar} (h : a.Good) : a.low + a.sum ≤ a.B.length := by
  have := sum_apart a.L.length a.L a.low a.B.length (Nat.le_refl _) h.l (fun q hq => .inr (h.inn q hq)) h.dis
  have := h.l
  unfold Ar.sum
  omega

theorem putAt_get (B : List UInt8) (k : Nat) (t : List UInt8) (hk : k ≤ B.length) (j : Nat) : (putAt B k t)[j]? = if j < k then B[j]? else if j < k + t.length then t[j - k]? else B[j]? := by
  unfold putAt
  by_cases h1 : j < k
  · rw [if_pos h1, List.append_assoc, List.getElem?_append_left (by simp; omega), List.getElem?_take_of_lt h1]
  · rw [if_neg h1]
    have hl : (B.take k).length = k := by simp; omega
    by_cases h2 : j < k + t.length
    · rw [if_pos h2, List.getElem?_append_left (by simp; omega), List.getElem?_append_right (by omega), hl]
    · rw [if_neg h2, List.getElem?_append_right (by simp; omega), List.getElem?_drop]
      congr 1
      simp
      omega

theorem piece_get (B : List UInt8) (a n j : Nat) : ((B.drop a).take n)[j]? = if j < n then B[a + j]? else none := by
  by_cases h : j < n
  · rw [if_pos h, List.getElem?_take_of_lt h, List.getElem?_drop]
  · rw [if_neg h]; simp; omega

theorem piece_far (B : List UInt8) (k : Nat) (t : List UInt8) (a n : Nat) (hk : k ≤ B.length) (h : n = 0 ∨ a + n ≤ k ∨ k + t.length ≤ a) : ((putAt B k t).drop a).take n = (B.drop a).take n := by
  apply List.ext_getElem?
  intro j
  rw [piece_get, piece_get]
  by_cases hj : j < n
  · rw [if_pos hj, if_pos hj, putAt_get _ _ _ hk]
    by_cases h1 : a + j < k
    · rw [if_pos h1]
    · rw [if_neg h1, if_neg (by omega)]
  · rw [if_neg hj, if_neg hj]

theorem piece_own (B : List UInt8) (k : Nat) (t : List UInt8) (hk : k ≤ B.length) : ((putAt B k t).drop k).take t.length = t := by
  apply List.ext_getElem?
  intro j
  rw [piece_get]
  by_cases hj : j < t.length
  · rw [if_pos hj, putAt_get _ _ _ hk, if_neg (by omega), if_pos (by omega), show k + j - k = j by omega]
  · rw [if_neg hj, List.getElem?_eq_none (by omega)]

theorem piece_len (B : List UInt8) (a n : Nat) (h : a + n ≤ B.length) : ((B.drop a).take n).length = n := by simp; omega

/-- The first k texts stand anew. -/
structure Stood (N n f : Nat) (ts : List (List UInt8)) (k : Nat) (c : Ar) : Prop where
  len : c.B.length = N
  cnt : c.L.length = n
  low : c.low + ((ts.take k).map List.length).sum = N
  tx : ∀ j, j < k → ∃ p, c.L[j]? = some p ∧ c.text p = ts.getD j [] ∧ p.2 = (ts.getD j []).length ∧ c.low ≤ p.1 ∧ p.1 + p.2 ≤ N
  ap : ∀ i j p q, i < j → j < k → c.L[i]? = some p → c.L[j]? = some q → q.1 + q.2 ≤ p.1

theorem take_sum (ts : List (List UInt8)) (k : Nat) (h : k < ts.length) : ((ts.take (k + 1)).map List.length).sum = ((ts.take k).map List.length).sum + (ts.getD k []).length := by
  rw [List.take_succ_eq_append_getElem h, List.map_append, List.sum_append]
  simp [List.getD_eq_getElem?_getD, List.getElem?_eq_getElem h]

theorem sum_take_le (ts : List (List UInt8)) (k : Nat) : ((ts.take k).map List.length).sum ≤ (ts.map List.length).sum := by
  conv => rhs; rw [← List.take_append_drop k ts, List.map_append, List.sum_append]
  omega

theorem Stood.room {N n f k : Nat} {ts : List (List UInt8)} {c : Ar} (h : Stood N n f ts k c) (hs : (ts.map List.length).sum + f ≤ N) (hk : k < ts.length) : f + (ts.getD k []).length ≤ c.low := by
  have h1 := take_sum ts k hk
  have h2 := sum_take_le ts (k + 1)
  have h3 := h.low
  omega

theorem Stood.step {N n f k : Nat} {ts : List (List UInt8)} {c : Ar} (h : Stood N n f ts k c) (hs : (ts.map List.length).sum + f ≤ N) (hk : k < ts.length) (hn : ts.length = n) : Stood N n f ts (k + 1) (c.stand k (ts.getD k [])) := by
  have hr := h.room hs hk
  have hlow := h.low
  have hts := take_sum ts k hk
  generalize hT : ts.getD k [] = t at *
  have hcl : c.low ≤ c.B.length := by have := h.len; omega
  have hkl : c.low - t.length ≤ c.B.length := by omega
  refine ⟨?_, by simpa [Ar.stand, Ar.below] using h.cnt, ?_, ?_, ?_⟩
  · simp only [Ar.stand, Ar.below]
    rw [putAt_len (by omega)]
    exact h.len
  · simp only [Ar.stand, Ar.below]
    omega
  · intro j hj
    rcases Nat.lt_or_ge j k with hjk | hjk
    · obtain ⟨p, h1, h2, h3, h4, h5⟩ := h.tx j hjk
      refine ⟨p, ?_, ?_, h3, ?_, h5⟩
      · simp only [Ar.stand, Ar.below]
        rw [List.getElem?_set_ne (by omega)]
        exact h1
      · rw [← h2]
        exact piece_far _ _ _ _ _ hkl (by omega)
      · simp only [Ar.stand, Ar.below]
        omega
    · obtain rfl : j = k := by omega
      refine ⟨(c.low - t.length, t.length), ?_, ?_, by rw [hT], ?_, ?_⟩
      · simp only [Ar.stand, Ar.below]
        rw [List.getElem?_set_self (by have := h.cnt; omega)]
      · rw [hT]
        exact piece_own _ _ _ hkl
      · exact Nat.le_refl _
      · show c.low - t.length + t.length ≤ N
        have := h.len
        omega
  · intro i j p q hij hj hp hq
    simp only [Ar.stand, Ar.below] at hp hq
    rw [List.getElem?_set_ne (by omega)] at hp
    rcases Nat.lt_or_ge j k with hjk | hjk
    · rw [List.getElem?_set_ne (by omega)] at hq
      exact h.ap i j p q hij hjk hp hq
    · obtain rfl : j = k := by omega
      rw [List.getElem?_set_self (by have := h.cnt; omega)] at hq
      obtain ⟨p', h1, _, _, h4, _⟩ := h.tx i hij
      rw [h1] at hp
      injection hp with hp
      injection hq with hq
      subst hp
      subst hq
      show c.low - t.length + t.length ≤ p'.1
      omega

theorem Stood.zero (a : Ar) (ts : List (List UInt8)) (f : Nat) : Stood a.B.length a.L.length f ts 0 ({ a with low := a.B.length } : Ar) :=
  ⟨rfl, rfl, by simp, fun j hj => absurd hj (Nat.not_lt_zero j), fun i j p q _ hj => absurd hj (Nat.not_lt_zero j)⟩

theorem Stood.all (a : Ar) (ts : List (List UInt8)) (hn : ts.length = a.L.length) (hs : (ts.map List.length).sum + a.fin ≤ a.B.length) : ∀ k, k ≤ a.L.length → Stood a.B.length a.L.length a.fin ts k (({ a with low := a.B.length } : Ar).stands ts k)
  | 0, _ => Stood.zero a ts _
  | k + 1, h => (Stood.all a ts hn hs k (by omega)).step hs (by omega) hn

/-- The texts, in order. -/
def Ar.texts (a : Ar) : List (List UInt8) := a.L.map a.text

theorem Ar.Good.text_len {a : Ar} (h : a.Good) {p : Nat × Nat} (hp : p ∈ a.L) : (a.text p).length = p.2 := piece_len _ _ _ (h.inn p hp).2

theorem Ar.Good.texts_sum {a : Ar} (h : a.Good) : (a.texts.map List.length) = a.L.map (·.2) := by
  unfold Ar.texts
  rw [List.map_map]
  exact List.map_congr_left fun p hp => h.text_len hp

theorem Ar.Good.texts_fit {a : Ar} (h : a.Good) : (a.texts.map List.length).sum + a.fin ≤ a.B.length := by
  rw [h.texts_sum]
  have := h.sum_le
  have := h.f
  unfold Ar.sum at *
  omega

theorem Ar.Good.compact {a : Ar} (h : a.Good) : a.compact.Good ∧ a.compact.L.length = a.L.length ∧ a.compact.B.length = a.B.length ∧ a.compact.texts = a.texts ∧ a.compact.low + a.sum = a.B.length := by
  have hS := Stood.all a a.texts (by simp [Ar.texts]) h.texts_fit a.L.length (Nat.le_refl _)
  have hfit := h.texts_fit
  have hsum := h.texts_sum
  have hlow := hS.low
  rw [List.take_of_length_le (by simp [Ar.texts])] at hlow
  have e : a.compact = { ({ a with low := a.B.length } : Ar).stands a.texts a.L.length with B := List.replicate (({ a with low := a.B.length } : Ar).stands a.texts a.L.length).low 0 ++ (({ a with low := a.B.length } : Ar).stands a.texts a.L.length).B.drop (({ a with low := a.B.length } : Ar).stands a.texts a.L.length).low } := rfl
  rw [e]
  generalize ({ a with low := a.B.length } : Ar).stands a.texts a.L.length = c at *
  have hll : c.low ≤ c.B.length := by have := hS.len; omega
  have htext : ∀ p : Nat × Nat, c.low ≤ p.1 → (({ c with B := List.replicate c.low 0 ++ c.B.drop c.low } : Ar).text p) = c.text p := by
    intro p hp
    apply List.ext_getElem?
    intro j
    unfold Ar.text
    rw [piece_get, piece_get]
    by_cases hj : j < p.2
    · rw [if_pos hj, if_pos hj, List.getElem?_append_right (by simp; omega), List.getElem?_drop]
      congr 1
      simp
      omega
    · rw [if_neg hj, if_neg hj]
  have hget : ∀ j (hj : j < c.L.length), c.low ≤ c.L[j].1 ∧ c.L[j].1 + c.L[j].2 ≤ a.B.length ∧ c.text c.L[j] = a.texts.getD j [] ∧ c.L[j].2 = (a.texts.getD j []).length := by
    intro j hj
    obtain ⟨p, h1, h2, h3, h4, h5⟩ := hS.tx j (by rw [hS.cnt] at hj; exact hj)
    rw [List.getElem?_eq_getElem hj] at h1
    injection h1 with h1
    rw [h1]
    exact ⟨h4, h5, h2, h3⟩
  have hBl : (List.replicate c.low (0 : UInt8) ++ c.B.drop c.low).length = a.B.length := by
    have := hS.len
    simp
    omega
  refine ⟨⟨?_, ?_, ?_, ?_, ?_, ?_⟩, hS.cnt, hBl, ?_, ?_⟩
  · show 16 ≤ (List.replicate c.low (0 : UInt8) ++ c.B.drop c.low).length
    rw [hBl]; exact h.lo
  · show (List.replicate c.low (0 : UInt8) ++ c.B.drop c.low).length ≤ 4096
    rw [hBl]; exact h.hi
  · show 4 + 4 * c.L.length ≤ c.low
    have := hS.cnt
    unfold Ar.fin at hfit
    omega
  · show c.low ≤ (List.replicate c.low (0 : UInt8) ++ c.B.drop c.low).length
    rw [hBl]; omega
  · intro p hp
    show c.low ≤ p.1 ∧ p.1 + p.2 ≤ (List.replicate c.low (0 : UInt8) ++ c.B.drop c.low).length
    rw [hBl]
    obtain ⟨j, hj, rfl⟩ := List.getElem_of_mem hp
    exact ⟨(hget j hj).1, (hget j hj).2.1⟩
  · rw [List.pairwise_iff_getElem]
    intro i j hi hj hij
    refine .inr (.inr (.inr ?_))
    exact hS.ap i j _ _ hij (by have := hS.cnt; show j < a.L.length; have : j < c.L.length := hj; omega) (List.getElem?_eq_getElem hi) (List.getElem?_eq_getElem hj)
  · show List.map (({ c with B := List.replicate c.low 0 ++ c.B.drop c.low } : Ar).text) c.L = a.texts
    apply List.ext_getElem
    · simp [Ar.texts, hS.cnt]
    · intro j h1 h2
      have hj : j < c.L.length := by simpa using h1
      rw [List.getElem_map, htext _ (hget j hj).1, (hget j hj).2.2.1]
      simp [List.getD_eq_getElem?_getD, List.getElem?_eq_getElem h2]
  · show c.low + a.sum = a.B.length
    unfold Ar.sum
    rw [← hsum]
    exact hlow

theorem Apart.symm {p q : Nat × Nat} (h : Apart p q) : Apart q p := by unfold Apart at *; omega

theorem Ar.text_below (a : Ar) (t : List UInt8) (L : List (Nat × Nat)) (l : Nat) (hl : a.low ≤ a.B.length) (ht : t.length ≤ a.low) (p : Nat × Nat) (hp : a.low ≤ p.1) : ({ B := putAt a.B (a.low - t.length) t, low := l, L := L } : Ar).text p = a.text p :=
  piece_far _ _ _ _ _ (by omega) (by omega)

theorem Ar.text_new (a : Ar) (t : List UInt8) (L : List (Nat × Nat)) (l : Nat) (hl : a.low ≤ a.B.length) : ({ B := putAt a.B (a.low - t.length) t, low := l, L := L } : Ar).text (a.low - t.length, t.length) = t :=
  piece_own _ _ _ (by omega)

theorem Ar.Good.stand {a : Ar} (h : a.Good) (k : Nat) (t : List UInt8) (hk : k < a.L.length) (hr : a.fin + t.length ≤ a.low) :
    (a.stand k t).Good ∧ (a.stand k t).texts = a.texts.set k t ∧ (a.stand k t).L.length = a.L.length ∧ (a.stand k t).B.length = a.B.length := by
  have hl := h.l
  have hBl : (putAt a.B (a.low - t.length) t).length = a.B.length := putAt_len (by omega)
  have hLl : (a.L.set k (a.low - t.length, t.length)).length = a.L.length := by simp
  have hmem : ∀ p ∈ a.L.set k (a.low - t.length, t.length), p ∈ a.L ∨ p = (a.low - t.length, t.length) := fun p hp => List.mem_or_eq_of_mem_set hp
  refine ⟨⟨?_, ?_, ?_, ?_, ?_, ?_⟩, ?_, hLl, hBl⟩
  · show 16 ≤ (putAt a.B (a.low - t.length) t).length
    rw [hBl]; exact h.lo
  · show (putAt a.B (a.low - t.length) t).length ≤ 4096
    rw [hBl]; exact h.hi
  · show 4 + 4 * (a.L.set k (a.low - t.length, t.length)).length ≤ a.low - t.length
    rw [hLl]
    unfold Ar.fin at hr
    omega
  · show a.low - t.length ≤ (putAt a.B (a.low - t.length) t).length
    rw [hBl]; omega
  · intro p hp
    show a.low - t.length ≤ p.1 ∧ p.1 + p.2 ≤ (putAt a.B (a.low - t.length) t).length
    rw [hBl]
    rcases hmem p hp with h1 | rfl
    · have := h.inn p h1
      omega
    · show a.low - t.length ≤ a.low - t.length ∧ a.low - t.length + t.length ≤ a.B.length
      omega
  · show (a.L.set k (a.low - t.length, t.length)).Pairwise Apart
    have hd := h.dis
    rw [List.pairwise_iff_getElem] at hd ⊢
    intro i j hi hj hij
    have hi' : i < a.L.length := by omega
    have hj' : j < a.L.length := by omega
    rw [List.getElem_set, List.getElem_set]
    by_cases h1 : k = i
    · rw [if_pos h1, if_neg (by omega)]
      have := h.inn a.L[j] (List.getElem_mem hj')
      unfold Apart
      simp only
      omega
    · rw [if_neg h1]
      by_cases h2 : k = j
      · rw [if_pos h2]
        have := h.inn a.L[i] (List.getElem_mem hi')
        unfold Apart
        simp only
        omega
      · rw [if_neg h2]
        exact hd i j hi' hj' hij
  · apply List.ext_getElem
    · simp [Ar.texts, Ar.stand, Ar.below]
    · intro j h1 h2
      have hj : j < a.L.length := by simpa [Ar.texts] using h2
      simp only [Ar.texts, List.getElem_map, List.getElem_set, Ar.stand, Ar.below]
      by_cases hkj : k = j
      · rw [if_pos hkj, if_pos hkj]
        exact Ar.text_new _ _ _ _ hl
      · rw [if_neg hkj, if_neg hkj]
        exact Ar.text_below _ _ _ _ hl (by omega) _ (h.inn _ (List.getElem_mem hj)).1

theorem Ar.Good.putIn {a : Ar} (h : a.Good) (k : Nat) (t : List UInt8) (hk : k ≤ a.L.length) (hr : a.fin + 4 + t.length ≤ a.low) :
    (a.putIn k t).Good ∧ (a.putIn k t).texts = a.texts.take k ++ t :: a.texts.drop k ∧ (a.putIn k t).L.length = a.L.length + 1 ∧ (a.putIn k t).B.length = a.B.length := by
  have hl := h.l
  have hBl : (putAt a.B (a.low - t.length) t).length = a.B.length := putAt_len (by omega)
  have hLl : (a.L.take k ++ (a.low - t.length, t.length) :: a.L.drop k).length = a.L.length + 1 := by simp; omega
  have hmem : ∀ p ∈ a.L.take k ++ (a.low - t.length, t.length) :: a.L.drop k, p ∈ a.L ∨ p = (a.low - t.length, t.length) := by
    intro p hp
    rw [List.mem_append, List.mem_cons] at hp
    rcases hp with h1 | h1 | h1
    · exact .inl (List.mem_of_mem_take h1)
    · exact .inr h1
    · exact .inl (List.mem_of_mem_drop h1)
  refine ⟨⟨?_, ?_, ?_, ?_, ?_, ?_⟩, ?_, hLl, hBl⟩
  · show 16 ≤ (putAt a.B (a.low - t.length) t).length
    rw [hBl]; exact h.lo
  · show (putAt a.B (a.low - t.length) t).length ≤ 4096
    rw [hBl]; exact h.hi
  · show 4 + 4 * (a.L.take k ++ (a.low - t.length, t.length) :: a.L.drop k).length ≤ a.low - t.length
    rw [hLl]
    unfold Ar.fin at hr
    omega
  · show a.low - t.length ≤ (putAt a.B (a.low - t.length) t).length
    rw [hBl]; omega
  · intro p hp
    show a.low - t.length ≤ p.1 ∧ p.1 + p.2 ≤ (putAt a.B (a.low - t.length) t).length
    rw [hBl]
    rcases hmem p hp with h1 | rfl
    · have := h.inn p h1
      omega
    · show a.low - t.length ≤ a.low - t.length ∧ a.low - t.length + t.length ≤ a.B.length
      omega
  · show (a.L.take k ++ (a.low - t.length, t.length) :: a.L.drop k).Pairwise Apart
    rw [List.pairwise_middle Apart.symm, List.take_append_drop, List.pairwise_cons]
    refine ⟨fun q hq => ?_, h.dis⟩
    have := h.inn q hq
    unfold Apart
    simp only
    omega
  · have hsame : ∀ p ∈ a.L, (a.putIn k t).text p = a.text p := fun p hp => Ar.text_below _ _ _ _ hl (by omega) _ (h.inn _ hp).1
    have hnew : (a.putIn k t).text (a.low - t.length, t.length) = t := Ar.text_new _ _ _ _ hl
    unfold Ar.texts
    show ((a.L.take k ++ (a.low - t.length, t.length) :: a.L.drop k)).map (a.putIn k t).text = _
    rw [List.map_append, List.map_cons, hnew, List.map_congr_left (fun p hp => hsame p (List.mem_of_mem_take hp)), List.map_congr_left (l := a.L.drop k) (fun p hp => hsame p (List.mem_of_mem_drop hp)), List.map_take, List.map_drop]

theorem set_sum (L : List (Nat × Nat)) (k : Nat) (p : Nat × Nat) (hk : k < L.length) : ((L.set k p).map (·.2)).sum + L[k].2 = (L.map (·.2)).sum + p.2 := by
  rw [List.set_eq_take_append_cons_drop, if_pos hk]
  have e : (L.map (·.2)).sum = ((L.take k).map (·.2)).sum + (L[k].2 + ((L.drop (k + 1)).map (·.2)).sum) := by
    conv => lhs; rw [split_at L k hk, List.map_append, List.sum_append, List.map_cons, List.sum_cons]
  rw [e, List.map_append, List.sum_append, List.map_cons, List.sum_cons]
  omega

theorem Ar.Good.shrink {a : Ar} (h : a.Good) (k : Nat) (B : List UInt8) (t : List UInt8) (hk : k < a.L.length) (ht : t.length ≤ a.L[k].2) (hB : B = putAt a.B a.L[k].1 t) :
    ({ a with B := B, L := a.L.set k (a.L[k].1, t.length) } : Ar).Good ∧ ({ a with B := B, L := a.L.set k (a.L[k].1, t.length) } : Ar).texts = a.texts.set k t := by
  subst hB
  have hin := h.inn a.L[k] (List.getElem_mem hk)
  have hBl : (putAt a.B a.L[k].1 t).length = a.B.length := putAt_len (by omega)
  have hd := h.dis
  rw [List.pairwise_iff_getElem] at hd
  refine ⟨⟨?_, ?_, ?_, ?_, ?_, ?_⟩, ?_⟩
  · show 16 ≤ (putAt a.B a.L[k].1 t).length
    rw [hBl]; exact h.lo
  · show (putAt a.B a.L[k].1 t).length ≤ 4096
    rw [hBl]; exact h.hi
  · show 4 + 4 * (a.L.set k (a.L[k].1, t.length)).length ≤ a.low
    rw [List.length_set]; exact h.f
  · show a.low ≤ (putAt a.B a.L[k].1 t).length
    rw [hBl]; exact h.l
  · intro p hp
    show a.low ≤ p.1 ∧ p.1 + p.2 ≤ (putAt a.B a.L[k].1 t).length
    rw [hBl]
    rcases List.mem_or_eq_of_mem_set hp with h1 | rfl
    · exact h.inn p h1
    · show a.low ≤ a.L[k].1 ∧ a.L[k].1 + t.length ≤ a.B.length
      omega
  · show (a.L.set k (a.L[k].1, t.length)).Pairwise Apart
    rw [List.pairwise_iff_getElem]
    intro i j hi hj hij
    have hi' : i < a.L.length := by simpa using hi
    have hj' : j < a.L.length := by simpa using hj
    have := hd i j hi' hj' hij
    rw [List.getElem_set, List.getElem_set]
    by_cases h1 : k = i
    · subst h1
      rw [if_pos rfl, if_neg (by omega)]
      unfold Apart at *
      simp only
      omega
    · rw [if_neg h1]
      by_cases h2 : k = j
      · subst h2
        rw [if_pos rfl]
        unfold Apart at *
        simp only
        omega
      · rw [if_neg h2]
        exact this
  · apply List.ext_getElem
    · simp [Ar.texts]
    · intro j h1 h2
      have hj : j < a.L.length := by simpa [Ar.texts] using h2
      simp only [Ar.texts, List.getElem_map, List.getElem_set]
      by_cases hkj : k = j
      · rw [if_pos hkj, if_pos hkj]
        exact piece_own _ _ _ (by omega)
      · rw [if_neg hkj, if_neg hkj]
        have hap : Apart a.L[k] a.L[j] := by
          rcases Nat.lt_or_ge k j with hlt | hge
          · exact hd k j hk hj hlt
          · exact (hd j k hj hk (by omega)).symm
        unfold Apart at hap
        show ((putAt a.B a.L[k].1 t).drop a.L[j].1).take a.L[j].2 = (a.B.drop a.L[j].1).take a.L[j].2
        by_cases h0 : t.length = 0
        · rw [show putAt a.B a.L[k].1 t = a.B by rw [List.length_eq_zero_iff.1 h0, putAt_nil]]
        · exact piece_far _ _ _ _ _ (by omega) (by omega)

theorem Ar.Good.short {a : Ar} (h : a.Good) (k : Nat) (t : List UInt8) (hk : k < a.L.length) (ht : t.length ≤ (a.L.getD k (0, 0)).2) : (a.short k t).Good ∧ (a.short k t).texts = a.texts.set k t := by
  have e : a.L.getD k (0, 0) = a.L[k] := by simp [List.getD_eq_getElem?_getD, hk]
  unfold Ar.short
  rw [e] at ht ⊢
  exact h.shrink k _ t hk ht rfl

theorem Ar.Good.cut {a : Ar} (h : a.Good) (k : Nat) (hk : k < a.L.length) : (a.cut k).Good ∧ (a.cut k).texts = a.texts.eraseIdx k := by
  have hf := h.f
  have hl := h.l
  unfold Ar.fin at hf
  have hBl : (a.B.take (a.fin - 4) ++ List.replicate 4 0 ++ a.B.drop a.fin).length = a.B.length := by simp [Ar.fin]; omega
  have hLl : (a.L.eraseIdx k).length = a.L.length - 1 := List.length_eraseIdx_of_lt hk
  refine ⟨⟨?_, ?_, ?_, ?_, ?_, ?_⟩, ?_⟩
  · show 16 ≤ (a.B.take (a.fin - 4) ++ List.replicate 4 0 ++ a.B.drop a.fin).length
    rw [hBl]; exact h.lo
  · show (a.B.take (a.fin - 4) ++ List.replicate 4 0 ++ a.B.drop a.fin).length ≤ 4096
    rw [hBl]; exact h.hi
  · show 4 + 4 * (a.L.eraseIdx k).length ≤ a.low
    rw [hLl]
    omega
  · show a.low ≤ (a.B.take (a.fin - 4) ++ List.replicate 4 0 ++ a.B.drop a.fin).length
    rw [hBl]; exact hl
  · intro p hp
    show a.low ≤ p.1 ∧ p.1 + p.2 ≤ (a.B.take (a.fin - 4) ++ List.replicate 4 0 ++ a.B.drop a.fin).length
    rw [hBl]
    exact h.inn p (List.mem_of_mem_eraseIdx hp)
  · exact h.dis.sublist (List.eraseIdx_sublist ..)
  · have hsame : ∀ p ∈ a.L, (a.cut k).text p = a.text p := by
      intro p hp
      have hin := h.inn p hp
      apply List.ext_getElem?
      intro j
      unfold Ar.text
      rw [piece_get, piece_get]
      by_cases hj : j < p.2
      · rw [if_pos hj, if_pos hj]
        show (a.B.take (a.fin - 4) ++ List.replicate 4 0 ++ a.B.drop a.fin)[p.1 + j]? = _
        rw [List.getElem?_append_right (by simp [Ar.fin]; omega), List.getElem?_drop]
        congr 1
        simp [Ar.fin]
        omega
      · rw [if_neg hj, if_neg hj]
    unfold Ar.texts
    show (a.L.eraseIdx k).map (a.cut k).text = _
    rw [List.map_congr_left (fun p hp => hsame p (List.mem_of_mem_eraseIdx hp)), List.eraseIdx_eq_take_drop_succ, List.eraseIdx_eq_take_drop_succ, List.map_append, List.map_take, List.map_drop]

theorem Ar.Good.roomy {a : Ar} (h : a.Good) (n : Nat) (hn : (n : Int) ≤ a.free) : (a.roomy n).Good ∧ (a.roomy n).texts = a.texts ∧ (a.roomy n).L.length = a.L.length ∧ (a.roomy n).fin + n ≤ (a.roomy n).low ∧ (a.roomy n).B.length = a.B.length := by
  unfold Ar.roomy
  by_cases hg : a.gap < n
  · rw [if_pos hg]
    obtain ⟨h1, h2, h3, h4, h5⟩ := h.compact
    refine ⟨h1, h4, h2, ?_, h3⟩
    unfold Ar.free at hn
    unfold Ar.fin at *
    omega
  · rw [if_neg hg]
    refine ⟨h, rfl, rfl, ?_, rfl⟩
    unfold Ar.gap at hg
    omega

theorem Ar.Good.long {a : Ar} (h : a.Good) (k : Nat) (t : List UInt8) (hk : k < a.L.length) (hf : (t.length : Int) - (a.L.getD k (0, 0)).2 ≤ a.free) : (a.long k t).Good ∧ (a.long k t).texts = a.texts.set k t ∧ (a.long k t).L.length = a.L.length ∧ (a.long k t).B.length = a.B.length := by
  have e : a.L.getD k (0, 0) = a.L[k] := by simp [List.getD_eq_getElem?_getD, hk]
  unfold Ar.long
  rw [e] at hf ⊢
  by_cases hg : a.gap < t.length
  · rw [if_pos hg]
    have hs := h.shrink k a.B [] hk (Nat.zero_le _) (putAt_nil _ _).symm
    simp only [List.length_nil] at hs
    have hsum := set_sum a.L k (a.L[k].1, 0) hk
    generalize hb : ({ a with B := a.B, L := a.L.set k (a.L[k].1, 0) } : Ar) = b at *
    have hb1 : b.L.length = a.L.length := by rw [← hb]; simp
    have hb2 : b.B.length = a.B.length := by rw [← hb]
    have hb3 : b.sum + a.L[k].2 = a.sum := by rw [← hb]; exact hsum
    obtain ⟨h1, h2, h3, h4, h5⟩ := hs.1.compact
    have := h1.stand k t (by omega) (by unfold Ar.free at hf; unfold Ar.fin at *; omega)
    rw [h4, hs.2, List.set_set] at this
    exact ⟨this.1, this.2.1, by omega, by omega⟩
  · rw [if_neg hg]
    have := h.stand k t hk (by unfold Ar.gap at hg; omega)
    exact this

theorem Ar.Good.new {n : Nat} (h1 : 16 ≤ n) (h2 : n ≤ 4096) : (Ar.new n).Good :=
  ⟨by simp [Ar.new]; omega, by simp [Ar.new]; omega, by show 4 + 4 * 0 ≤ n; omega, by simp [Ar.new], fun p hp => by simp [Ar.new] at hp, List.Pairwise.nil⟩

theorem two_two (X : List UInt8) (h : X.length = 4) : ∃ x y : Nat, X = be 2 x ++ be 2 y := by
  refine ⟨un (X.take 2), un (X.drop 2), ?_⟩
  rw [be_un 2 _ (by simp; omega), be_un 2 _ (by simp; omega), List.take_append_drop]

theorem enc_cut (a : Ar) (k : Nat) : a.enc = (be 2 a.L.length ++ (be 2 a.low ++ ents (a.L.take k))) ++ (ents (a.L.drop k) ++ a.B.drop a.fin) := by
  have e : ents a.L = ents (a.L.take k) ++ ents (a.L.drop k) := by rw [← ents_append, List.take_append_drop]
  unfold Ar.enc
  rw [e]
  simp

theorem front_len (a : Ar) (k : Nat) (hk : k ≤ a.L.length) : (be 2 a.L.length ++ (be 2 a.low ++ ents (a.L.take k))).length = 4 + 4 * k := by
  simp only [List.length_append, be_length, ents_length, List.length_take, Nat.min_eq_left hk]
  omega

/-- The directory's end moves on by one place. -/
theorem Ar.shift (a : Ar) (k : Nat) (hk : k ≤ a.L.length) :
    ∃ x y, setTwo (putAt a.enc (8 + 4 * k) ((a.enc.drop (4 + 4 * k)).take (4 * (a.L.length - k)))) 0 (a.L.length + 1) = ({ a with L := a.L.take k ++ (x, y) :: a.L.drop k } : Ar).enc ∨ a.B.length < a.fin + 4 := by
  by_cases h : a.B.length < a.fin + 4
  · exact ⟨0, 0, .inr h⟩
  have hE : (ents (a.L.drop k)).length = 4 * (a.L.length - k) := by simp [ents_length]
  have hR : 4 ≤ (a.B.drop a.fin).length := by simp; omega
  obtain ⟨x, y, hX⟩ := two_two ((ents (a.L.drop k) ++ a.B.drop a.fin).take 4) (by simp at hR ⊢; omega)
  refine ⟨x, y, .inl ?_⟩
  have e := enc_cut a k
  have hp := front_len a k hk
  have e1 : (a.enc.drop (4 + 4 * k)).take (4 * (a.L.length - k)) = ents (a.L.drop k) := by
    rw [e, ← hp, List.drop_left, ← hE, List.take_left]
  have e2 : putAt a.enc (8 + 4 * k) (ents (a.L.drop k)) = be 2 a.L.length ++ (be 2 a.low ++ (ents (a.L.take k) ++ (be 2 x ++ (be 2 y ++ (ents (a.L.drop k) ++ (a.B.drop a.fin).drop 4))))) := by
    rw [e, putAt_app _ _ _ _ (by omega), hp, show 8 + 4 * k - (4 + 4 * k) = 4 by omega]
    unfold putAt
    rw [hX, Nat.add_comm 4, ← List.drop_drop, List.drop_left]
    simp
  rw [e1, e2]
  have e3 := setTwo_at [] (be 2 a.low ++ (ents (a.L.take k) ++ (be 2 x ++ (be 2 y ++ (ents (a.L.drop k) ++ (a.B.drop a.fin).drop 4))))) (a.L.length + 1) a.L.length 0 rfl
  simp only [List.nil_append] at e3
  rw [e3]
  unfold Ar.enc Ar.fin
  simp only [List.length_append, List.length_cons, List.length_take, List.length_drop, Nat.min_eq_left hk, ents_append, ents, List.drop_drop, List.append_assoc]
  rw [show k + (a.L.length - k + 1) = a.L.length + 1 by omega, show 4 + 4 * a.L.length + 4 = 4 + 4 * (a.L.length + 1) by omega]

theorem Ar.unshift (a : Ar) (k : Nat) (hk : k < a.L.length) (hf : a.fin ≤ a.B.length) :
    setTwo (putAt (putAt a.enc (4 + 4 * k) ((a.enc.drop (8 + 4 * k)).take (4 * (a.L.length - 1 - k)))) (a.fin - 4) (List.replicate 4 0)) 0 (a.L.length - 1) = (a.cut k).enc := by
  have e0 := enc_split a k hk
  have hp := front_len a k (by omega)
  have hE : (ents (a.L.drop (k + 1))).length = 4 * (a.L.length - 1 - k) := by simp [ents_length]; omega
  have e1 : (a.enc.drop (8 + 4 * k)).take (4 * (a.L.length - 1 - k)) = ents (a.L.drop (k + 1)) := by
    have : a.enc = ((be 2 a.L.length ++ (be 2 a.low ++ ents (a.L.take k))) ++ (be 2 a.L[k].1 ++ be 2 a.L[k].2)) ++ (ents (a.L.drop (k + 1)) ++ a.B.drop a.fin) := by rw [e0]; simp
    rw [this, show 8 + 4 * k = ((be 2 a.L.length ++ (be 2 a.low ++ ents (a.L.take k))) ++ (be 2 a.L[k].1 ++ be 2 a.L[k].2)).length by rw [List.length_append, hp]; simp [be_length]; omega, List.drop_left, ← hE, List.take_left]
  have e2 : ∃ Y : List UInt8, Y.length = 4 ∧ putAt a.enc (4 + 4 * k) (ents (a.L.drop (k + 1))) = (be 2 a.L.length ++ (be 2 a.low ++ (ents (a.L.take k) ++ ents (a.L.drop (k + 1))))) ++ (Y ++ a.B.drop a.fin) := by
    refine ⟨(be 2 a.L[k].1 ++ (be 2 a.L[k].2 ++ ents (a.L.drop (k + 1)))).drop (ents (a.L.drop (k + 1))).length, by simp [be_length]; omega, ?_⟩
    rw [e0, putAt_app _ _ _ _ (by omega), hp, Nat.sub_self]
    unfold putAt
    have : be 2 a.L[k].1 ++ (be 2 a.L[k].2 ++ (ents (a.L.drop (k + 1)) ++ a.B.drop a.fin)) = (be 2 a.L[k].1 ++ (be 2 a.L[k].2 ++ ents (a.L.drop (k + 1)))) ++ a.B.drop a.fin := by simp
    rw [Nat.zero_add, this, List.drop_append_of_le_length (by simp [be_length]; omega)]
    simp
  obtain ⟨Y, hY, e2⟩ := e2
  have hf' : (be 2 a.L.length ++ (be 2 a.low ++ (ents (a.L.take k) ++ ents (a.L.drop (k + 1))))).length = a.fin - 4 := by
    simp only [List.length_append, be_length, ents_length, List.length_take, List.length_drop, Nat.min_eq_left (Nat.le_of_lt hk)]
    unfold Ar.fin
    omega
  have e3 : putAt ((be 2 a.L.length ++ (be 2 a.low ++ (ents (a.L.take k) ++ ents (a.L.drop (k + 1))))) ++ (Y ++ a.B.drop a.fin)) (a.fin - 4) (List.replicate 4 0) = be 2 a.L.length ++ (be 2 a.low ++ (ents (a.L.take k) ++ (ents (a.L.drop (k + 1)) ++ (List.replicate 4 0 ++ a.B.drop a.fin)))) := by
    rw [putAt_app _ _ _ _ (by omega), hf', Nat.sub_self]
    unfold putAt
    rw [List.length_replicate, Nat.zero_add, ← hY, List.drop_left]
    simp
  rw [e1, e2, e3]
  have e4 := setTwo_at [] (be 2 a.low ++ (ents (a.L.take k) ++ (ents (a.L.drop (k + 1)) ++ (List.replicate 4 0 ++ a.B.drop a.fin)))) (a.L.length - 1) a.L.length 0 rfl
  simp only [List.nil_append] at e4
  rw [e4]
  have hx : (a.L.eraseIdx k) = a.L.take k ++ a.L.drop (k + 1) := List.eraseIdx_eq_take_drop_succ ..
  have hl : (a.L.eraseIdx k).length = a.L.length - 1 := List.length_eraseIdx_of_lt hk
  have hd : (a.B.take (a.fin - 4) ++ List.replicate 4 0 ++ a.B.drop a.fin).drop (a.fin - 4) = List.replicate 4 0 ++ a.B.drop a.fin := by
    have hl0 : (a.B.take (a.fin - 4)).length = a.fin - 4 := by simp; omega
    rw [List.append_assoc, List.drop_append, hl0, Nat.sub_self, List.drop_of_length_le (by omega)]
    rfl
  have hc : (a.cut k).fin = a.fin - 4 := by
    unfold Ar.cut Ar.fin
    simp only [hl]
    omega
  unfold Ar.enc
  rw [hc]
  unfold Ar.cut
  simp only [hl, hd]
  rw [hx, ents_append]
  simp only [List.append_assoc]

theorem Ar.below_enc (a : Ar) (t : List UInt8) (hl : a.low ≤ a.B.length) (h6 : a.low < 65536) (hr : a.fin + t.length ≤ a.low) : belowL a.enc t = (a.below t).enc := by
  unfold belowL
  rw [a.u2_low h6, a.put_at _ _ (by omega) (by omega)]
  exact Ar.set_low { a with B := putAt a.B (a.low - t.length) t } _

theorem Ar.enc_congr (a : Ar) (B B' : List UInt8) (h : B.drop a.fin = B'.drop a.fin) : ({ a with B := B } : Ar).enc = ({ a with B := B' } : Ar).enc := by
  show be 2 a.L.length ++ (be 2 a.low ++ (ents a.L ++ B.drop a.fin)) = be 2 a.L.length ++ (be 2 a.low ++ (ents a.L ++ B'.drop a.fin))
  rw [h]

/-- The bytes between the directory and the texts are wiped. -/
theorem Ar.wipe (a : Ar) (hf : a.fin ≤ a.low) (hl : a.low ≤ a.B.length) : putAt a.enc a.fin (List.replicate (a.low - a.fin) 0) = ({ a with B := List.replicate a.low 0 ++ a.B.drop a.low } : Ar).enc := by
  rw [a.put_at _ _ (Nat.le_refl _) (by omega)]
  apply Ar.enc_congr
  rw [putAt_drop _ _ _ _ (Nat.le_refl _) (by omega), Nat.sub_self, List.drop_append_of_le_length (by simp; omega), List.drop_replicate]
  unfold putAt
  rw [List.drop_drop, List.length_replicate, Nat.zero_add, show a.fin + (a.low - a.fin) = a.low by omega]
  simp

end Go.Proofs.Ytienlhnbmobinaa

namespace Go.Proofs.Ytienlhnbmobinaa
set_option linter.unusedVariables false
set_option linter.unusedSimpArgs false

/-- The area that bytes are, if they are one. -/
def parse (l : List UInt8) : Ar := { B := l, low := u2 l 2, L := (List.range (u2 l 0)).map fun i => (u2 l (4 + 4 * i), u2 l (6 + 4 * i)) }
theorem parse_n (l : List UInt8) : (parse l).L.length = u2 l 0 := by simp [parse]
theorem parse_get (l : List UInt8) (i : Nat) (h : i < (parse l).L.length) : (parse l).L[i] = (u2 l (4 + 4 * i), u2 l (6 + 4 * i)) := by simp [parse]
def FineAt (l : List UInt8) (i : Nat) : Prop := u2 l 2 ≤ u2 l (4 + 4 * i) ∧ u2 l (4 + 4 * i) + u2 l (6 + 4 * i) ≤ l.length
def ApartAt (l : List UInt8) (i j : Nat) : Prop := u2 l (6 + 4 * i) = 0 ∨ u2 l (6 + 4 * j) = 0 ∨ u2 l (4 + 4 * i) + u2 l (6 + 4 * i) ≤ u2 l (4 + 4 * j) ∨ u2 l (4 + 4 * j) + u2 l (6 + 4 * j) ≤ u2 l (4 + 4 * i)
theorem good_parse (l : List UInt8) : (parse l).Good ↔ 16 ≤ l.length ∧ l.length ≤ 4096 ∧ 4 + 4 * u2 l 0 ≤ u2 l 2 ∧ u2 l 2 ≤ l.length ∧ ∀ i, i < u2 l 0 → FineAt l i ∧ ∀ j, j < i → ApartAt l i j := by
  constructor
  · intro h
    refine ⟨h.lo, h.hi, ?_, h.l, fun i hi => ?_⟩
    · have := h.f
      unfold Ar.fin at this
      rw [parse_n] at this
      exact this
    · have hi' : i < (parse l).L.length := by rw [parse_n]; exact hi
      have h1 := h.inn _ (List.getElem_mem hi')
      rw [parse_get] at h1
      refine ⟨h1, fun j hj => ?_⟩
      have hd := h.dis
      rw [List.pairwise_iff_getElem] at hd
      have h2 := hd j i (by omega) hi' hj
      rw [parse_get, parse_get] at h2
      exact h2.symm
  · rintro ⟨h1, h2, h3, h4, h5⟩
    refine ⟨h1, h2, ?_, h4, fun p hp => ?_, ?_⟩
    · unfold Ar.fin
      rw [parse_n]
      exact h3
    · obtain ⟨i, hi, rfl⟩ := List.getElem_of_mem hp
      rw [parse_get]
      exact (h5 i (by rw [parse_n] at hi; exact hi)).1
    · rw [List.pairwise_iff_getElem]
      intro i j hi hj hij
      rw [parse_get, parse_get]
      have := (h5 j (by rw [parse_n] at hj; exact hj)).2 i hij
      exact Apart.symm this
/-- Bytes that are an area's are written as themselves. -/
theorem parse_enc (l : List UInt8) (h : 4 + 4 * u2 l 0 ≤ l.length) : (parse l).enc = l := by
  have e2 : ∀ k, k + 1 < l.length → be 2 (u2 l k) = (l.drop k).take 2 := by
    intro k hk
    rw [be2]
    have h0 := (l.getD k 0).toNat_lt
    have h1 := (l.getD (k + 1) 0).toNat_lt
    simp only [Nat.reducePow] at h0 h1
    have e : u2 l k / 256 = (l.getD k 0).toNat := by unfold u2; omega
    have e' : UInt8.ofNat (u2 l k) = l.getD (k + 1) 0 := by
      rw [← UInt8.toNat_inj, u8_ofNat]
      unfold u2
      omega
    rw [e, e', UInt8.ofNat_toNat]
    rw [List.drop_eq_getElem_cons (by omega), List.take_succ_cons, List.drop_eq_getElem_cons hk, List.take_succ_cons, List.take_zero]
    simp [List.getD_eq_getElem?_getD, List.getElem?_eq_getElem hk, List.getElem?_eq_getElem (show k < l.length by omega)]
  have e3 : ∀ n, 4 + 4 * n ≤ l.length → ents ((List.range n).map fun i => (u2 l (4 + 4 * i), u2 l (6 + 4 * i))) = (l.drop 4).take (4 * n) := by
    intro n
    induction n with
    | zero => intro _; rfl
    | succ n ih =>
      intro hn
      rw [List.range_succ, List.map_append, ents_append, ih (by omega)]
      show _ ++ (be 2 _ ++ (be 2 _ ++ [])) = _
      rw [e2 _ (by omega), e2 _ (by omega), List.append_nil]
      have t : ∀ (x : List UInt8) a b, x.take (a + b) = x.take a ++ (x.drop a).take b := fun x a b => List.take_add
      rw [show 4 * (n + 1) = 4 * n + (2 + 2) by omega, t, t, List.drop_drop, List.drop_drop, show 4 + 4 * n + 2 = 6 + 4 * n by omega]
  unfold Ar.enc
  rw [parse_n]
  show be 2 (u2 l 0) ++ (be 2 (u2 l 2) ++ (ents ((List.range (u2 l 0)).map fun i => (u2 l (4 + 4 * i), u2 l (6 + 4 * i))) ++ l.drop (parse l).fin)) = l
  rw [e2 0 (by omega), e2 2 (by omega), e3 _ h]
  have hfin : (parse l).fin = 4 + 4 * u2 l 0 := by unfold Ar.fin; rw [parse_n]
  rw [hfin, ← List.drop_drop, List.take_append_drop, show (l.drop 4) = (l.drop 2).drop 2 by rw [List.drop_drop], List.take_append_drop]
  exact List.take_append_drop 2 l
/-- What an area's bytes are, is that area, but for the bytes ahead. -/
theorem parse_of_enc {a : Ar} (h : a.Good) : (parse a.enc).L = a.L ∧ (parse a.enc).low = a.low ∧ (parse a.enc).Good := by
  have hf := h.f
  have hl := h.l
  have hh := h.hi
  have hn : a.L.length < 65536 := by unfold Ar.fin at hf; omega
  have e1 : (parse a.enc).L = a.L := by
    apply List.ext_getElem
    · rw [parse_n, a.u2_n hn]
    · intro i h1 h2
      have hm := List.getElem_mem h2
      have hb := h.inn _ hm
      rw [parse_get, a.u2_from i h2 (by omega), a.u2_size i h2 (by omega)]
  have e2 : (parse a.enc).low = a.low := a.u2_low (by omega)
  have e3 : (parse a.enc).B.length = a.B.length := a.enc_length (by omega)
  refine ⟨e1, e2, by rw [e3]; exact h.lo, by rw [e3]; exact hh, ?_, by rw [e2, e3]; exact hl, ?_, by rw [e1]; exact h.dis⟩
  · unfold Ar.fin at *
    rw [e1, e2]
    exact hf
  · rw [e1, e2, e3]
    exact h.inn

end Go.Proofs.Ytienlhnbmobinaa

namespace Go.Proofs.Ytienlhnbmobinaa
set_option linter.unusedVariables false
set_option linter.unusedSimpArgs false

theorem Ar.Good.put_no {a : Ar} (k : Int) (t : List UInt8) (h : (a.put k t).2 ≠ 0) : (a.put k t).1 = a := by
  unfold Ar.put at *
  split at h
  · rename_i h1; rw [if_pos h1]
  · rename_i h1
    rw [if_neg h1]
    split at h
    · rename_i h2; rw [if_pos h2]
    · exact absurd rfl h
theorem Ar.put_ok {a : Ar} (k : Int) (t : List UInt8) : (a.put k t).2 = 0 ↔ (0 ≤ k ∧ k ≤ (a.L.length : Int)) ∧ (t.length : Int) + 4 ≤ a.free := by
  unfold Ar.put
  by_cases h1 : k < 0 ∨ (a.L.length : Int) < k
  · rw [if_pos h1]
    constructor
    · intro h; revert h; show (2 : Int) = 0 → _; omega
    · intro h; omega
  · rw [if_neg h1]
    by_cases h2 : a.free < t.length + 4
    · rw [if_pos h2]
      constructor
      · intro h; revert h; show (4 : Int) = 0 → _; omega
      · intro h; omega
    · rw [if_neg h2]
      exact ⟨fun _ => ⟨by omega, by omega⟩, fun _ => rfl⟩
theorem Ar.Good.put_yes {a : Ar} (h : a.Good) (k : Nat) (t : List UInt8) (hk : (a.put (k : Int) t).2 = 0) :
    (a.put (k : Int) t).1.Good ∧ (a.put (k : Int) t).1.texts = a.texts.take k ++ t :: a.texts.drop k ∧ (a.put (k : Int) t).1.L.length = a.L.length + 1 ∧ (a.put (k : Int) t).1.B.length = a.B.length := by
  obtain ⟨h1, h2⟩ := (Ar.put_ok _ _).1 hk
  have e : (a.put (k : Int) t).1 = (a.roomy (t.length + 4)).putIn k t := by
    unfold Ar.put
    rw [if_neg (by omega), if_neg (by omega), Int.toNat_natCast]
  rw [e]
  obtain ⟨r1, r2, r3, r4, r5⟩ := h.roomy (t.length + 4) (by omega)
  have := r1.putIn k t (by omega) (by omega)
  rw [r2, r3, r5] at this
  exact this
theorem Ar.Good.put {a : Ar} (h : a.Good) (k : Int) (t : List UInt8) : (a.put k t).1.Good ∧ (a.put k t).1.B.length = a.B.length := by
  by_cases h0 : (a.put k t).2 = 0
  · have hk := ((Ar.put_ok _ _).1 h0).1.1
    obtain ⟨n, rfl⟩ := Int.eq_ofNat_of_zero_le hk
    have := h.put_yes n t h0
    exact ⟨this.1, this.2.2.2⟩
  · rw [Ar.Good.put_no k t h0]
    exact ⟨h, rfl⟩
theorem Ar.Good.set_no {a : Ar} (k : Int) (t : List UInt8) (h : (a.set k t).2 ≠ 0) : (a.set k t).1 = a := by
  unfold Ar.set at *
  split at h
  · rename_i h1; rw [if_pos h1]
  · rename_i h1
    rw [if_neg h1]
    split at h
    · exact absurd rfl h
    · rename_i h2
      rw [if_neg h2]
      split at h
      · rename_i h3; rw [if_pos h3]
      · exact absurd rfl h
theorem Ar.set_ok {a : Ar} (k : Int) (t : List UInt8) : (a.set k t).2 = 0 ↔ (0 ≤ k ∧ k < (a.L.length : Int)) ∧ (t.length ≤ (a.L.getD k.toNat (0, 0)).2 ∨ (t.length : Int) - (a.L.getD k.toNat (0, 0)).2 ≤ a.free) := by
  unfold Ar.set
  by_cases h1 : 0 ≤ k ∧ k < (a.L.length : Int)
  · rw [if_neg (fun h => h h1)]
    by_cases h2 : t.length ≤ (a.L.getD k.toNat (0, 0)).2
    · rw [if_pos h2]
      exact ⟨fun _ => ⟨h1, .inl h2⟩, fun _ => rfl⟩
    · rw [if_neg h2]
      by_cases h3 : a.free < (t.length : Int) - (a.L.getD k.toNat (0, 0)).2
      · rw [if_pos h3]
        constructor
        · intro h; revert h; show (4 : Int) = 0 → _; omega
        · intro h; omega
      · rw [if_neg h3]
        exact ⟨fun _ => ⟨h1, .inr (by omega)⟩, fun _ => rfl⟩
  · rw [if_pos h1]
    constructor
    · intro h; revert h; show (3 : Int) = 0 → _; omega
    · intro h; exact absurd h.1 h1
theorem Ar.Good.set_yes {a : Ar} (h : a.Good) (k : Nat) (t : List UInt8) (hk : (a.set (k : Int) t).2 = 0) :
    (a.set (k : Int) t).1.Good ∧ (a.set (k : Int) t).1.texts = a.texts.set k t ∧ (a.set (k : Int) t).1.L.length = a.L.length ∧ (a.set (k : Int) t).1.B.length = a.B.length := by
  obtain ⟨h1, h2⟩ := (Ar.set_ok _ _).1 hk
  rw [Int.toNat_natCast] at h2
  have hkl : k < a.L.length := by omega
  have e : (a.set (k : Int) t).1 = if t.length ≤ (a.L.getD k (0, 0)).2 then a.short k t else a.long k t := by
    unfold Ar.set
    rw [if_neg (fun h => h h1), Int.toNat_natCast]
    by_cases h3 : t.length ≤ (a.L.getD k (0, 0)).2
    · rw [if_pos h3, if_pos h3]
    · rw [if_neg h3, if_neg h3, if_neg (by omega)]
  rw [e]
  by_cases h3 : t.length ≤ (a.L.getD k (0, 0)).2
  · rw [if_pos h3]
    have := h.short k t hkl h3
    have hin := h.inn _ (List.getElem_mem hkl)
    have hgd : a.L.getD k (0, 0) = a.L[k] := by simp [List.getD_eq_getElem?_getD, hkl]
    refine ⟨this.1, this.2, by simp [Ar.short], ?_⟩
    show (putAt a.B (a.L.getD k (0, 0)).1 t).length = _
    rw [hgd] at h3 ⊢
    exact putAt_len (by omega)
  · rw [if_neg h3]
    exact h.long k t hkl (by omega)
theorem Ar.Good.set {a : Ar} (h : a.Good) (k : Int) (t : List UInt8) : (a.set k t).1.Good ∧ (a.set k t).1.B.length = a.B.length := by
  by_cases h0 : (a.set k t).2 = 0
  · have hk := ((Ar.set_ok _ _).1 h0).1.1
    obtain ⟨n, rfl⟩ := Int.eq_ofNat_of_zero_le hk
    have := h.set_yes n t h0
    exact ⟨this.1, this.2.2.2⟩
  · rw [Ar.Good.set_no k t h0]
    exact ⟨h, rfl⟩
theorem Ar.Good.remove_yes {a : Ar} (h : a.Good) (k : Nat) (hk : k < a.L.length) : (a.remove (k : Int)).1 = a.cut k ∧ (a.remove (k : Int)).2 = 0 ∧ (a.cut k).Good ∧ (a.cut k).texts = a.texts.eraseIdx k ∧ (a.cut k).B.length = a.B.length := by
  unfold Ar.remove
  rw [if_neg (by omega), Int.toNat_natCast]
  have := h.cut k hk
  refine ⟨rfl, rfl, this.1, this.2, ?_⟩
  have hf := h.f
  have hl := h.l
  show (a.B.take (a.fin - 4) ++ List.replicate 4 0 ++ a.B.drop a.fin).length = _
  unfold Ar.fin at *
  simp
  omega
theorem Ar.Good.remove {a : Ar} (h : a.Good) (k : Int) : (a.remove k).1.Good ∧ (a.remove k).1.B.length = a.B.length := by
  by_cases hk : 0 ≤ k ∧ k < (a.L.length : Int)
  · obtain ⟨n, rfl⟩ := Int.eq_ofNat_of_zero_le hk.1
    have := h.remove_yes n (by omega)
    rw [this.1]
    exact ⟨this.2.2.1, this.2.2.2.2⟩
  · have e : a.remove k = (a, 3) := by unfold Ar.remove; rw [if_pos hk]
    rw [e]
    exact ⟨h, rfl⟩
theorem Ar.Good.free_texts {a : Ar} (h : a.Good) : a.free = (a.B.length : Int) - 4 - 4 * (a.texts.length : Int) - ((a.texts.map List.length).sum : Nat) ∧ 0 ≤ a.free ∧ a.gap ≤ a.free := by
  have h1 := h.texts_sum
  have h2 := h.sum_le
  have h3 := h.f
  have h4 : a.texts.length = a.L.length := by simp [Ar.texts]
  rw [h1]
  unfold Ar.free Ar.gap Ar.sum Ar.fin at *
  omega
theorem Ar.enc_new (n : Nat) (h : 4 ≤ n) : setTwo (List.replicate n 0) 2 n = (Ar.new n).enc := by
  unfold setTwo Ar.enc Ar.new Ar.fin
  obtain ⟨m, rfl⟩ : ∃ m, n = m + 4 := ⟨n - 4, by omega⟩
  simp [ents, be]

theorem alive_1 : ((Ar.new 20).put (0 : Nat) [97, 98]).2 = 0 := by decide
theorem alive_2 : ((Ar.new 20).put (0 : Nat) [97, 98]).1.enc = [0, 1, 0, 18, 0, 18, 0, 2, 0, 0, 0, 0, 0, 0, 0, 0, 0, 0, 97, 98] := by decide
theorem alive_3 : (((Ar.new 20).put (0 : Nat) [97, 98]).1.put (0 : Nat) [49, 50, 51, 52, 53, 54, 55]).2 = 4 := by decide
theorem alive_4 : (((Ar.new 20).put (0 : Nat) [97, 98]).1.set (0 : Nat) [120]).2 = 0 := by decide
theorem alive_5 : (((Ar.new 20).put (0 : Nat) [97, 98]).1.set (0 : Nat) [120]).1.texts = [[120]] := by decide
theorem alive_6 : (((Ar.new 20).put (0 : Nat) [97, 98]).1.set (0 : Nat) [120]).1.free = 11 := by decide
theorem alive_7 : (((Ar.new 20).put (0 : Nat) [97, 98]).1.set (0 : Nat) [120]).1.gap = 10 := by decide

end Go.Proofs.Ytienlhnbmobinaa

namespace Go.Proofs.Ytienlhnbmobinaa
open Go.RowKit
set_option linter.unusedVariables false
set_option linter.unusedSimpArgs false

/-- An area: its block has the row of bytes in another block. -/
structure AreaIn (w : World) (gA gB cap : Nat) (l : List UInt8) : Prop where
  own : w.heap[gA]? = some (.cells #[.slice (some ⟨gB, 0, none⟩) l.length cap] 185 (0, 0))
  row : RowAt w gB l
  ne : gA ≠ gB
theorem i64_or_nat (a b : Nat) (ha : a < 9223372036854775808) (hb : b < 9223372036854775808) : bits .or .i64 (a : Int) (b : Int) = ((a ||| b : Nat) : Int) := by
  have hx : a ||| b < 2 ^ 63 := Nat.or_lt_two_pow (by omega) (by omega)
  show IntKind.i64.wrap ((BitVec.ofInt 64 (a : Int) ||| BitVec.ofInt 64 (b : Int)).toNat : Int) = _
  rw [BitVec.toNat_or, ofInt_u64 a (by omega), ofInt_u64 b (by omega)]
  exact IntWalk.i64_in _ ⟨by omega, by omega⟩

theorem or_i64 (x u : Nat) (hx : x < 256) (hu : u < 256) : bits .or .i64 ((x : Int) * 256) (u : Int) = ((256 * x + u : Nat) : Int) := by
  have e : (x : Int) * 256 = ((256 * x : Nat) : Int) := by omega
  rw [e, i64_or_nat _ _ (by omega) (by omega)]
  have h := Nat.two_pow_add_eq_or_of_lt (i := 8) (b := u) (by simpa using hu) x
  simp only [Nat.reducePow] at h
  rw [← h]

set_option maxHeartbeats 1000000 in
theorem slotGet_any (gA gB cap k : Nat) (l : List UInt8) (w : World) (hk : k + 1 < l.length) (hl : l.length ≤ 100000) (h : AreaIn w gA gB cap l) :
    Calls Try.prog 173 #[.pointer (some ⟨gA, 0, none⟩), .int .i64 k] w fun e w' => e = .returned (.int .i64 (u2 l k)) ∧ Below w.heap.size w w' := by
  have c0 := ext_cell (w := w) (b := gA) (o := 0) (by rw [blk_cell h.own]; rfl) (blk_lt h.own)
  have r0 := ext_cell (h.row.cell k (by omega)) h.row.lt
  have r1 := ext_cell (h.row.cell (k + 1) hk) h.row.lt
  have e0 : l.getD k 0 = l[k] := by simp [List.getD_eq_getElem?_getD, show k < l.length by omega]
  have e1 : l.getD (k + 1) 0 = l[k + 1] := by simp [List.getD_eq_getElem?_getD, hk]
  have hu : u2 l k = 256 * (l[k]'(by omega)).toNat + (l[k + 1]).toNat := by unfold u2; rw [e0, e1]
  have b0 := (l[k]'(by omega)).toNat_lt
  have b1 := (l[k + 1]).toNat_lt
  simp only [Nat.reducePow] at b0 b1
  clear e0 e1 h
  generalize (l[k]'(by omega)).toNat = A at *
  generalize (l[k + 1]).toNat = B at *
  have Hu := Lib.hid hu
  have i1 : (k : Int) < (l.length : Int) := by omega
  have i2 : (k : Int) + 1 < (l.length : Int) := by omega
  have wk : IntKind.i64.wrap ((k : Int) + 1) = ((k + 1 : Nat) : Int) := by rw [show ((k + 1 : Nat) : Int) = (k : Int) + 1 by omega]; exact IntWalk.i64_in _ ⟨by omega, by omega⟩
  have wA : IntKind.i64.wrap (A : Int) = A := IntWalk.i64_in _ ⟨by omega, by omega⟩
  have wB : IntKind.i64.wrap (B : Int) = B := IntWalk.i64_in _ ⟨by omega, by omega⟩
  clear hu
  go_enter Try.func173, Try.ntmps173
  go_upto_region 1 with fail
  refine wp_region_ext w.heap.size (by kernel_rfl) (by kernel_rfl) ?_
  repeat (go_big_quiet_step (fail))
  refine wpQuiet_nil ?_
  rintro _ ⟨X, rfl⟩
  go_wp2_with fail
  go_ret
  exact ⟨ret_int (by rw [or_i64 A B b0 b1, Hu.out]), X.below⟩

end Go.Proofs.Ytienlhnbmobinaa

namespace Go.Proofs.Ytienlhnbmobinaa
open Go.RowKit
set_option linter.unusedVariables false
set_option linter.unusedSimpArgs false

theorem AreaIn.below {w w' : World} {gA gB cap : Nat} {l : List UInt8} (h : AreaIn w gA gB cap l) (hb : Below w.heap.size w w') : AreaIn w' gA gB cap l :=
  ⟨(hb.block _ (blk_lt h.own)).trans h.own, h.row.below hb, h.ne⟩

theorem slotNone_nil (w : World) : Calls Try.prog 157 #[.pointer none] w fun e w' => e = .returned (.bool true) ∧ Below w.heap.size w w' := by
  go_enter Try.func157, Try.ntmps157
  go_wp2_with fail
  go_ret
  exact ⟨rfl, Below.refl _ _⟩

theorem slotNone_any (gA gB cap : Nat) (l : List UInt8) (w : World) (hl : 0 < l.length) (h : AreaIn w gA gB cap l) :
    Calls Try.prog 157 #[.pointer (some ⟨gA, 0, none⟩)] w fun e w' => e = .returned (.bool false) ∧ Below w.heap.size w w' := by
  have c0 := blk_cell h.own 0
  have e0 : ((l.length : Int) == 0) = false := by rw [beq_eq_false_iff_ne]; omega
  have e1 : ¬ l = [] := by intro h0; rw [h0] at hl; simp at hl
  clear h
  go_enter Try.func157, Try.ntmps157
  go_wp2_with fail
  go_ret
  exact ⟨rfl, Below.refl _ _⟩

set_option maxHeartbeats 1000000 in
theorem slotLen_any (gA gB cap : Nat) (l : List UInt8) (w : World) (hk : 4 ≤ l.length) (hl : l.length ≤ 100000) (h : AreaIn w gA gB cap l) :
    Calls Try.prog 110 #[.pointer (some ⟨gA, 0, none⟩)] w fun e w' => e = .returned (.int .i64 (u2 l 0)) ∧ Below w.heap.size w w' := by
  have N := Lib.hid fun W hW => slotNone_any gA gB cap l W (by omega) hW
  have G := Lib.hid fun W hW => slotGet_any gA gB cap 0 l W (by omega) hl hW
  have H := Lib.hid h
  clear h
  go_enter Try.func110, Try.ntmps110
  go_wp2_with fail
  refine (N.out _ H.out).mono ?_
  rintro e w1 ⟨rfl, h1⟩
  go_wp2_with fail
  refine (G.out _ (H.out.below h1)).mono ?_
  rintro e w2 ⟨rfl, h2⟩
  have hb := h1.trans (h2.mono h1.size)
  go_wp2_with fail
  go_ret
  exact ⟨rfl, hb⟩

set_option maxHeartbeats 1000000 in
theorem slotEntry_any (gA gB cap k : Nat) (l : List UInt8) (w : World) (hk : 8 + 4 * k ≤ l.length) (hl : l.length ≤ 100000) (h : AreaIn w gA gB cap l) :
    Calls Try.prog 189 #[.pointer (some ⟨gA, 0, none⟩), .int .i64 k] w fun e w' => e = .returned (.tuple #[.int .i64 (u2 l (4 + 4 * k)), .int .i64 (u2 l (6 + 4 * k))]) ∧ Below w.heap.size w w' := by
  have G1 := Lib.hid fun W hW => slotGet_any gA gB cap (4 + 4 * k) l W (by omega) hl hW
  have G2 := Lib.hid fun W hW => slotGet_any gA gB cap (6 + 4 * k) l W (by omega) hl hW
  have H := Lib.hid h
  have e1 : IntKind.i64.wrap (4 * (k : Int)) = 4 * (k : Int) := IntWalk.i64_in _ ⟨by omega, by omega⟩
  have e2 : IntKind.i64.wrap (4 + 4 * (k : Int)) = ((4 + 4 * k : Nat) : Int) := by rw [show ((4 + 4 * k : Nat) : Int) = 4 + 4 * (k : Int) by omega]; exact IntWalk.i64_in _ ⟨by omega, by omega⟩
  have e3 : IntKind.i64.wrap (((4 + 4 * k : Nat) : Int) + 2) = ((6 + 4 * k : Nat) : Int) := by rw [show ((6 + 4 * k : Nat) : Int) = ((4 + 4 * k : Nat) : Int) + 2 by omega]; exact IntWalk.i64_in _ ⟨by omega, by omega⟩
  clear h
  generalize 4 + 4 * k = K1 at *
  generalize 6 + 4 * k = K2 at *
  go_enter Try.func189, Try.ntmps189
  go_wp2_with fail
  refine (G1.out _ H.out).mono ?_
  rintro e w1 ⟨rfl, h1⟩
  go_wp2_with fail
  refine (G2.out _ (H.out.below h1)).mono ?_
  rintro e w2 ⟨rfl, h2⟩
  have hb := h1.trans (h2.mono h1.size)
  go_wp2_with fail
  go_ret2
  exact ⟨rfl, hb⟩

set_option maxHeartbeats 1000000 in
theorem slotGap_any (gA gB cap : Nat) (l : List UInt8) (w : World) (hk : 4 ≤ l.length) (hl : l.length ≤ 100000) (h : AreaIn w gA gB cap l) :
    Calls Try.prog 159 #[.pointer (some ⟨gA, 0, none⟩)] w fun e w' => e = .returned (.int .i64 ((u2 l 2 : Int) - 4 - 4 * (u2 l 0 : Int))) ∧ Below w.heap.size w w' := by
  have N := Lib.hid fun W hW => slotNone_any gA gB cap l W (by omega) hW
  have G := Lib.hid fun W hW => slotGet_any gA gB cap 2 l W (by omega) hl hW
  have L := Lib.hid fun W hW => slotLen_any gA gB cap l W hk hl hW
  have H := Lib.hid h
  have b0 := u2_lt l 0
  have b2 := u2_lt l 2
  have e1 : IntKind.i64.wrap (4 * (u2 l 0 : Int)) = 4 * (u2 l 0 : Int) := IntWalk.i64_in _ ⟨by omega, by omega⟩
  have e2 : IntKind.i64.wrap ((u2 l 2 : Int) - 4) = (u2 l 2 : Int) - 4 := IntWalk.i64_in _ ⟨by omega, by omega⟩
  have e3 : IntKind.i64.wrap ((u2 l 2 : Int) - 4 - 4 * (u2 l 0 : Int)) = (u2 l 2 : Int) - 4 - 4 * (u2 l 0 : Int) := IntWalk.i64_in _ ⟨by omega, by omega⟩
  clear h
  go_enter Try.func159, Try.ntmps159
  go_wp2_with fail
  refine (N.out _ H.out).mono ?_
  rintro e w1 ⟨rfl, h1⟩
  go_wp2_with fail
  refine (G.out _ (H.out.below h1)).mono ?_
  rintro e w2 ⟨rfl, h2⟩
  have hb := h1.trans (h2.mono h1.size)
  go_wp2_with fail
  refine (L.out _ (H.out.below hb)).mono ?_
  rintro e w3 ⟨rfl, h3⟩
  have hb := hb.trans (h3.mono hb.size)
  go_wp2_with fail
  go_ret
  exact ⟨rfl, hb⟩

/-- What is asked of a text: 0 there, 3 none. -/
theorem slotThere_any (gA gB cap : Nat) (at_ : Int) (l : List UInt8) (w : World) (hk : 4 ≤ l.length) (hl : l.length ≤ 100000) (h : AreaIn w gA gB cap l) :
    Calls Try.prog 174 #[.pointer (some ⟨gA, 0, none⟩), .int .i64 at_] w fun e w' => e = .returned (.int .i64 (if 0 ≤ at_ ∧ at_ < (u2 l 0 : Int) then 0 else 3)) ∧ Below w.heap.size w w' := by
  have N := Lib.hid fun W hW => slotNone_any gA gB cap l W (by omega) hW
  have L := Lib.hid fun W hW => slotLen_any gA gB cap l W hk hl hW
  have H := Lib.hid h
  clear h
  by_cases h0 : 0 ≤ at_
  · by_cases h1 : at_ < (u2 l 0 : Int)
    · rw [if_pos ⟨h0, h1⟩]
      go_enter Try.func174, Try.ntmps174
      go_wp2_with fail
      refine (N.out _ H.out).mono ?_
      rintro e w1 ⟨rfl, hw1⟩
      go_wp2_with fail
      refine (L.out _ (H.out.below hw1)).mono ?_
      rintro e w2 ⟨rfl, hw2⟩
      have hb := hw1.trans (hw2.mono hw1.size)
      go_wp2_with fail
      go_ret
      exact ⟨rfl, hb⟩
    · rw [if_neg (fun hh => h1 hh.2)]
      go_enter Try.func174, Try.ntmps174
      go_wp2_with fail
      refine (N.out _ H.out).mono ?_
      rintro e w1 ⟨rfl, hw1⟩
      go_wp2_with fail
      refine (L.out _ (H.out.below hw1)).mono ?_
      rintro e w2 ⟨rfl, hw2⟩
      have hb := hw1.trans (hw2.mono hw1.size)
      go_wp2_with fail
      go_ret
      exact ⟨rfl, hb⟩
  · rw [if_neg (fun hh => h0 hh.1)]
    go_enter Try.func174, Try.ntmps174
    go_wp2_with fail
    refine (N.out _ H.out).mono ?_
    rintro e w1 ⟨rfl, hw1⟩
    go_wp2_with fail
    go_ret
    exact ⟨rfl, hw1⟩

end Go.Proofs.Ytienlhnbmobinaa

namespace Go.Proofs.Ytienlhnbmobinaa
open Go.RowKit
set_option linter.unusedVariables false
set_option linter.unusedSimpArgs false

/-- 'string(b[off:off+n])' of a row of bytes. -/
theorem upon_part {P : Program} {o : Oper} {a : Act} {K : Act → World → Prop} {Q : Exit → Act → World → Prop} {W : World} {g off n cap : Nat} {zs : List UInt8} (h : RowAt W g zs) (hn : off + n ≤ zs.length) (src e dst : TypeId) (hs : P.underlying src = some (.slice e)) (he : P.underlying e = some (.int .u8)) (hd : P.underlying dst = some .string)
    (hk : K (a.put o.dst (.string ⟨((zs.drop off).take n).toArray⟩)) W) :
    o.upon P a K Q (((convert src dst (.slice (some ⟨g, off, none⟩) n cap)).run P W).andThen fun v w' => .ok (.value v) w') := by
  rw [run_convert_bytes_arg _ src e hs he g off n cap (((zs.drop off).take n).map fun b => (b.toNat : Int)) (by simp; omega) (fun i hi => by
    rw [h.cell (off + i) (by omega)]
    have : i < ((zs.drop off).take n).length := by simp; omega
    simp [List.getD_eq_getElem?_getD, show i < n by omega, List.getElem?_eq_getElem (show off + i < zs.length by omega)]) dst hd, strOfNums_bytes]
  simp only [Result.andThen]
  rw [Oper.upon_value]
  exact hk

set_option maxHeartbeats 1000000 in
set_option maxRecDepth 100000 in
theorem slotText_any (gA gB cap k : Nat) (l : List UInt8) (w : World) (hk : 8 + 4 * k ≤ l.length) (hl : l.length ≤ 100000) (hc : l.length ≤ cap) (ht : u2 l (4 + 4 * k) + u2 l (6 + 4 * k) ≤ l.length) (h : AreaIn w gA gB cap l) :
    Calls Try.prog 175 #[.pointer (some ⟨gA, 0, none⟩), .int .i64 k] w fun e w' => e = .returned (.string ⟨(txt l k).toArray⟩) ∧ Below w.heap.size w w' := by
  have E := Lib.hid fun W hW => slotEntry_any gA gB cap k l W hk hl hW
  have H := Lib.hid h
  have hT : Hid (txt l k = (l.drop (u2 l (4 + 4 * k))).take (u2 l (6 + 4 * k))) := rfl
  clear h
  generalize u2 l (4 + 4 * k) = f at *
  generalize u2 l (6 + 4 * k) = n at *
  have e1 : IntKind.i64.wrap ((f : Int) + (n : Int)) = (f : Int) + (n : Int) := IntWalk.i64_in _ ⟨by omega, by omega⟩
  have s1 : (f : Int) ≤ (f : Int) + (n : Int) := by omega
  have s2 : (0 : Int) ≤ (f : Int) + (n : Int) := by omega
  have s3 : (f : Int) + (n : Int) ≤ (cap : Int) := by omega
  go_enter Try.func175, Try.ntmps175
  go_wp2_with fail
  refine (E.out _ H.out).mono ?_
  rintro e w1 ⟨rfl, h1⟩
  have c0 := blk_cell (H.out.below h1).own 0
  go_wp2_with fail
  · have hn0 : n = 0 := by omega
    subst hn0
    refine upon_part (off := 0) (H.out.below h1).row (by omega) 70 5 9 Try.underlying70 Try.underlying5 Try.underlying9 ?_
    go_wp2_with fail
    go_ret
    exact ⟨ret_str1 (by rw [hT.out]; simp), h1⟩
  · refine upon_part (H.out.below h1).row ht 70 5 9 Try.underlying70 Try.underlying5 Try.underlying9 ?_
    go_wp2_with fail
    go_ret
    exact ⟨ret_str1 (by rw [hT.out]), h1⟩

set_option maxHeartbeats 1000000 in
set_option maxRecDepth 100000 in
theorem slotBytes_any (gA gB cap : Nat) (l : List UInt8) (w : World) (hk : 4 ≤ l.length) (hl : l.length ≤ 100000) (h : AreaIn w gA gB cap l) :
    Calls Try.prog 99 #[.pointer (some ⟨gA, 0, none⟩)] w fun e w' => e = .returned (.string ⟨l.toArray⟩) ∧ Below w.heap.size w w' := by
  have N := Lib.hid fun W hW => slotNone_any gA gB cap l W (by omega) hW
  have H := Lib.hid h
  clear h
  go_enter Try.func99, Try.ntmps99
  go_wp2_with fail
  refine (N.out _ H.out).mono ?_
  rintro e w1 ⟨rfl, h1⟩
  have c0 := blk_cell (H.out.below h1).own 0
  go_wp2_with fail
  refine upon_str (H.out.below h1).row rfl 70 5 9 Try.underlying70 Try.underlying5 Try.underlying9 ?_
  go_wp2_with fail
  go_ret
  exact ⟨ret_str1 (strOfNums_bytes l), h1⟩

set_option maxHeartbeats 1000000 in
theorem slotGetText_yes (gA gB cap k : Nat) (l : List UInt8) (w : World) (hk0 : k < u2 l 0) (hk : 8 + 4 * k ≤ l.length) (hl : l.length ≤ 100000) (hc : l.length ≤ cap) (ht : u2 l (4 + 4 * k) + u2 l (6 + 4 * k) ≤ l.length) (h : AreaIn w gA gB cap l) :
    Calls Try.prog 111 #[.pointer (some ⟨gA, 0, none⟩), .int .i64 k] w fun e w' => e = .returned (.tuple #[.string ⟨(txt l k).toArray⟩, .int .i64 0]) ∧ Below w.heap.size w w' := by
  have T := Lib.hid fun W hW => slotText_any gA gB cap k l W hk hl hc ht hW
  have R0 := fun W hW => slotThere_any gA gB cap (k : Int) l W (by omega) hl hW
  rw [if_pos (by omega)] at R0
  have R := Lib.hid R0
  have H := Lib.hid h
  clear h R0
  go_enter Try.func111, Try.ntmps111
  go_wp2_with fail
  refine (R.out _ H.out).mono ?_
  rintro e w1 ⟨rfl, h1⟩
  go_wp2_with fail
  refine (T.out _ (H.out.below h1)).mono ?_
  rintro e w2 ⟨rfl, h2⟩
  have hb := h1.trans (h2.mono h1.size)
  go_wp2_with fail
  go_ret2
  exact ⟨rfl, hb⟩

set_option maxHeartbeats 1000000 in
theorem slotGetText_no (gA gB cap : Nat) (at_ : Int) (l : List UInt8) (w : World) (hk0 : ¬ (0 ≤ at_ ∧ at_ < (u2 l 0 : Int))) (hk : 4 ≤ l.length) (hl : l.length ≤ 100000) (h : AreaIn w gA gB cap l) :
    Calls Try.prog 111 #[.pointer (some ⟨gA, 0, none⟩), .int .i64 at_] w fun e w' => e = .returned (.tuple #[.string ⟨#[]⟩, .int .i64 3]) ∧ Below w.heap.size w w' := by
  have R0 := fun W hW => slotThere_any gA gB cap at_ l W hk hl hW
  rw [if_neg hk0] at R0
  have R := Lib.hid R0
  have H := Lib.hid h
  clear h R0 hk0
  go_enter Try.func111, Try.ntmps111
  go_wp2_with fail
  refine (R.out _ H.out).mono ?_
  rintro e w1 ⟨rfl, h1⟩
  go_wp2_with fail
  go_ret2
  exact ⟨rfl, h1⟩

end Go.Proofs.Ytienlhnbmobinaa

namespace Go.Proofs.Ytienlhnbmobinaa
open Go.RowKit
set_option linter.unusedVariables false
set_option linter.unusedSimpArgs false

theorem grown_step {w w1 w2 : World} {g : Nat} (h1 : Below w.heap.size w w1) (h2 : w1.grownBy w2 (some g)) : w.grownBy w2 (some g) := grown_trans (grown_below _ h1) h2
theorem AreaIn.grown {w w' : World} {gA gB cap : Nat} {l l' : List UInt8} (h : AreaIn w gA gB cap l) (hg : w.grownBy w' (some gB)) (hr : RowAt w' gB l') (hl : l'.length = l.length) : AreaIn w' gA gB cap l' :=
  ⟨by rw [hl]; exact (hg.block _ (blk_lt h.own) (by simp; exact h.ne)).trans h.own, hr, h.ne⟩

set_option maxHeartbeats 1000000 in
set_option maxRecDepth 100000 in
theorem slotTwo_any (gA gB cap k n : Nat) (l : List UInt8) (w : World) (hk : k + 2 ≤ l.length) (hl : l.length ≤ 100000) (hc : l.length ≤ cap) (hn : n < 256 ^ 2) (h : AreaIn w gA gB cap l) :
    Calls Try.prog 156 #[.pointer (some ⟨gA, 0, none⟩), .int .i64 k, .int .i64 n] w fun e w' => e = .returned (.tuple #[]) ∧ AreaIn w' gA gB cap (setTwo l k n) ∧ w.grownBy w' (some gB) := by
  have P := Lib.hid fun W => put_2 n W hn
  have z2 := be_str 2 n
  have H := Lib.hid h
  simp only [Nat.reducePow] at hn
  have v1 : IntKind.u64.wrap (n : Int) = n := IntWalk.u64_in _ ⟨by omega, by omega⟩
  have hS : Hid ((⟨(be 2 n).toArray⟩ : ByteArray).data.toList = be 2 n) := rfl
  clear h
  generalize (⟨(be 2 n).toArray⟩ : ByteArray) = X at *
  have HT : Hid (setTwo l k n = l.take k ++ X.data.toList ++ l.drop (k + X.size)) := by show _ = _; unfold setTwo; rw [hS.out, z2]
  go_enter Try.func156, Try.ntmps156
  go_wp2_with fail
  refine (P.out _).mono ?_
  rintro e w1 ⟨rfl, h1⟩
  have c0 := blk_cell (H.out.below h1).own 0
  have HA := Lib.hid (H.out.below h1)
  go_wp2_with fail
  refine upon_copy HA.out.row 70 9 _ 5 X Try.underlying70 (by kernel_rfl) (by omega) (by omega) (fun W hr hg => ?_)
  go_wp2_with fail
  go_end0
  refine ⟨rfl, ?_, grown_step h1 hg⟩
  rw [HT.out]
  exact HA.out.grown hg hr (by rw [← HT.out]; exact setTwo_len hk)

set_option maxHeartbeats 1000000 in
set_option maxRecDepth 100000 in
theorem slotPlace_any (gA gB cap k f n : Nat) (l : List UInt8) (w : World) (hk : 8 + 4 * k ≤ l.length) (hl : l.length ≤ 100000) (hc : l.length ≤ cap) (hf : f < 256 ^ 2) (hn : n < 256 ^ 2) (h : AreaIn w gA gB cap l) :
    Calls Try.prog 163 #[.pointer (some ⟨gA, 0, none⟩), .int .i64 k, .int .i64 f, .int .i64 n] w fun e w' => e = .returned (.tuple #[]) ∧ AreaIn w' gA gB cap (setPlace l k f n) ∧ w.grownBy w' (some gB) := by
  have T1 := Lib.hid fun W hW => slotTwo_any gA gB cap (4 + 4 * k) f l W (by omega) hl hc hf hW
  have T2 := Lib.hid fun W hW => slotTwo_any gA gB cap (6 + 4 * k) n (setTwo l (4 + 4 * k) f) W (by rw [setTwo_len (by omega)]; omega) (by rw [setTwo_len (by omega)]; omega) (by rw [setTwo_len (by omega)]; omega) hn hW
  have H := Lib.hid h
  have hS : Hid (setPlace l k f n = setTwo (setTwo l (4 + 4 * k) f) (6 + 4 * k) n) := rfl
  have e1 : IntKind.i64.wrap (4 * (k : Int)) = 4 * (k : Int) := IntWalk.i64_in _ ⟨by omega, by omega⟩
  have e2 : IntKind.i64.wrap (4 + 4 * (k : Int)) = ((4 + 4 * k : Nat) : Int) := by rw [show ((4 + 4 * k : Nat) : Int) = 4 + 4 * (k : Int) by omega]; exact IntWalk.i64_in _ ⟨by omega, by omega⟩
  have e3 : IntKind.i64.wrap (((4 + 4 * k : Nat) : Int) + 2) = ((6 + 4 * k : Nat) : Int) := by rw [show ((6 + 4 * k : Nat) : Int) = ((4 + 4 * k : Nat) : Int) + 2 by omega]; exact IntWalk.i64_in _ ⟨by omega, by omega⟩
  clear h hk hf hn
  generalize 4 + 4 * k = K1 at *
  generalize 6 + 4 * k = K2 at *
  go_enter Try.func163, Try.ntmps163
  go_wp2_with fail
  refine (T1.out _ H.out).mono ?_
  rintro e w1 ⟨rfl, h1, g1⟩
  go_wp2_with fail
  refine (T2.out _ h1).mono ?_
  rintro e w2 ⟨rfl, h2, g2⟩
  go_wp2_with fail
  go_end0
  exact ⟨rfl, by rw [hS.out]; exact h2, grown_trans g1 g2⟩

end Go.Proofs.Ytienlhnbmobinaa

namespace Go.Proofs.Ytienlhnbmobinaa
open Go.RowKit
set_option linter.unusedVariables false
set_option linter.unusedSimpArgs false

set_option maxHeartbeats 1000000 in
set_option maxRecDepth 100000 in
theorem slotBelow_any (gA gB cap : Nat) (l : List UInt8) (s : ByteArray) (w : World) (hk : 4 ≤ l.length) (hl : l.length ≤ 100000) (hc : l.length ≤ cap) (hs : s.size ≤ u2 l 2) (hlow : u2 l 2 ≤ l.length) (h : AreaIn w gA gB cap l) :
    Calls Try.prog 161 #[.pointer (some ⟨gA, 0, none⟩), .string s] w fun e w' => e = .returned (.int .i64 ((u2 l 2 - s.size : Nat) : Int)) ∧ AreaIn w' gA gB cap (belowL l s.data.toList) ∧ w.grownBy w' (some gB) := by
  have b2 := u2_lt l 2
  have hsl : s.data.toList.length = s.size := by simp
  have G := Lib.hid fun W hW => slotGet_any gA gB cap 2 l W (by omega) hl hW
  have T0 := fun W hW => slotTwo_any gA gB cap 2 (u2 l 2 - s.size) (putAt l (u2 l 2 - s.size) s.data.toList) W (by rw [putAt_len (by omega)]; omega) (by rw [putAt_len (by omega)]; omega) (by rw [putAt_len (by omega)]; omega) (by omega) hW
  have H := Lib.hid h
  have hS : Hid (belowL l s.data.toList = setTwo (putAt l (u2 l 2 - s.size) s.data.toList) 2 (u2 l 2 - s.size)) := by show _ = _; unfold belowL; rw [hsl]
  have hP : Hid (putAt l (u2 l 2 - s.size) s.data.toList = l.take (u2 l 2 - s.size) ++ s.data.toList ++ l.drop (u2 l 2 - s.size + s.size)) := by show _ = _; unfold putAt; rw [hsl]
  obtain ⟨low, hlw⟩ : ∃ x, x = u2 l 2 - s.size := ⟨_, rfl⟩
  have he : (u2 l 2 : Int) - (s.size : Int) = (low : Int) := by omega
  rw [← hlw] at T0 hS hP ⊢
  have hfit : low + s.size ≤ l.length := by omega
  have hpl : (putAt l low s.data.toList).length = l.length := putAt_len (by omega)
  have T := Lib.hid T0
  have HPL := Lib.hid hpl
  clear h T0 hlw hpl
  generalize u2 l 2 = L2 at *
  have wlow : IntKind.i64.wrap (low : Int) = low := IntWalk.i64_in _ ⟨by omega, by omega⟩
  have s1 : (low : Int) ≤ (l.length : Int) := by omega
  go_enter Try.func161, Try.ntmps161
  go_wp2_with fail
  refine (G.out _ H.out).mono ?_
  rintro e w1 ⟨rfl, h1⟩
  have c0 := blk_cell (H.out.below h1).own 0
  have HA := Lib.hid (H.out.below h1)
  go_wp2_with fail
  · have z0 : s.size = 0 := by omega
    have z1 : s.data.toList = [] := List.length_eq_zero_iff.1 (by omega)
    refine upon_copy (k := 0) HA.out.row 70 9 _ 5 s Try.underlying70 (by kernel_rfl) (by omega) (by omega) (fun W hr hg => ?_)
    have hr' : RowAt W gB (putAt l low s.data.toList) := by
      rw [z1, putAt_nil]
      rw [z1, z0] at hr
      simpa using hr
    go_wp2_with fail
    refine (T.out _ (HA.out.grown hg hr' HPL.out)).mono ?_
    rintro e w2 ⟨rfl, h2, g2⟩
    go_wp2_with fail
    go_ret
    exact ⟨rfl, by rw [hS.out]; exact h2, grown_trans (grown_step h1 hg) g2⟩
  · refine upon_copy HA.out.row 70 9 _ 5 s Try.underlying70 (by kernel_rfl) (by omega) (by omega) (fun W hr hg => ?_)
    have hr' : RowAt W gB (putAt l low s.data.toList) := by rw [hP.out]; exact hr
    go_wp2_with fail
    refine (T.out _ (HA.out.grown hg hr' HPL.out)).mono ?_
    rintro e w2 ⟨rfl, h2, g2⟩
    go_wp2_with fail
    go_ret
    exact ⟨rfl, by rw [hS.out]; exact h2, grown_trans (grown_step h1 hg) g2⟩

end Go.Proofs.Ytienlhnbmobinaa

namespace Go.Proofs.Ytienlhnbmobinaa
open Go.RowKit
set_option linter.unusedVariables false
set_option linter.unusedSimpArgs false

theorem slotNew_no (n : Int) (w : World) (hn : n < 16 ∨ 4096 < n) :
    Calls Try.prog 96 #[.int .i64 n] w fun e w' => e = .returned (.tuple #[.pointer none, .int .i64 2]) ∧ Below w.heap.size w w' := by
  rcases hn with h | h
  · go_enter Try.func96, Try.ntmps96
    go_wp2_with fail
    go_ret2
    exact ⟨rfl, Below.refl _ _⟩
  · go_enter Try.func96, Try.ntmps96
    go_wp2_with fail
    go_ret2
    exact ⟨rfl, Below.refl _ _⟩

set_option maxHeartbeats 1000000 in
set_option maxRecDepth 100000 in
theorem slotNew_yes (n : Nat) (w : World) (h1 : 16 ≤ n) (h2 : n ≤ 4096) :
    Calls Try.prog 96 #[.int .i64 n] w fun e w' => ∃ gA gB, e = .returned (.tuple #[.pointer (some ⟨gA, 0, none⟩), .int .i64 0]) ∧ w.heap.size ≤ gA ∧ w.heap.size ≤ gB ∧ AreaIn w' gA gB n (setTwo (List.replicate n 0) 2 n) ∧ Below w.heap.size w w' := by
  have i1 : ¬ (n : Int) < 16 := by omega
  have i2 : ¬ 4096 < (n : Int) := by omega
  go_enter Try.func96, Try.ntmps96
  go_wp2_with fail
  refine upon_make _ 70 5 n Try.underlying70 (by kernel_rfl) (by kernel_rfl) (by kernel_rfl) (by omega) (fun W hr hb => ?_)
  go_wp2_with fail
  have hlt := hr.lt
  have hA : AreaIn (W.alloc (.cells #[.slice (some ⟨w.heap.size, 0, none⟩) n n] 185)) W.heap.size w.heap.size n (List.replicate n 0) :=
    ⟨by rw [List.length_replicate]; exact heap_alloc_new W _, hr.below ((Below.refl _ _).alloc (Nat.le_refl _) _), by omega⟩
  have hb2 := hb.alloc hb.size (.cells #[.slice (some ⟨w.heap.size, 0, none⟩) n n] 185)
  refine (slotTwo_any W.heap.size w.heap.size n 2 n (List.replicate n 0) _ (by simp; omega) (by simp; omega) (by simp) (by omega) hA).mono ?_
  rintro e w2 ⟨rfl, h2, g2⟩
  have hb3 := hb2.grown g2 (by simp; omega) (fun k hk => by injection hk with hk; omega)
  have hge := hb.size
  clear hb hb2 hA hr g2
  go_wp2_with fail
  go_ret2
  exact ⟨_, _, rfl, hge, Nat.le_refl _, h2, hb3⟩

end Go.Proofs.Ytienlhnbmobinaa

namespace Go.Proofs.Ytienlhnbmobinaa
open Go.RowKit
set_option linter.unusedVariables false
set_option linter.unusedSimpArgs false

set_option maxHeartbeats 1000000 in
set_option maxRecDepth 100000 in
theorem slotFree_any (gA gB cap : Nat) (l : List UInt8) (w : World) (hk : 4 + 4 * u2 l 0 ≤ l.length) (hl : l.length ≤ 100000) (h : AreaIn w gA gB cap l) :
    Calls Try.prog 158 #[.pointer (some ⟨gA, 0, none⟩)] w fun e w' => e = .returned (.int .i64 (freeL l)) ∧ Below w.heap.size w w' := by
  have N := Lib.hid fun W hW => slotNone_any gA gB cap l W (by omega) hW
  have L := Lib.hid fun W hW => slotLen_any gA gB cap l W (by omega) hl hW
  have E := Lib.hid fun k (hk : k < u2 l 0) W hW => slotEntry_any gA gB cap k l W (by omega) hl hW
  have H := Lib.hid h
  have hF : Hid (freeL l = (l.length : Int) - 4 - 4 * (u2 l 0 : Int) - (sizes l (u2 l 0) : Int)) := rfl
  have b0 := u2_lt l 0
  generalize hu : u2 l 0 = n at *
  have e1 : IntKind.i64.wrap ((l.length : Int) - 4) = (l.length : Int) - 4 := IntWalk.i64_in _ ⟨by omega, by omega⟩
  have e2 : IntKind.i64.wrap (4 * (n : Int)) = 4 * (n : Int) := IntWalk.i64_in _ ⟨by omega, by omega⟩
  have e3 : IntKind.i64.wrap ((l.length : Int) - 4 - 4 * (n : Int)) = (l.length : Int) - 4 - 4 * (n : Int) := IntWalk.i64_in _ ⟨by omega, by omega⟩
  have Hu := Lib.hid hu
  clear h hu
  go_enter Try.func158, Try.ntmps158
  go_wp2_with fail
  refine (N.out _ H.out).mono ?_
  rintro e w1 ⟨rfl, h1⟩
  have HA := Lib.hid (H.out.below h1)
  have c0 := ext_cell (w := w1) (b := gA) (o := 0) (by rw [blk_cell HA.out.own]; rfl) (blk_lt HA.out.own)
  go_wp2_with fail
  refine wp_region_ext w1.heap.size (by kernel_rfl) (by kernel_rfl) ?_
  repeat (go_big_quiet_step ((go_at_call 110; exact ext_call _ (Nat.le_refl _) (L.out _ (HA.out.below (Ext.below _))))))
  refine wpQuiet_nil ?_
  rintro _ ⟨X, rfl⟩
  have hx := h1.trans (X.below.mono h1.size)
  generalize X.val = wz at hx
  have HZ := Lib.hid (H.out.below hx)
  have HX := Lib.hid hx
  clear h1 c0 HA hx
  go_wp2_with fail
  refine (L.out _ HZ.out).mono ?_
  rintro e w2 ⟨rfl, h2⟩
  have HY := Lib.hid (HZ.out.below h2)
  have HB := Lib.hid (HX.out.trans (h2.mono HX.out.size))
  clear h2
  go_wp2_with fail
  go_loopw [3, 21] (fun s3 s21 wr => ∃ j : Nat, j ≤ n ∧ s21 = .int .i64 j ∧ s3 = .int .i64 ((l.length : Int) - 4 - 4 * (n : Int) - (sizes l j : Int)) ∧ AreaIn wr gA gB cap l ∧ Below w.heap.size w wr) (fun _ i _ => n - (intOf i).toNat)
  case atStart => exact ⟨0, Nat.zero_le _, rfl, by simp [sizes], HY.out, HB.out⟩
  case round =>
    obtain ⟨j, hj, rfl, rfl, ha, hb⟩ := hrel
    have hsz := sizes_le l j
    have HAR := Lib.hid ha
    have HBR := Lib.hid hb
    by_cases hc : j < n
    · have hs1 : Hid (sizes l (j + 1) = sizes l j + u2 l (6 + 4 * j)) := rfl
      have b6 := u2_lt l (6 + 4 * j)
      have EE := Lib.hid (E.out j hc)
      generalize u2 l (6 + 4 * j) = m at *
      generalize u2 l (4 + 4 * j) = f at *
      generalize hq : (l.length : Int) - 4 - 4 * (n : Int) - (sizes l j : Int) = q at *
      have wq : IntKind.i64.wrap (q - (m : Int)) = q - (m : Int) := IntWalk.i64_in _ ⟨by omega, by omega⟩
      have hq2 : Hid (q - (m : Int) = (l.length : Int) - 4 - 4 * (n : Int) - (sizes l (j + 1) : Int)) := by show _ = _; rw [hs1.out]; omega
      clear ha hb hq hsz
      go_wp2_with fail
      refine (EE.out _ HAR.out).mono ?_
      rintro e w3 ⟨rfl, h3⟩
      go_wp2_with fail
      go_roundw
      case rel => exact ⟨j + 1, by omega, by go_num, by rw [hq2.out], HAR.out.below h3, HBR.out.trans (h3.mono HBR.out.size)⟩
      case measure => simp [intOf]; omega
    · obtain rfl : j = n := by omega
      clear ha hb hsz
      go_wp2_with fail
      go_ret
      exact ⟨ret_int (by rw [hF.out]), HBR.out⟩

end Go.Proofs.Ytienlhnbmobinaa

namespace Go.Proofs.Ytienlhnbmobinaa
open Go.RowKit
set_option linter.unusedVariables false
set_option linter.unusedSimpArgs false

theorem slotLen_nil (w : World) : Calls Try.prog 110 #[.pointer none] w fun e w' => e = .returned (.int .i64 0) ∧ Below w.heap.size w w' := by
  have N := Lib.hid fun W => slotNone_nil W
  go_enter Try.func110, Try.ntmps110
  go_wp2_with fail
  refine (N.out _).mono ?_
  rintro e w1 ⟨rfl, h1⟩
  go_wp2_with fail
  go_ret
  exact ⟨rfl, h1⟩
theorem slotGap_nil (w : World) : Calls Try.prog 159 #[.pointer none] w fun e w' => e = .returned (.int .i64 0) ∧ Below w.heap.size w w' := by
  have N := Lib.hid fun W => slotNone_nil W
  go_enter Try.func159, Try.ntmps159
  go_wp2_with fail
  refine (N.out _).mono ?_
  rintro e w1 ⟨rfl, h1⟩
  go_wp2_with fail
  go_ret
  exact ⟨rfl, h1⟩
theorem slotFree_nil (w : World) : Calls Try.prog 158 #[.pointer none] w fun e w' => e = .returned (.int .i64 0) ∧ Below w.heap.size w w' := by
  have N := Lib.hid fun W => slotNone_nil W
  go_enter Try.func158, Try.ntmps158
  go_wp2_with fail
  refine (N.out _).mono ?_
  rintro e w1 ⟨rfl, h1⟩
  go_wp2_with fail
  go_ret
  exact ⟨rfl, h1⟩
theorem slotCompact_nil (w : World) : Calls Try.prog 160 #[.pointer none] w fun e w' => e = .returned (.int .i64 0) ∧ Below w.heap.size w w' := by
  have N := Lib.hid fun W => slotNone_nil W
  go_enter Try.func160, Try.ntmps160
  go_wp2_with fail
  refine (N.out _).mono ?_
  rintro e w1 ⟨rfl, h1⟩
  have hb := ((Below.refl w.heap.size w).alloc (Nat.le_refl _) (.cells #[.pointer none] 131)).trans (h1.mono (by simp))
  go_wp2_with fail
  go_ret
  exact ⟨rfl, hb⟩
theorem slotBytes_nil (w : World) : Calls Try.prog 99 #[.pointer none] w fun e w' => e = .returned (.string ⟨#[]⟩) ∧ Below w.heap.size w w' := by
  have N := Lib.hid fun W => slotNone_nil W
  go_enter Try.func99, Try.ntmps99
  go_wp2_with fail
  refine (N.out _).mono ?_
  rintro e w1 ⟨rfl, h1⟩
  go_wp2_with fail
  go_ret
  exact ⟨rfl, h1⟩
theorem slotThere_nil (k : Int) (w : World) : Calls Try.prog 174 #[.pointer none, .int .i64 k] w fun e w' => e = .returned (.int .i64 1) ∧ Below w.heap.size w w' := by
  have N := Lib.hid fun W => slotNone_nil W
  go_enter Try.func174, Try.ntmps174
  go_wp2_with fail
  refine (N.out _).mono ?_
  rintro e w1 ⟨rfl, h1⟩
  go_wp2_with fail
  go_ret
  exact ⟨rfl, h1⟩
theorem slotGetText_nil (k : Int) (w : World) : Calls Try.prog 111 #[.pointer none, .int .i64 k] w fun e w' => e = .returned (.tuple #[.string ⟨#[]⟩, .int .i64 1]) ∧ Below w.heap.size w w' := by
  have N := Lib.hid fun W => slotThere_nil k W
  go_enter Try.func111, Try.ntmps111
  go_wp2_with fail
  refine (N.out _).mono ?_
  rintro e w1 ⟨rfl, h1⟩
  go_wp2_with fail
  go_ret2
  exact ⟨rfl, h1⟩
theorem slotPut_nil (k : Int) (s : ByteArray) (w : World) : Calls Try.prog 97 #[.pointer none, .int .i64 k, .string s] w fun e w' => e = .returned (.int .i64 1) ∧ Below w.heap.size w w' := by
  have N := Lib.hid fun W => slotNone_nil W
  go_enter Try.func97, Try.ntmps97
  go_wp2_with fail
  refine (N.out _).mono ?_
  rintro e w1 ⟨rfl, h1⟩
  go_wp2_with fail
  go_ret
  exact ⟨rfl, h1⟩

end Go.Proofs.Ytienlhnbmobinaa
