/- CRC-32C as plain words: a bit's step, a byte's, a text's; what is turned within 32 bits in a row is seen -/
namespace Go.Proofs.Ytienlhnbmobinaa
set_option linter.unusedSimpArgs false

theorem sx (a b : Bool) : (a ^^ b) = (b ^^ a) := by cases a <;> cases b <;> rfl

def poly : BitVec 32 := 0x82F63B78#32
/-- What a bit does. -/
def cstep (c : BitVec 32) : BitVec 32 := (c >>> 1) ^^^ (if c.getLsbD 0 then poly else 0)
def csteps : Nat → BitVec 32 → BitVec 32
  | 0, c => c
  | n + 1, c => cstep (csteps n c)
theorem cstep_bit (c : BitVec 32) (i : Nat) : (cstep c).getLsbD i = (c.getLsbD (i + 1) ^^ (c.getLsbD 0 && poly.getLsbD i)) := by
  unfold cstep
  rw [BitVec.getLsbD_xor, BitVec.getLsbD_ushiftRight, Nat.add_comm 1 i]
  cases c.getLsbD 0 <;> simp
theorem bv_ext {a b : BitVec 32} (h : ∀ i, i < 32 → a.getLsbD i = b.getLsbD i) : a = b := BitVec.eq_of_getLsbD_eq h
theorem cstep_xor (a b : BitVec 32) : cstep (a ^^^ b) = cstep a ^^^ cstep b := by
  refine bv_ext fun i _ => ?_
  rw [BitVec.getLsbD_xor, cstep_bit, cstep_bit, cstep_bit, BitVec.getLsbD_xor, BitVec.getLsbD_xor]
  cases a.getLsbD (i + 1) <;> cases b.getLsbD (i + 1) <;> cases a.getLsbD 0 <;> cases b.getLsbD 0 <;> cases poly.getLsbD i <;> rfl
theorem cstep_zero : cstep 0 = 0 := by decide
theorem csteps_zero : ∀ n, csteps n 0 = 0
  | 0 => rfl
  | n + 1 => by rw [csteps, csteps_zero n, cstep_zero]
theorem csteps_xor (a b : BitVec 32) : ∀ n, csteps n (a ^^^ b) = csteps n a ^^^ csteps n b
  | 0 => rfl
  | n + 1 => by rw [csteps, csteps_xor a b n, cstep_xor]; rfl
theorem csteps_add (c : BitVec 32) (m : Nat) : ∀ n, csteps (m + n) c = csteps n (csteps m c)
  | 0 => rfl
  | n + 1 => by rw [Nat.add_succ, csteps, csteps_add c m n]; rfl
theorem cstep_none {c : BitVec 32} (h : cstep c = 0) : c = 0 := by
  have h0 : c.getLsbD 0 = false := by
    have := cstep_bit c 31
    rw [h, show poly.getLsbD 31 = true by decide, BitVec.getLsbD_of_ge c 32 (by omega)] at this
    simpa using this.symm
  refine bv_ext fun i hi => ?_
  cases i with
  | zero => rw [h0]; rfl
  | succ i =>
    have := cstep_bit c i
    rw [h, h0] at this
    simpa using this.symm
theorem csteps_none {c : BitVec 32} : ∀ n, csteps n c = 0 → c = 0
  | 0, h => h
  | n + 1, h => csteps_none n (cstep_none h)
/-- A step of what is even. -/
theorem cstep_even {c : BitVec 32} (h : c.getLsbD 0 = false) : cstep c = c >>> 1 := by
  unfold cstep; rw [h]; simp
theorem csteps_even (c : BitVec 32) : ∀ n, (∀ i, i < n → c.getLsbD i = false) → csteps n c = c >>> n
  | 0, _ => by simp [csteps]
  | n + 1, h => by
    rw [csteps, csteps_even c n (fun i hi => h i (by omega)), cstep_even (by rw [BitVec.getLsbD_ushiftRight]; exact h n (by omega))]
    rw [← BitVec.shiftRight_add]

/-- The state behind n bits. -/
def crun (f : Nat → Bool) (c : BitVec 32) : Nat → BitVec 32
  | 0 => c
  | n + 1 => cstep (crun f c n ^^^ (if f n then 1#32 else 0#32))
theorem crun_xor (f g : Nat → Bool) (a b : BitVec 32) : ∀ n, crun (fun i => f i ^^ g i) (a ^^^ b) n = crun f a n ^^^ crun g b n
  | 0 => rfl
  | n + 1 => by
    rw [crun, crun_xor f g a b n, crun, crun, ← cstep_xor]
    congr 1
    generalize crun f a n = x
    generalize crun g b n = y
    cases f n <;> cases g n <;> (refine bv_ext fun i _ => ?_) <;> simp <;> (cases x.getLsbD i <;> cases y.getLsbD i <;> simp)
theorem crun_congr {f g : Nat → Bool} (c : BitVec 32) : ∀ n, (∀ i, i < n → f i = g i) → crun f c n = crun g c n
  | 0, _ => rfl
  | n + 1, h => by rw [crun, crun, crun_congr c n (fun i hi => h i (by omega)), h n (by omega)]
theorem crun_add (f : Nat → Bool) (c : BitVec 32) (m : Nat) : ∀ n, crun f c (m + n) = crun (fun i => f (m + i)) (crun f c m) n
  | 0 => rfl
  | n + 1 => by rw [Nat.add_succ, crun, crun_add f c m n, crun]
theorem crun_none (f : Nat → Bool) (c : BitVec 32) : ∀ n, (∀ i, i < n → f i = false) → crun f c n = csteps n c
  | 0, _ => rfl
  | n + 1, h => by rw [crun, crun_none f c n (fun i hi => h i (by omega)), h n (by omega), csteps]; simp
def low (v : BitVec 32) (n : Nat) : BitVec 32 := BitVec.ofNat 32 (v.toNat % 2 ^ n)
theorem low_bit (v : BitVec 32) (n i : Nat) (hi : i < 32) : (low v n).getLsbD i = (decide (i < n) && v.getLsbD i) := by
  unfold low
  rw [BitVec.getLsbD_ofNat, Nat.testBit_mod_two_pow]
  simp [hi, BitVec.getLsbD]
theorem low_all (v : BitVec 32) : low v 32 = v := by
  refine bv_ext fun i hi => ?_
  rw [low_bit v 32 i hi]; simp [hi]
theorem low_zero (v : BitVec 32) : low v 0 = 0 := by
  refine bv_ext fun i hi => ?_
  rw [low_bit v 0 i hi]; simp
theorem low_succ (v : BitVec 32) (n : Nat) (hn : n < 32) : low v (n + 1) = low v n ^^^ (if v.getLsbD n then (1#32) <<< n else 0#32) := by
  refine bv_ext fun i hi => ?_
  rw [BitVec.getLsbD_xor, low_bit v _ i hi, low_bit v _ i hi]
  have h1 : ((1#32) <<< n).getLsbD i = decide (i = n) := by
    rw [BitVec.getLsbD_shiftLeft]
    have : (1#32).getLsbD (i - n) = decide (i - n = 0) := by simp [BitVec.getLsbD_one]
    rw [this, Bool.eq_iff_iff]
    simp; omega
  rcases Nat.lt_trichotomy i n with h | h | h
  · have e1 : decide (i < n + 1) = true := by simp; omega
    have e2 : decide (i < n) = true := by simp; omega
    have e3 : decide (i = n) = false := by simp; omega
    rw [e1, e2]; cases v.getLsbD n <;> simp [h1, e3]
  · subst h
    simp [h1]; cases v.getLsbD i <;> simp [h1]
  · have e1 : decide (i < n + 1) = false := by simp; omega
    have e2 : decide (i < n) = false := by simp; omega
    have e3 : decide (i = n) = false := by simp; omega
    rw [e1, e2]; cases v.getLsbD n <;> simp [h1, e3]
theorem one_steps (n : Nat) (hn : n < 32) : csteps n ((1#32) <<< n) = 1#32 := by
  rw [csteps_even _ n (fun i hi => by rw [BitVec.getLsbD_shiftLeft]; simp [hi])]
  refine bv_ext fun i hi => ?_
  rw [BitVec.getLsbD_ushiftRight, BitVec.getLsbD_shiftLeft]
  simp [BitVec.getLsbD_one]; omega
/-- Bits that a number has, fed one behind the other. -/
theorem crun_num (f : Nat → Bool) (c v : BitVec 32) : ∀ n, n ≤ 32 → (∀ i, i < n → f i = v.getLsbD i) → crun f c n = csteps n (c ^^^ low v n)
  | 0, _, _ => by rw [low_zero]; simp [crun, csteps]
  | n + 1, hn, h => by
    rw [crun, crun_num f c v n (by omega) (fun i hi => h i (by omega)), h n (by omega), low_succ v n (by omega), csteps]
    congr 1
    rw [← BitVec.xor_assoc, csteps_xor (c ^^^ low v n)]
    congr 1
    cases v.getLsbD n with
    | true => simp only [if_true]; exact (one_steps n (by omega)).symm
    | false => simp; exact (csteps_zero n).symm

/-- A text's bits. -/
def bitAt (l : List UInt8) (p : Nat) : Bool := (l.getD (p / 8) 0).toNat.testBit (p % 8)
/-- What a byte does. -/
def cbyte (c : BitVec 32) (x : UInt8) : BitVec 32 := csteps 8 (c ^^^ BitVec.ofNat 32 x.toNat)
def crc (c : BitVec 32) (l : List UInt8) : BitVec 32 := l.foldl cbyte c
theorem cbyte_run (c : BitVec 32) (x : UInt8) (f : Nat → Bool) (h : ∀ i, i < 8 → f i = x.toNat.testBit i) : crun f c 8 = cbyte c x := by
  rw [crun_num f c (BitVec.ofNat 32 x.toNat) 8 (by omega) (fun i hi => by rw [h i hi, BitVec.getLsbD_ofNat]; simp; omega), cbyte]
  congr 2
  have := x.toNat_lt
  unfold low
  congr 1
  rw [BitVec.toNat_ofNat]; omega
theorem bitAt_front (l r : List UInt8) (p : Nat) (h : p < 8 * l.length) : bitAt (l ++ r) p = bitAt l p := by
  unfold bitAt
  congr 2
  rw [List.getD_eq_getElem?_getD, List.getD_eq_getElem?_getD, List.getElem?_append_left (by omega)]
theorem bitAt_back (l r : List UInt8) (p : Nat) : bitAt (l ++ r) (8 * l.length + p) = bitAt r p := by
  unfold bitAt
  rw [List.getD_eq_getElem?_getD, List.getD_eq_getElem?_getD, List.getElem?_append_right (by omega), show (8 * l.length + p) % 8 = p % 8 by omega, show (8 * l.length + p) / 8 - l.length = p / 8 by omega]
theorem crc_run (c : BitVec 32) (l : List UInt8) : crc c l = crun (bitAt l) c (8 * l.length) := by
  induction l generalizing c with
  | nil => rfl
  | cons x l ih =>
    rw [List.length_cons, show 8 * (l.length + 1) = 8 + 8 * l.length by omega, crun_add, cbyte_run c x (bitAt (x :: l)) (fun i hi => by
      unfold bitAt
      rw [show i / 8 = 0 by omega, show i % 8 = i by omega]; rfl)]
    show crc (cbyte c x) l = _
    rw [ih]
    exact crun_congr _ _ fun i _ => (bitAt_back [x] l i).symm
/-- Four bytes of a number, the lowest one ahead. -/
def le4 (c : BitVec 32) : List UInt8 := [UInt8.ofNat c.toNat, UInt8.ofNat (c.toNat / 256), UInt8.ofNat (c.toNat / 65536), UInt8.ofNat (c.toNat / 16777216)]
theorem ofNat_bit (n i : Nat) (hi : i < 8) : (UInt8.ofNat n).toNat.testBit i = n.testBit i := by
  rw [UInt8.toNat_ofNat', show 2 ^ 8 = 2 ^ 8 from rfl, Nat.testBit_mod_two_pow]
  simp [hi]
theorem le4_bit (c : BitVec 32) (i : Nat) (hi : i < 32) : bitAt (le4 c) i = c.getLsbD i := by
  unfold bitAt le4 BitVec.getLsbD
  have h : i / 8 = 0 ∨ i / 8 = 1 ∨ i / 8 = 2 ∨ i / 8 = 3 := by omega
  rcases h with h | h | h | h
  · rw [h]; show (UInt8.ofNat c.toNat).toNat.testBit _ = _
    rw [ofNat_bit _ _ (by omega)]; congr 1; omega
  · rw [h]; show (UInt8.ofNat (c.toNat / 256)).toNat.testBit _ = _
    rw [ofNat_bit _ _ (by omega), show 256 = 2 ^ 8 from rfl, Nat.testBit_div_two_pow]; congr 1; omega
  · rw [h]; show (UInt8.ofNat (c.toNat / 65536)).toNat.testBit _ = _
    rw [ofNat_bit _ _ (by omega), show 65536 = 2 ^ 16 from rfl, Nat.testBit_div_two_pow]; congr 1; omega
  · rw [h]; show (UInt8.ofNat (c.toNat / 16777216)).toNat.testBit _ = _
    rw [ofNat_bit _ _ (by omega), show 16777216 = 2 ^ 24 from rfl, Nat.testBit_div_two_pow]; congr 1; omega
def crcOf (l : List UInt8) : BitVec 32 := ~~~ crc (BitVec.allOnes 32) l
/-- A text with its sum. -/
def sealed (l : List UInt8) : List UInt8 := l ++ le4 (crcOf l)
theorem sealed_run (l : List UInt8) : crc (BitVec.allOnes 32) (sealed l) = csteps 32 (BitVec.allOnes 32) := by
  unfold sealed
  show List.foldl cbyte _ (l ++ _) = _
  rw [List.foldl_append]
  show crc (crc _ l) _ = _
  rw [crc_run, show 8 * (le4 (crcOf l)).length = 32 from rfl, crun_num _ _ (crcOf l) 32 (by omega) (le4_bit _), low_all]
  congr 1
  unfold crcOf
  refine bv_ext fun i hi => ?_
  generalize crc (BitVec.allOnes 32) l = x
  rw [BitVec.getLsbD_xor, BitVec.getLsbD_not, BitVec.getLsbD_allOnes, decide_eq_true hi]
  cases x.getLsbD i <;> rfl
/-- Bits that are turned within 32 in a row. -/
def turned (t k p : Nat) : Bool := decide (k ≤ p) && (decide (p < k + 32) && t.testBit (p - k))
/-- What is turned within 32 bits in a row is seen. -/
theorem burst {a b : List UInt8} {t k : Nat} (hl : a.length = b.length) (ht : t < 2 ^ 32) (hk : k + 32 ≤ 8 * a.length) (hb : ∀ p, p < 8 * a.length → bitAt b p = (bitAt a p ^^ turned t k p))
    (h : crc (BitVec.allOnes 32) a = crc (BitVec.allOnes 32) b) : t = 0 := by
  rw [crc_run, crc_run, ← hl] at h
  have h1 : crun (turned t k) 0 (8 * a.length) = 0 := by
    have e := crun_xor (bitAt a) (bitAt b) (BitVec.allOnes 32) (BitVec.allOnes 32) (8 * a.length)
    rw [h, BitVec.xor_self, BitVec.xor_self] at e
    refine Eq.trans (crun_congr _ _ fun i hi => ?_) e
    rw [hb i hi]
    cases bitAt a i <;> cases turned t k i <;> rfl
  obtain ⟨m, hm⟩ : ∃ m, 8 * a.length = k + 32 + m := ⟨8 * a.length - (k + 32), by omega⟩
  rw [hm, crun_add, crun_none _ _ m (fun i _ => by
    unfold turned
    rw [show decide (k + 32 + i < k + 32) = false by simp]; simp)] at h1
  have h2 := csteps_none _ h1
  rw [crun_add, crun_none _ _ k (fun i hi => by unfold turned; rw [show decide (k ≤ i) = false by simp; omega]; rfl), csteps_zero] at h2
  rw [crun_num _ _ (BitVec.ofNat 32 t) 32 (by omega) (fun i hi => by
    unfold turned
    rw [BitVec.getLsbD_ofNat, show k + i - k = i by omega]
    simp [hi]), low_all] at h2
  have h3 := csteps_none _ h2
  have h4 := congrArg BitVec.toNat h3
  simp at h4
  omega
/-- What a byte does, by a table. -/
theorem cbyte_table (c : BitVec 32) (x : UInt8) : cbyte c x = csteps 8 (BitVec.ofNat 32 ((c.toNat % 256) ^^^ x.toNat)) ^^^ (c >>> 8) := by
  unfold cbyte
  have hx := x.toNat_lt
  have e : c ^^^ BitVec.ofNat 32 x.toNat = BitVec.ofNat 32 ((c.toNat % 256) ^^^ x.toNat) ^^^ ((c >>> 8) <<< 8) := by
    refine bv_ext fun i hi => ?_
    rw [BitVec.getLsbD_xor, BitVec.getLsbD_xor, BitVec.getLsbD_ofNat, BitVec.getLsbD_ofNat, BitVec.getLsbD_shiftLeft, BitVec.getLsbD_ushiftRight, Nat.testBit_xor, show (256 : Nat) = 2 ^ 8 from rfl, Nat.testBit_mod_two_pow]
    by_cases h8 : i < 8
    · simp [hi, h8, BitVec.getLsbD]
    · have : x.toNat.testBit i = false := Nat.testBit_lt_two_pow (Nat.lt_of_lt_of_le hx (Nat.pow_le_pow_right (by omega) (by omega)))
      simp [hi, h8, this, show 8 + (i - 8) = i by omega]
  rw [e, csteps_xor, csteps_even ((c >>> 8) <<< 8) 8 (fun i hi => by rw [BitVec.getLsbD_shiftLeft]; simp [hi])]
  congr 1
  refine bv_ext fun i hi => ?_
  rw [BitVec.getLsbD_ushiftRight, BitVec.getLsbD_shiftLeft, BitVec.getLsbD_ushiftRight, BitVec.getLsbD_ushiftRight]
  by_cases h : 8 + i < 32
  · simp [h]
  · have : c.getLsbD (8 + i) = false := BitVec.getLsbD_of_ge c _ (by omega)
    simp [h, this]
end Go.Proofs.Ytienlhnbmobinaa
