/- The arithmetic of unsigned numbers, as numbers of bits. No statement of the seat is proved in this text. -/
import Derived.Test.YtofoamkiidkbkaaRaw
set_option linter.unusedSimpArgs false
set_option linter.unusedVariables false
set_option linter.unusedSectionVars false
set_option linter.unnecessarySimpa false
namespace Go.Lk

def wb (k : IntKind) (x : BitVec k.bits) : Value := .int k x.toNat

theorem ofInt_nat {n : Nat} (x : BitVec n) : BitVec.ofInt n (x.toNat : Int) = x := by
  rw [BitVec.ofInt_natCast]; simp

theorem wrapU {k : IntKind} (hk : k.signed = false) (z : Int) : k.wrap z = ((BitVec.ofInt k.bits z).toNat : Int) := by
  cases k <;> first | (simp [IntKind.signed] at hk; done) | (simp [IntKind.wrap, IntKind.signed, IntKind.bits, BitVec.toNat_ofInt]; omega)

theorem wrapN {k : IntKind} (hk : k.signed = false) (x : BitVec k.bits) : k.wrap (x.toNat : Int) = x.toNat := by
  rw [wrapU hk, ofInt_nat]

section
variable {k : IntKind} (hk : k.signed = false) (a b : BitVec k.bits)
include hk
theorem wb_add : binv .add (wb k a) (wb k b) = some (wb k (a + b)) := by
  simp only [wb, binv, if_true, intv, wrapU hk, BitVec.ofInt_add, ofInt_nat]
theorem wb_sub : binv .sub (wb k a) (wb k b) = some (wb k (a - b)) := by
  simp only [wb, binv, if_true, intv, wrapU hk, Int.sub_eq_add_neg, BitVec.ofInt_add, BitVec.ofInt_neg, ofInt_nat, BitVec.sub_eq_add_neg]
theorem wb_mul : binv .mul (wb k a) (wb k b) = some (wb k (a * b)) := by
  simp only [wb, binv, if_true, intv, wrapU hk, BitVec.ofInt_mul, ofInt_nat]
theorem wb_and : binv .and (wb k a) (wb k b) = some (wb k (a &&& b)) := by
  simp only [wb, binv, if_true, intv, ofInt_nat, wrapN hk]
theorem wb_or : binv .or (wb k a) (wb k b) = some (wb k (a ||| b)) := by
  simp only [wb, binv, if_true, intv, ofInt_nat, wrapN hk]
theorem wb_xor : binv .xor (wb k a) (wb k b) = some (wb k (a ^^^ b)) := by
  simp only [wb, binv, if_true, intv, ofInt_nat, wrapN hk]
theorem wb_andNot : binv .andNot (wb k a) (wb k b) = some (wb k (a &&& ~~~b)) := by
  simp only [wb, binv, if_true, intv, ofInt_nat, wrapN hk]
theorem wb_not : unv .xor (wb k a) = some (wb k (~~~a)) := by
  simp only [wb, unv, hk, Bool.false_eq_true, if_false, ofInt_nat]
  have : BitVec.ofInt k.bits k.max = BitVec.allOnes k.bits := by
    simp only [IntKind.max, hk, Bool.false_eq_true, if_false]
    apply BitVec.eq_of_toNat_eq
    cases k <;> simp [IntKind.signed] at hk <;> rfl
  rw [this, wrapN hk, BitVec.allOnes_xor]
theorem wb_neg : unv .neg (wb k a) = some (wb k (-a)) := by
  simp only [wb, unv, wrapU hk, Int.zero_sub, BitVec.ofInt_neg, ofInt_nat]
theorem wb_shl (k' : IntKind) (n : Nat) : binv .shl (wb k a) (.int k' n) = some (wb k (a <<< n)) := by
  simp only [wb, binv]
  rw [if_neg (by omega), wrapU hk]
  congr 3
  rw [BitVec.toNat_ofInt, BitVec.toNat_shiftLeft, Nat.shiftLeft_eq]
  simp only [Int.toNat_natCast]
  have e : (a.toNat : Int) * 2 ^ min n k.bits = ((a.toNat * 2 ^ min n k.bits : Nat) : Int) := by simp
  have e2 : ((2 : Int) ^ k.bits) = ((2 ^ k.bits : Nat) : Int) := by simp
  rw [e]
  norm_cast
  by_cases h : n ≤ k.bits
  · rw [Nat.min_eq_left h]; rfl
  · rw [Nat.min_eq_right (by omega)]
    obtain ⟨d, hd⟩ : ∃ d, n = k.bits + d := ⟨n - k.bits, by omega⟩
    rw [hd, Nat.pow_add, ← Nat.mul_assoc, Nat.mul_right_comm]
    simp
theorem wb_shr (k' : IntKind) (n : Nat) : binv .shr (wb k a) (.int k' n) = some (wb k (a >>> n)) := by
  simp only [wb, binv]
  rw [if_neg (by omega)]
  congr 2
  rw [BitVec.toNat_ushiftRight, Nat.shiftRight_eq_div_pow]
  simp only [Int.toNat_natCast]
  have e : ((2 : Int) ^ min n k.bits) = ((2 ^ min n k.bits : Nat) : Int) := by simp
  rw [e]
  show ((a.toNat : Int)).fdiv _ = _
  rw [← Int.ofNat_fdiv]
  by_cases h : n ≤ k.bits
  · rw [Nat.min_eq_left h]
  · rw [Nat.min_eq_right (by omega), Nat.div_eq_of_lt a.isLt, Nat.div_eq_of_lt]
    exact Nat.lt_trans a.isLt (Nat.pow_lt_pow_right (by omega) (by omega))
omit hk
theorem wb_eql : binv .eql (wb k a) (wb k b) = some (.bool (decide (a = b))) := by
  simp only [wb, binv, if_true, intv]
  congr 2
  by_cases h : a = b
  · subst h; simp
  · have : ¬ a.toNat = b.toNat := fun e => h (BitVec.eq_of_toNat_eq e)
    simp [h, this]
    omega
theorem wb_neq : binv .neq (wb k a) (wb k b) = some (.bool (!decide (a = b))) := by
  have := wb_eql (k := k) a b
  simp only [wb, binv, if_true, intv] at this ⊢
  injection this with this
  injection this with this
  simp only [bne, this]
theorem wb_lss : binv .lss (wb k a) (wb k b) = some (.bool (decide (a.toNat < b.toNat))) := by
  simp only [wb, binv, if_true, intv]
  congr 2
  simp
theorem wb_gtr : binv .gtr (wb k a) (wb k b) = some (.bool (decide (b.toNat < a.toNat))) := by
  simp only [wb, binv, if_true, intv]
  congr 2
  simp
theorem wb_leq : binv .leq (wb k a) (wb k b) = some (.bool (decide (a.toNat ≤ b.toNat))) := by
  simp only [wb, binv, if_true, intv]
  congr 2
  simp
theorem wb_geq : binv .geq (wb k a) (wb k b) = some (.bool (decide (b.toNat ≤ a.toNat))) := by
  simp only [wb, binv, if_true, intv]
  congr 2
  simp
end

theorem cvi_w (k : IntKind) (hk : k.signed = false) (j : IntKind) (z : Int) : cviv k (.int j z) = some (wb k (BitVec.ofInt k.bits z)) := by
  simp only [cviv, wb, wrapU hk]

theorem words :
    (∀ a b, binv .add (w32 a) (w32 b) = some (w32 (a + b))) ∧ (∀ a b, binv .sub (w32 a) (w32 b) = some (w32 (a - b))) ∧ (∀ a b, binv .mul (w32 a) (w32 b) = some (w32 (a * b))) ∧
    (∀ a b, binv .and (w32 a) (w32 b) = some (w32 (a &&& b))) ∧ (∀ a b, binv .or (w32 a) (w32 b) = some (w32 (a ||| b))) ∧ (∀ a b, binv .xor (w32 a) (w32 b) = some (w32 (a ^^^ b))) ∧
    (∀ a, unv .xor (w32 a) = some (w32 (~~~a))) ∧ (∀ a n, binv .shl (w32 a) (w64 n) = some (w32 (a <<< n.toNat))) ∧ (∀ a n, binv .shr (w32 a) (w64 n) = some (w32 (a >>> n.toNat))) ∧
    (∀ a b, binv .eql (w32 a) (w32 b) = some (.bool (decide (a = b)))) ∧ (∀ a b, binv .neq (w32 a) (w32 b) = some (.bool (!decide (a = b)))) ∧
    (∀ a b, binv .add (w64 a) (w64 b) = some (w64 (a + b))) ∧ (∀ a b, binv .sub (w64 a) (w64 b) = some (w64 (a - b))) ∧ (∀ a b, binv .mul (w64 a) (w64 b) = some (w64 (a * b))) ∧
    (∀ a b, binv .and (w64 a) (w64 b) = some (w64 (a &&& b))) ∧ (∀ a b, binv .or (w64 a) (w64 b) = some (w64 (a ||| b))) ∧ (∀ a b, binv .xor (w64 a) (w64 b) = some (w64 (a ^^^ b))) ∧
    (∀ a b, binv .andNot (w64 a) (w64 b) = some (w64 (a &&& ~~~b))) ∧ (∀ a, unv .xor (w64 a) = some (w64 (~~~a))) ∧ (∀ a, unv .neg (w64 a) = some (w64 (-a))) ∧
    (∀ a n, binv .shl (w64 a) (w64 n) = some (w64 (a <<< n.toNat))) ∧ (∀ a n, binv .shr (w64 a) (w64 n) = some (w64 (a >>> n.toNat))) ∧
    (∀ a b, binv .eql (w64 a) (w64 b) = some (.bool (decide (a = b)))) ∧ (∀ a b, binv .neq (w64 a) (w64 b) = some (.bool (!decide (a = b)))) ∧
    (∀ a b, binv .lss (w64 a) (w64 b) = some (.bool (decide (a.toNat < b.toNat)))) ∧ (∀ a b, binv .gtr (w64 a) (w64 b) = some (.bool (decide (b.toNat < a.toNat)))) ∧
    (∀ a b, binv .leq (w64 a) (w64 b) = some (.bool (decide (a.toNat ≤ b.toNat)))) ∧ (∀ a b, binv .geq (w64 a) (w64 b) = some (.bool (decide (b.toNat ≤ a.toNat)))) ∧
    (∀ a b, binv .add (w8 a) (w8 b) = some (w8 (a + b))) ∧ (∀ a b, binv .sub (w8 a) (w8 b) = some (w8 (a - b))) ∧ (∀ a b, binv .mul (w8 a) (w8 b) = some (w8 (a * b))) ∧
    (∀ a b, binv .and (w8 a) (w8 b) = some (w8 (a &&& b))) ∧ (∀ a b, binv .or (w8 a) (w8 b) = some (w8 (a ||| b))) ∧ (∀ a b, binv .xor (w8 a) (w8 b) = some (w8 (a ^^^ b))) ∧
    (∀ a b, binv .eql (w8 a) (w8 b) = some (.bool (decide (a = b)))) ∧ (∀ a b, binv .neq (w8 a) (w8 b) = some (.bool (!decide (a = b)))) ∧
    (∀ a n, binv .shr (w8 a) (w64 n) = some (w8 ⟨a.toBitVec >>> n.toNat⟩)) ∧ (∀ a n, binv .shl (w8 a) (w64 n) = some (w8 ⟨a.toBitVec <<< n.toNat⟩)) ∧
    (∀ x, cviv .u32 (w8 x) = some (w32 (x.toBitVec.setWidth 32))) ∧ (∀ x, cviv .u64 (w8 x) = some (w64 (x.toBitVec.setWidth 64))) ∧ (∀ x, cviv .u8 (w32 x) = some (w8 ⟨x.setWidth 8⟩)) ∧ (∀ x, cviv .u8 (w64 x) = some (w8 ⟨x.setWidth 8⟩)) ∧
    (∀ x, cviv .u64 (w32 x) = some (w64 (x.setWidth 64))) ∧ (∀ x, cviv .u32 (w64 x) = some (w32 (x.setWidth 32))) ∧ (∀ n, cviv .u64 (vi n) = some (w64 (BitVec.ofInt 64 n))) ∧ (∀ n, cviv .u32 (vi n) = some (w32 (BitVec.ofInt 32 n))) ∧
    (∀ x, cviv .i64 (w64 x) = some (vi x.toInt)) ∧ (∀ x, cviv .i64 (w32 x) = some (vi x.toNat)) ∧ (∀ x, cviv .u8 (w8 x) = some (w8 x)) := by
  have u8 : ∀ x : UInt8, w8 x = wb .u8 x.toBitVec := fun _ => rfl
  have hs : ∀ (m n : Nat) (x : BitVec m), BitVec.ofInt n (x.toNat : Int) = x.setWidth n := fun m n x => by
    rw [BitVec.ofInt_natCast]; exact BitVec.eq_of_toNat_eq (by simp)
  refine ⟨wb_add (k := .u32) rfl, wb_sub (k := .u32) rfl, wb_mul (k := .u32) rfl, wb_and (k := .u32) rfl, wb_or (k := .u32) rfl, wb_xor (k := .u32) rfl, wb_not (k := .u32) rfl, fun a n => wb_shl (k := .u32) rfl a _ n.toNat, fun a n => wb_shr (k := .u32) rfl a _ n.toNat, wb_eql (k := .u32), wb_neq (k := .u32),
    wb_add (k := .u64) rfl, wb_sub (k := .u64) rfl, wb_mul (k := .u64) rfl, wb_and (k := .u64) rfl, wb_or (k := .u64) rfl, wb_xor (k := .u64) rfl, wb_andNot (k := .u64) rfl, wb_not (k := .u64) rfl, wb_neg (k := .u64) rfl, fun a n => wb_shl (k := .u64) rfl a _ n.toNat, fun a n => wb_shr (k := .u64) rfl a _ n.toNat, wb_eql (k := .u64), wb_neq (k := .u64),
    wb_lss (k := .u64), wb_gtr (k := .u64), wb_leq (k := .u64), wb_geq (k := .u64),
    fun a b => wb_add (k := .u8) rfl a.toBitVec b.toBitVec, fun a b => wb_sub (k := .u8) rfl a.toBitVec b.toBitVec, fun a b => wb_mul (k := .u8) rfl a.toBitVec b.toBitVec, fun a b => wb_and (k := .u8) rfl a.toBitVec b.toBitVec, fun a b => wb_or (k := .u8) rfl a.toBitVec b.toBitVec, fun a b => wb_xor (k := .u8) rfl a.toBitVec b.toBitVec, ?_, ?_,
    fun a n => wb_shr (k := .u8) rfl a.toBitVec _ n.toNat, fun a n => wb_shl (k := .u8) rfl a.toBitVec _ n.toNat, ?_, ?_, ?_, ?_, ?_, ?_, fun n => cvi_w .u64 rfl _ n, fun n => cvi_w .u32 rfl _ n, ?_, ?_, ?_⟩
  · intro a b
    simp only [w8, binv, if_true, intv]
    by_cases h : a = b
    · subst h; simp
    · have h2 : ¬ (a.toNat : Int) = b.toNat := fun e => h (UInt8.toNat_inj.1 (by omega))
      simp [h, h2]
  · intro a b
    simp only [w8, binv, if_true, intv]
    by_cases h : a = b
    · subst h; simp
    · have h2 : ¬ (a.toNat : Int) = b.toNat := fun e => h (UInt8.toNat_inj.1 (by omega))
      simp [h, h2, bne]
  · intro x; exact (cvi_w .u32 rfl .u8 x.toNat).trans (congrArg (fun y => some (wb .u32 y)) (hs 8 32 x.toBitVec))
  · intro x; exact (cvi_w .u64 rfl .u8 x.toNat).trans (congrArg (fun y => some (wb .u64 y)) (hs 8 64 x.toBitVec))
  · intro x; exact (cvi_w .u8 rfl .u32 x.toNat).trans (congrArg (fun y => some (wb .u8 y)) (hs 32 8 x))
  · intro x; exact (cvi_w .u8 rfl .u64 x.toNat).trans (congrArg (fun y => some (wb .u8 y)) (hs 64 8 x))
  · intro x; exact (cvi_w .u64 rfl .u32 x.toNat).trans (congrArg (fun y => some (wb .u64 y)) (hs 32 64 x))
  · intro x; exact (cvi_w .u32 rfl .u64 x.toNat).trans (congrArg (fun y => some (wb .u32 y)) (hs 64 32 x))
  · intro x
    simp only [cviv, w64]
    congr 2
    have := x.isLt
    rw [BitVec.toInt_eq_toNat_cond]
    by_cases h : 2 * x.toNat < 2 ^ 64
    · rw [if_pos h, wrap64_id (by omega) (by omega)]
    · rw [if_neg h]
      have e : (decide ((x.toNat : Int) % (2 ^ IntKind.i64.bits : Int) ≥ (2 ^ (IntKind.i64.bits - 1) : Int))) = true := by
        rw [decide_eq_true_eq]
        show (2 ^ 63 : Int) ≤ (x.toNat : Int) % 2 ^ 64
        omega
      simp only [IntKind.wrap, e, IntKind.signed, Bool.true_and, if_true]
      show (x.toNat : Int) % 2 ^ 64 - 2 ^ 64 = _
      omega
  · intro x
    simp only [cviv, w32]
    congr 2
    have := x.isLt
    rw [wrap64_id (by omega) (by omega)]
  · intro x
    exact (cvi_w .u8 rfl .u8 x.toNat).trans (congrArg (fun y => some (wb .u8 y)) (ofInt_nat x.toBitVec))
end Go.Lk
