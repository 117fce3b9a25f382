/- Unsigned numbers as natural ones. No statement of the seat is proved in this text. -/
import Derived.Test.YtofoamkiidkbkaaRaw2
import Derived.Lib.Mul64
set_option linter.unusedSimpArgs false
set_option linter.unusedVariables false
set_option linter.unusedSectionVars false
set_option linter.unnecessarySimpa false
namespace Go.Lk

/-- a number in 64 bits -/
abbrev n64 (n : Nat) : Value := w64 (BitVec.ofNat 64 n)

theorem n64_and32 (a : Nat) (h : a < 18446744073709551616) : binv .and (n64 a) (n64 4294967295) = some (n64 (a % 4294967296)) := by
  rw [words.2.2.2.2.2.2.2.2.2.2.2.2.2.2.1]
  congr 2
  apply BitVec.eq_of_toNat_eq
  simp only [BitVec.toNat_and, BitVec.toNat_ofNat]
  rw [Nat.mod_eq_of_lt (show a < 2 ^ 64 from h), show 4294967295 % 2 ^ 64 = 2 ^ 32 - 1 by decide, Nat.and_two_pow_sub_one_eq_mod]
  omega
theorem n64_and3 (a : Nat) (h : a < 18446744073709551616) : binv .and (n64 a) (n64 3) = some (n64 (a % 4)) := by
  rw [words.2.2.2.2.2.2.2.2.2.2.2.2.2.2.1]
  congr 2
  apply BitVec.eq_of_toNat_eq
  simp only [BitVec.toNat_and, BitVec.toNat_ofNat]
  rw [Nat.mod_eq_of_lt (show a < 2 ^ 64 from h), show 3 % 2 ^ 64 = 2 ^ 2 - 1 by decide, Nat.and_two_pow_sub_one_eq_mod]
  omega
theorem n64_add (a b : Nat) : binv .add (n64 a) (n64 b) = some (n64 (a + b)) := by
  rw [words.2.2.2.2.2.2.2.2.2.2.2.1]; simp only [n64, BitVec.ofNat_add]
theorem n64_mul (a b : Nat) : binv .mul (n64 a) (n64 b) = some (n64 (a * b)) := by
  rw [words.2.2.2.2.2.2.2.2.2.2.2.2.2.1]; simp only [n64, BitVec.ofNat_mul]
theorem n64_shr (a k : Nat) (h : a < 18446744073709551616) (hk : k < 64) : binv .shr (n64 a) (n64 k) = some (n64 (a / 2 ^ k)) := by
  have := wb_shr (k := .u64) rfl (BitVec.ofNat 64 a) .u64 ((BitVec.ofNat 64 k).toNat)
  refine this.trans ?_
  simp only [n64, w64, wb]
  congr 3
  show (BitVec.ofNat 64 a >>> (BitVec.ofNat 64 k).toNat).toNat = (BitVec.ofNat 64 (a / 2 ^ k)).toNat
  have hd : a / 2 ^ k < 2 ^ 64 := Nat.lt_of_le_of_lt (Nat.div_le_self _ _) h
  rw [BitVec.toNat_ushiftRight, BitVec.toNat_ofNat, BitVec.toNat_ofNat, BitVec.toNat_ofNat, Nat.mod_eq_of_lt (show a < 2 ^ 64 from h), Nat.mod_eq_of_lt (show k < 2 ^ 64 by omega), Nat.shiftRight_eq_div_pow, Nat.mod_eq_of_lt hd]
theorem n64_shl (a k : Nat) (hk : k < 64) : binv .shl (n64 a) (n64 k) = some (n64 (a * 2 ^ k)) := by
  have := wb_shl (k := .u64) rfl (BitVec.ofNat 64 a) .u64 ((BitVec.ofNat 64 k).toNat)
  refine this.trans ?_
  simp only [n64, w64, wb]
  congr 3
  show (BitVec.ofNat 64 a <<< (BitVec.ofNat 64 k).toNat).toNat = (BitVec.ofNat 64 (a * 2 ^ k)).toNat
  rw [BitVec.toNat_shiftLeft, BitVec.toNat_ofNat, BitVec.toNat_ofNat, BitVec.toNat_ofNat, Nat.mod_eq_of_lt (show k < 2 ^ 64 by omega), Nat.shiftLeft_eq, Nat.mod_mul_mod]
theorem n64_shlv (a : Nat) (k : Int) (h0 : 0 ≤ k) (hk : k < 64) : binv .shl (n64 a) (vi k) = some (n64 (a * 2 ^ k.toNat)) := by
  obtain ⟨n, rfl⟩ := Int.eq_ofNat_of_zero_le h0
  have := wb_shl (k := .u64) rfl (BitVec.ofNat 64 a) .i64 n
  refine this.trans ?_
  simp only [n64, w64, wb]
  congr 3
  show (BitVec.ofNat 64 a <<< n).toNat = (BitVec.ofNat 64 (a * 2 ^ n)).toNat
  rw [BitVec.toNat_shiftLeft, BitVec.toNat_ofNat, BitVec.toNat_ofNat, Nat.shiftLeft_eq, Nat.mod_mul_mod]
theorem n64_shrv (a : Nat) (k : Int) (h : a < 18446744073709551616) (h0 : 0 ≤ k) (hk : k < 64) : binv .shr (n64 a) (vi k) = some (n64 (a / 2 ^ k.toNat)) := by
  obtain ⟨n, rfl⟩ := Int.eq_ofNat_of_zero_le h0
  have := wb_shr (k := .u64) rfl (BitVec.ofNat 64 a) .i64 n
  refine this.trans ?_
  simp only [n64, w64, wb]
  congr 3
  show (BitVec.ofNat 64 a >>> n).toNat = (BitVec.ofNat 64 (a / 2 ^ n)).toNat
  have hd : a / 2 ^ n < 2 ^ 64 := Nat.lt_of_le_of_lt (Nat.div_le_self _ _) h
  rw [BitVec.toNat_ushiftRight, BitVec.toNat_ofNat, BitVec.toNat_ofNat, Nat.mod_eq_of_lt (show a < 2 ^ 64 from h), Nat.shiftRight_eq_div_pow, Nat.mod_eq_of_lt hd]
theorem n64_gtr (a b : Nat) (h : a < 18446744073709551616) (h' : b < 18446744073709551616) : binv .gtr (n64 a) (n64 b) = some (.bool (decide (b < a))) := by
  have := words.2.2.2.2.2.2.2.2.2.2.2.2.2.2.2.2.2.2.2.2.2.2.2.2.2.1 (BitVec.ofNat 64 a) (BitVec.ofNat 64 b)
  refine this.trans ?_
  rw [BitVec.toNat_ofNat, BitVec.toNat_ofNat]
  rw [Nat.mod_eq_of_lt (show a < 2 ^ 64 from h), Nat.mod_eq_of_lt (show b < 2 ^ 64 from h')]
theorem n64_or (a b k : Nat) (h : a < 2 ^ k) (hb : b % 2 ^ k = 0) : binv .or (n64 a) (n64 b) = some (n64 (a + b)) := by
  rw [words.2.2.2.2.2.2.2.2.2.2.2.2.2.2.2.1]
  congr 2
  obtain ⟨c, rfl⟩ : ∃ c, b = c * 2 ^ k := ⟨b / 2 ^ k, (Nat.div_mul_cancel (Nat.dvd_of_mod_eq_zero hb)).symm⟩
  have : a + c * 2 ^ k = c <<< k ||| a := by
    rw [← Nat.shiftLeft_add_eq_or_of_lt h, Nat.shiftLeft_eq, Nat.add_comm]
  rw [this, Nat.or_comm, Nat.shiftLeft_eq, BitVec.ofNat_or]
theorem n64_mod (a b : Nat) (h : a % 18446744073709551616 = b % 18446744073709551616) : n64 a = n64 b := by
  simp only [n64]
  congr 1
  apply BitVec.eq_of_toNat_eq
  simpa using h
theorem cvi_n64 (x : UInt8) : cviv .u64 (w8 x) = some (n64 x.toNat) := by
  rw [words.2.2.2.2.2.2.2.2.2.2.2.2.2.2.2.2.2.2.2.2.2.2.2.2.2.2.2.2.2.2.2.2.2.2.2.2.2.2.2.1]
  congr 2
  apply BitVec.eq_of_toNat_eq
  have := x.toNat_lt
  simp
theorem n64_toNat {a : Nat} (h : a < 18446744073709551616) : (n64 a) = .int .u64 (a : Int) := by
  simp only [n64, w64]
  rw [BitVec.toNat_ofNat, Nat.mod_eq_of_lt (show a < 2 ^ 64 from h)]

theorem nums :
    (∀ a b, binv .add (n64 a) (n64 b) = some (n64 (a + b))) ∧ (∀ a b, binv .mul (n64 a) (n64 b) = some (n64 (a * b))) ∧
    (∀ a, a < 18446744073709551616 → binv .and (n64 a) (n64 4294967295) = some (n64 (a % 4294967296))) ∧ (∀ a, a < 18446744073709551616 → binv .and (n64 a) (n64 3) = some (n64 (a % 4))) ∧
    (∀ a k, a < 18446744073709551616 → k < 64 → binv .shr (n64 a) (n64 k) = some (n64 (a / 2 ^ k))) ∧ (∀ a k, k < 64 → binv .shl (n64 a) (n64 k) = some (n64 (a * 2 ^ k))) ∧
    (∀ (a : Nat) (k : Int), 0 ≤ k → k < 64 → binv .shl (n64 a) (vi k) = some (n64 (a * 2 ^ k.toNat))) ∧ (∀ (a : Nat) (k : Int), a < 18446744073709551616 → 0 ≤ k → k < 64 → binv .shr (n64 a) (vi k) = some (n64 (a / 2 ^ k.toNat))) ∧
    (∀ a b, a < 18446744073709551616 → b < 18446744073709551616 → binv .gtr (n64 a) (n64 b) = some (.bool (decide (b < a)))) ∧ (∀ x, cviv .u64 (w8 x) = some (n64 x.toNat)) :=
  ⟨n64_add, n64_mul, n64_and32, n64_and3, n64_shr, n64_shl, n64_shlv, n64_shrv, n64_gtr, cvi_n64⟩
end Go.Lk
