/- Poly1305: products. No statement of the seat is proved in this text. -/
import Derived.Test.YtofoamkiidkbkaaPoly2
set_option linter.unusedSimpArgs false
set_option linter.unusedVariables false
set_option linter.unusedSectionVars false
set_option linter.unnecessarySimpa false
set_option maxRecDepth 10000
set_option maxHeartbeats 2000000
namespace Go.Lk

def V5 (p : List Nat) : Nat := p.getD 0 0 + 18446744073709551616 * p.getD 1 0 + 340282366920938463463374607431768211456 * p.getD 2 0 + 6277101735386680763835789423207666416102355444464034512896 * p.getD 3 0 + 115792089237316195423570985008687907853269984665640564039457584007913129639936 * p.getD 4 0

theorem five {p : List Nat} (h : p.length = 5) : ∃ a b c d e, p = [a, b, c, d, e] := by
  match p, h with
  | [a, b, c, d, e], _ => exact ⟨a, b, c, d, e, rfl⟩

theorem V5_set {p : List Nat} (h : p.length = 5) (j x : Nat) (hj : j < 5) : V5 (p.set j x) + p.getD j 0 * 18446744073709551616 ^ j = V5 p + x * 18446744073709551616 ^ j := by
  obtain ⟨a, b, c, d, e, rfl⟩ := five h
  match j, hj with
  | 0, _ | 1, _ | 2, _ | 3, _ | 4, _ => simp [V5]; omega

theorem V5_limbs {p : List Nat} (h : p.length = 5) (hb : ∀ j, j < 5 → p.getD j 0 < 18446744073709551616) : p = [limb (V5 p) 0, limb (V5 p) 1, limb (V5 p) 2, limb (V5 p) 3, limb (V5 p) 4] := by
  obtain ⟨a, b, c, d, e, rfl⟩ := five h
  have h0 := hb 0 (by omega)
  have h1 := hb 1 (by omega)
  have h2 := hb 2 (by omega)
  have h3 := hb 3 (by omega)
  have h4 := hb 4 (by omega)
  simp [V5, limb] at *
  omega

/-- the low words of a number: of a up to i -/
def low (a i : Nat) : Nat := a % 18446744073709551616 ^ i
theorem low_succ (a i : Nat) (hi : i < 3) : low a (i + 1) = low a i + limb a i * 18446744073709551616 ^ i := by
  match i, hi with
  | 0, _ | 1, _ | 2, _ => simp only [low, limb, Nat.reduceAdd, Nat.reducePow]; omega

/-- one step of the product -/
theorem mulStep {p : List Nat} (hp : p.length = 5) (hpb : ∀ j, j < 5 → p.getD j 0 < 18446744073709551616) {a b i k cy : Nat} (hi : i < 3) (hk : k < 2) (hcy : cy < 18446744073709551616)
    (hV : V5 p + cy * 18446744073709551616 ^ (i + k) = low a i * b + limb a i * 18446744073709551616 ^ i * low b k) {hi' lo' c1 q c2 : Nat}
    (e1 : hi' = limb a i * limb b k / 18446744073709551616) (e2 : lo' = (limb a i * limb b k % 18446744073709551616 + p.getD (i + k) 0) % 18446744073709551616) (e3 : c1 = (limb a i * limb b k % 18446744073709551616 + p.getD (i + k) 0) / 18446744073709551616)
    (e4 : q = (lo' + cy) % 18446744073709551616) (e5 : c2 = (lo' + cy) / 18446744073709551616) :
    hi' + c1 + c2 < 18446744073709551616 ∧ V5 (p.set (i + k) q) + (hi' + c1 + c2) * 18446744073709551616 ^ (i + (k + 1)) = low a i * b + limb a i * 18446744073709551616 ^ i * low b (k + 1) := by
  have hm : limb a i * limb b k ≤ 18446744073709551615 * 18446744073709551615 := Nat.mul_le_mul (by have := limb_lt a i; omega) (by have := limb_lt b k; omega)
  have hpj := hpb (i + k) (by omega)
  have hq : q + 18446744073709551616 * (hi' + c1 + c2) = limb a i * limb b k + p.getD (i + k) 0 + cy := by
    subst e1 e2 e3 e4 e5
    generalize limb a i * limb b k = m at *
    omega
  refine ⟨by generalize limb a i * limb b k = m at *; omega, ?_⟩
  have hs := V5_set hp (i + k) q (by omega)
  have hl := low_succ b k (by omega)
  rw [hl]
  have e : 18446744073709551616 ^ (i + (k + 1)) = 18446744073709551616 ^ (i + k) * 18446744073709551616 := by rw [← Nat.add_assoc, Nat.pow_succ]
  rw [e]
  have e' : 18446744073709551616 ^ (i + k) = 18446744073709551616 ^ i * 18446744073709551616 ^ k := Nat.pow_add _ _ _
  generalize 18446744073709551616 ^ (i + k) = X at *
  generalize 18446744073709551616 ^ i = Y at *
  generalize 18446744073709551616 ^ k = Z at *
  generalize hi' + c1 + c2 = C at *
  generalize p.getD (i + k) 0 = pj at *
  generalize V5 (p.set (i + k) q) = V' at *
  generalize V5 p = V0 at *
  generalize low a i * b = L at *
  generalize limb a i = ai at *
  generalize limb b k = bk at *
  generalize low b k = lb at *
  clear e1 e2 e3 e4 e5 hm hpj hpb hcy hl
  have h1 : q * X + X * 18446744073709551616 * C = ai * bk * X + pj * X + cy * X := by
    have := congrArg (· * X) hq
    simp only [Nat.add_mul] at this
    rw [show X * 18446744073709551616 * C = 18446744073709551616 * C * X by grind]
    exact this
  have h2 : ai * Y * (lb + bk * Z) = ai * Y * lb + ai * bk * X := by subst e'; grind
  rw [h2]
  have h3 : C * (X * 18446744073709551616) = X * 18446744073709551616 * C := Nat.mul_comm _ _
  rw [h3]
  omega

theorem n64_or' (a b k : Nat) (h : b < 2 ^ k) (hb : a % 2 ^ k = 0) : binv .or (n64 a) (n64 b) = some (n64 (a + b)) := by
  have := n64_or b a k h hb
  rw [words.2.2.2.2.2.2.2.2.2.2.2.2.2.2.2.1] at this ⊢
  rw [BitVec.or_comm, this, Nat.add_comm]

theorem vn_get {p : List Nat} {n : Nat} (h : p.length = n) (j : Nat) (hj : j < n) : (p.map n64)[j]? = some (n64 (p.getD j 0)) := by
  subst h
  simp [List.getD, hj]
theorem getD_set_of {p : List Nat} {j x i : Nat} : (p.set j x).getD i 0 = if j = i ∧ j < p.length then x else p.getD i 0 := by
  simp only [List.getD, List.getElem?_set]
  by_cases h : j = i
  · subst h
    by_cases h2 : j < p.length
    · simp [h2]
    · simp [h2]
  · simp [h]

/-- a product, less most of the whole times 2^130 - 5 -/
def polyFold (n : Nat) : Nat := n % 1361129467683753853853498429727072845824 + 5 * (n / 1361129467683753853853498429727072845824)

theorem k143 {w : World} (a b : Nat) (ha : a < 2722258935367507707706996859454145691648) (hb : b < 21267647932558653966460912964485513216) :
    Calls Go.Proofs.Try.prog 143 #[.agg (w3 a).toArray, .agg (w3 b).toArray] w fun e w' => e = .returned (.agg (w3 (polyFold (a * b))).toArray) ∧ Ex w w' := by
  refine enter mo (args := [.agg (w3 a).toArray, .agg (w3 b).toArray]) Go.Proofs.Try.func143 c143 (by simp [x143]) ?_
  simp only [x143, env0]
  simp -dsimp (disch := first | omega | rfl | simp only [all_cons, all_nil, plain_w32, plain_w8, plain_w64, plain_ws, plain_int, plain_bool, plain_slice, plain_ptr, plain_map, plain_iface, Bool.and_self]) only [↓pre, ↓pre2, ↓pre3, ↓look_cons, ↓look_bnd, ↓look_bnd0, ↓opd_tmp, ↓opd_const, ↓ite_f, ↓ite_t, ↓reduceIte, post, post2, decide_true, decide_false, opds, Nat.reduceEqDiff, Nat.reduceAdd, Nat.zero_add, Nat.add_zero, Nat.mul_one, Int.toNat_natCast, Int.reduceToNat]
  refine box_rule fun b2 w1 hb2 hc2 he1 hs1 => ?_
  simp -dsimp (disch := first | omega | rfl | simp only [all_cons, all_nil, plain_w32, plain_w8, plain_w64, plain_ws, plain_int, plain_bool, plain_slice, plain_ptr, plain_map, plain_iface, Bool.and_self]) only [↓pre, ↓pre2, ↓pre3, ↓look_cons, ↓look_bnd, ↓look_bnd0, ↓opd_tmp, ↓opd_const, ↓ite_f, ↓ite_t, ↓reduceIte, post, post2, decide_true, decide_false, opds, Nat.reduceEqDiff, Nat.reduceAdd, Nat.zero_add, Nat.add_zero, Nat.mul_one, Int.toNat_natCast, Int.reduceToNat]
  refine box_rule fun b3 w2 hb3 hc3 he2 hs2 => ?_
  simp -dsimp (disch := first | omega | rfl | simp only [all_cons, all_nil, plain_w32, plain_w8, plain_w64, plain_ws, plain_int, plain_bool, plain_slice, plain_ptr, plain_map, plain_iface, Bool.and_self]) only [↓pre, ↓pre2, ↓pre3, ↓look_cons, ↓look_bnd, ↓look_bnd0, ↓opd_tmp, ↓opd_const, ↓ite_f, ↓ite_t, ↓reduceIte, post, post2, decide_true, decide_false, opds, Nat.reduceEqDiff, Nat.reduceAdd, Nat.zero_add, Nat.add_zero, Nat.mul_one, Int.toNat_natCast, Int.reduceToNat]
  refine alloc_rule (z := w3 0) (by kernel_rfl) fun b4 w3' hb4 hc4 he3 hs3 => ?_
  simp -dsimp (disch := first | omega | rfl | simp only [all_cons, all_nil, plain_w32, plain_w8, plain_w64, plain_ws, plain_int, plain_bool, plain_slice, plain_ptr, plain_map, plain_iface, Bool.and_self]) only [↓pre, ↓pre2, ↓pre3, ↓look_cons, ↓look_bnd, ↓look_bnd0, ↓opd_tmp, ↓opd_const, ↓ite_f, ↓ite_t, ↓reduceIte, post, post2, decide_true, decide_false, opds, Nat.reduceEqDiff, Nat.reduceAdd, Nat.zero_add, Nat.add_zero, Nat.mul_one, Int.toNat_natCast, Int.reduceToNat]
  refine alloc_rule (z := [0, 0, 0, 0, 0].map n64) (by kernel_rfl) fun b5 w4 hb5 hc5 he4 hs4 => ?_
  have hE4 := ((he1.trans he2).trans he3).trans he4
  have hb5w : w.heap.size ≤ b5 := by omega
  have C2 : Cw w4.heap b2 (w3 a) := by simpa [Value.cells] using ((hc2.ex he2).ex he3).ex he4
  have C3 : Cw w4.heap b3 (w3 b) := by simpa [Value.cells] using (hc3.ex he3).ex he4
  simp -dsimp (disch := first | omega | rfl | simp only [all_cons, all_nil, plain_w32, plain_w8, plain_w64, plain_ws, plain_int, plain_bool, plain_slice, plain_ptr, plain_map, plain_iface, Bool.and_self]) only [↓pre, ↓pre2, ↓pre3, ↓look_cons, ↓look_bnd, ↓look_bnd0, ↓opd_tmp, ↓opd_const, ↓ite_f, ↓ite_t, ↓reduceIte, post, post2, decide_true, decide_false, opds, Nat.reduceEqDiff, Nat.reduceAdd, Nat.zero_add, Nat.add_zero, Nat.mul_one, Int.toNat_natCast, Int.reduceToNat]
  refine lda_cw C2 rfl ?_
  simp -dsimp (disch := first | omega | rfl | simp only [all_cons, all_nil, plain_w32, plain_w8, plain_w64, plain_ws, plain_int, plain_bool, plain_slice, plain_ptr, plain_map, plain_iface, Bool.and_self]) only [↓pre, ↓pre2, ↓pre3, ↓look_cons, ↓look_bnd, ↓look_bnd0, ↓opd_tmp, ↓opd_const, ↓ite_f, ↓ite_t, ↓reduceIte, post, post2, decide_true, decide_false, opds, Nat.reduceEqDiff, Nat.reduceAdd, Nat.zero_add, Nat.add_zero, Nat.mul_one, Int.toNat_natCast, Int.reduceToNat]
  refine loop_rule (fun i : Nat => [(18, vi i), (17, .agg (w3 a).toArray), (3, .pointer (some ⟨b3, 0, none⟩)), (4, .pointer (some ⟨b4, 0, none⟩)), (5, .pointer (some ⟨b5, 0, none⟩))])
    (fun i v => i ≤ 3 ∧ (∃ p : List Nat, p.length = 5 ∧ (∀ j, j < 5 → p.getD j 0 < 18446744073709551616) ∧ (∀ j, i + 2 ≤ j → p.getD j 0 = 0) ∧ V5 p = low a i * b ∧ Cw v.heap b5 (p.map n64)) ∧ Cw v.heap b3 (w3 b) ∧ Cw v.heap b4 (w3 0) ∧ Ex w v) (fun k => 3 - k) 0 (by simp [sub, look, bnd, add_addr])
    ⟨by omega, ⟨[0, 0, 0, 0, 0], rfl, by intro j hj; match j, hj with | 0, _ | 1, _ | 2, _ | 3, _ | 4, _ => simp, by
      intro j hj
      match j with
      | 0 | 1 => omega
      | 2 | 3 | 4 => rfl
      | j + 5 => simp [List.getD], by simp [V5, low, Nat.mod_one], hc5⟩, C3, hc4.ex he4, hE4⟩ ?_
  rintro i v ⟨hi, ⟨p, hp, hpb, hpz, hV, h5⟩, h3, h4, hE⟩
  simp -dsimp (disch := first | omega | rfl | simp only [all_cons, all_nil, plain_w32, plain_w8, plain_w64, plain_ws, plain_int, plain_bool, plain_slice, plain_ptr, plain_map, plain_iface, Bool.and_self]) only [↓pre, ↓pre2, ↓pre3, ↓look_cons, ↓look_bnd, ↓look_bnd0, ↓opd_tmp, ↓opd_const, ↓ite_f, ↓ite_t, ↓reduceIte, post, post2, decide_true, decide_false, opds, Nat.reduceEqDiff, Nat.reduceAdd, Nat.zero_add, Nat.add_zero, Nat.mul_one, Int.toNat_natCast, Int.reduceToNat]
  refine cond_dec (fun hlt => ?_) (fun hge => ?_)
  · have hi3 : i < 3 := by omega
    have gi := w3_get a i hi3
    simp -dsimp (disch := first | omega | rfl | simp only [all_cons, all_nil, plain_w32, plain_w8, plain_w64, plain_ws, plain_int, plain_bool, plain_slice, plain_ptr, plain_map, plain_iface, Bool.and_self]) only [↓pre, ↓pre2, ↓pre3, ↓look_cons, ↓look_bnd, ↓look_bnd0, ↓opd_tmp, ↓opd_const, ↓ite_f, ↓ite_t, ↓reduceIte, post, post2, decide_true, decide_false, opds, Nat.reduceEqDiff, Nat.reduceAdd, Nat.zero_add, Nat.add_zero, Nat.mul_one, Int.toNat_natCast, Int.reduceToNat, ind_ok, gi]
    refine sla_rule (a := ⟨b3, 0, none⟩) (m := 3) (h := 2) (l := 0) rfl rfl rfl ?_
    simp -dsimp (disch := first | omega | rfl | simp only [all_cons, all_nil, plain_w32, plain_w8, plain_w64, plain_ws, plain_int, plain_bool, plain_slice, plain_ptr, plain_map, plain_iface, Bool.and_self]) only [↓pre, ↓pre2, ↓pre3, ↓look_cons, ↓look_bnd, ↓look_bnd0, ↓opd_tmp, ↓opd_const, ↓ite_f, ↓ite_t, ↓reduceIte, post, post2, decide_true, decide_false, opds, Nat.reduceEqDiff, Nat.reduceAdd, Nat.zero_add, Nat.add_zero, Nat.mul_one, Int.toNat_natCast, Int.reduceToNat]
    refine loop_rule (fun k : Nat × Nat => [(24, vi k.1), (23, vi 2), (22, .slice (some ⟨b3, 0, none⟩) 2 3), (8, n64 k.2), (6, vi i), (7, n64 (limb a i)), (18, vi i), (17, .agg (w3 a).toArray), (3, .pointer (some ⟨b3, 0, none⟩)), (4, .pointer (some ⟨b4, 0, none⟩)), (5, .pointer (some ⟨b5, 0, none⟩))])
      (fun k v => k.1 ≤ 2 ∧ k.2 < 18446744073709551616 ∧ (∃ p : List Nat, p.length = 5 ∧ (∀ j, j < 5 → p.getD j 0 < 18446744073709551616) ∧ (∀ j, i + 2 ≤ j → p.getD j 0 = 0) ∧ V5 p + k.2 * 18446744073709551616 ^ (i + k.1) = low a i * b + limb a i * 18446744073709551616 ^ i * low b k.1 ∧ Cw v.heap b5 (p.map n64)) ∧ Cw v.heap b3 (w3 b) ∧ Cw v.heap b4 (w3 0) ∧ Ex w v) (fun k => 2 - k.1) (0, 0) (by simp [sub, look, bnd, add_addr, add_addr])
      ⟨by simp, by simp, ⟨p, hp, hpb, hpz, by simp [hV, low, Nat.mod_one], h5⟩, h3, h4, hE⟩ ?_
    rintro ⟨k, cy⟩ v ⟨hk, hcy, ⟨p, hp, hpb, hpz, hV, h5⟩, h3, h4, hE⟩
    simp only at hk hcy hV
    simp -dsimp (disch := first | omega | rfl | simp only [all_cons, all_nil, plain_w32, plain_w8, plain_w64, plain_ws, plain_int, plain_bool, plain_slice, plain_ptr, plain_map, plain_iface, Bool.and_self]) only [↓pre, ↓pre2, ↓pre3, ↓look_cons, ↓look_bnd, ↓look_bnd0, ↓opd_tmp, ↓opd_const, ↓ite_f, ↓ite_t, ↓reduceIte, post, post2, decide_true, decide_false, opds, Nat.reduceEqDiff, Nat.reduceAdd, Nat.zero_add, Nat.add_zero, Nat.mul_one, Int.toNat_natCast, Int.reduceToNat]
    refine cond_dec (fun hlt => ?_) (fun hge => ?_)
    · have hk2 : k < 2 := by omega
      have gk := w3_get b k (by omega)
      simp -dsimp (disch := first | omega | rfl | simp only [all_cons, all_nil, plain_w32, plain_w8, plain_w64, plain_ws, plain_int, plain_bool, plain_slice, plain_ptr, plain_map, plain_iface, Bool.and_self]) only [↓pre, ↓pre2, ↓pre3, ↓look_cons, ↓look_bnd, ↓look_bnd0, ↓opd_tmp, ↓opd_const, ↓ite_f, ↓ite_t, ↓reduceIte, post, post2, decide_true, decide_false, opds, Nat.reduceEqDiff, Nat.reduceAdd, Nat.zero_add, Nat.add_zero, Nat.mul_one, Int.toNat_natCast, Int.reduceToNat, h3.cell, gk]
      refine call_rule (k152 (limb a i) (limb b k) (limb_lt _ _) (limb_lt _ _)) ?_
      rintro en v1 ⟨rfl, hx1⟩
      refine ⟨_, rfl, ?_⟩
      rw [n64_mod (limb a i * limb b k) (limb a i * limb b k % 18446744073709551616) (by omega)]
      have gp := vn_get hp (i + k) (by omega)
      have ei : ((i : Int) + (k : Int)).toNat = i + k := by omega
      simp -dsimp (disch := first | omega | rfl | simp only [all_cons, all_nil, plain_w32, plain_w8, plain_w64, plain_ws, plain_int, plain_bool, plain_slice, plain_ptr, plain_map, plain_iface, Bool.and_self]) only [↓pre, ↓pre2, ↓pre3, ↓look_cons, ↓look_bnd, ↓look_bnd0, ↓opd_tmp, ↓opd_const, ↓ite_f, ↓ite_t, ↓reduceIte, post, post2, decide_true, decide_false, opds, Nat.reduceEqDiff, Nat.reduceAdd, Nat.zero_add, Nat.add_zero, Nat.mul_one, Int.toNat_natCast, Int.reduceToNat, (h5.ex hx1).cell, ei, gp]
      refine add64_rule (limb a i * limb b k % 18446744073709551616) (p.getD (i + k) 0) 0 (by omega) (hpb _ (by omega)) (by omega) rfl ?_
      simp -dsimp (disch := first | omega | rfl | simp only [all_cons, all_nil, plain_w32, plain_w8, plain_w64, plain_ws, plain_int, plain_bool, plain_slice, plain_ptr, plain_map, plain_iface, Bool.and_self]) only [↓pre, ↓pre2, ↓pre3, ↓look_cons, ↓look_bnd, ↓look_bnd0, ↓opd_tmp, ↓opd_const, ↓ite_f, ↓ite_t, ↓reduceIte, post, post2, decide_true, decide_false, opds, Nat.reduceEqDiff, Nat.reduceAdd, Nat.zero_add, Nat.add_zero, Nat.mul_one, Int.toNat_natCast, Int.reduceToNat, nums]
      refine add64_rule ((limb a i * limb b k % 18446744073709551616 + p.getD (i + k) 0 + 0) % 18446744073709551616) cy 0 (by omega) hcy (by omega) rfl ?_
      simp -dsimp (disch := first | omega | rfl | simp only [all_cons, all_nil, plain_w32, plain_w8, plain_w64, plain_ws, plain_int, plain_bool, plain_slice, plain_ptr, plain_map, plain_iface, Bool.and_self]) only [↓pre, ↓pre2, ↓pre3, ↓look_cons, ↓look_bnd, ↓look_bnd0, ↓opd_tmp, ↓opd_const, ↓ite_f, ↓ite_t, ↓reduceIte, post, post2, decide_true, decide_false, opds, Nat.reduceEqDiff, Nat.reduceAdd, Nat.zero_add, Nat.add_zero, Nat.mul_one, Int.toNat_natCast, Int.reduceToNat, nums, ei]
      refine store_rule (h5.ex hx1) (by simp [hp]; omega) (plain_w64 _) fun v2 hc hf hs => ?_
      obtain ⟨hC, hV'⟩ := mulStep hp hpb hi3 hk2 hcy hV (hi' := limb a i * limb b k / 18446744073709551616) (lo' := (limb a i * limb b k % 18446744073709551616 + p.getD (i + k) 0) % 18446744073709551616)
        (c1 := (limb a i * limb b k % 18446744073709551616 + p.getD (i + k) 0) / 18446744073709551616) (q := ((limb a i * limb b k % 18446744073709551616 + p.getD (i + k) 0) % 18446744073709551616 + cy) % 18446744073709551616)
        (c2 := ((limb a i * limb b k % 18446744073709551616 + p.getD (i + k) 0) % 18446744073709551616 + cy) / 18446744073709551616) rfl rfl rfl rfl rfl
      rw [← List.map_set] at hc
      simp -dsimp (disch := first | omega | rfl | simp only [all_cons, all_nil, plain_w32, plain_w8, plain_w64, plain_ws, plain_int, plain_bool, plain_slice, plain_ptr, plain_map, plain_iface, Bool.and_self]) only [↓pre, ↓pre2, ↓pre3, ↓look_cons, ↓look_bnd, ↓look_bnd0, ↓opd_tmp, ↓opd_const, ↓ite_f, ↓ite_t, ↓reduceIte, post, post2, decide_true, decide_false, opds, Nat.reduceEqDiff, Nat.reduceAdd, Nat.zero_add, Nat.add_zero, Nat.mul_one, Int.toNat_natCast, Int.reduceToNat]
      refine ⟨(k + 1, _), by simp [sub, look, bnd, add_addr]; first | rfl | done, ⟨by simp only; omega, hC, ⟨_, by simpa using hp, ?_, ?_, hV', hc⟩, Cw.fr (M := (· = b5)) (h3.ex hx1) hf (by omega), Cw.fr (M := (· = b5)) (h4.ex hx1) hf (by omega), Ex.young (hE.trans hx1) hf hb5w⟩, by simp only; omega⟩
      · intro j hj
        rw [getD_set_of]
        split
        · omega
        · exact hpb j hj
      · intro j hj
        rw [getD_set_of, if_neg (by omega)]
        exact hpz j hj
    · have hk2 : k = 2 := by omega
      subst hk2
      have hl2 : low b 2 = b := by simp only [low, Nat.reducePow]; omega
      rw [hl2] at hV
      have gp := vn_get hp (i + 2) (by omega)
      have ei : ((i : Int) + 2).toNat = i + 2 := by omega
      have hz := hpz (i + 2) (by omega)
      rw [hz] at gp
      simp -dsimp (disch := first | omega | rfl | simp only [all_cons, all_nil, plain_w32, plain_w8, plain_w64, plain_ws, plain_int, plain_bool, plain_slice, plain_ptr, plain_map, plain_iface, Bool.and_self]) only [↓pre, ↓pre2, ↓pre3, ↓look_cons, ↓look_bnd, ↓look_bnd0, ↓opd_tmp, ↓opd_const, ↓ite_f, ↓ite_t, ↓reduceIte, post, post2, decide_true, decide_false, opds, Nat.reduceEqDiff, Nat.reduceAdd, Nat.zero_add, Nat.add_zero, Nat.mul_one, Int.toNat_natCast, Int.reduceToNat, nums, h5.cell, ei, gp]
      refine store_rule h5 (by simp [hp]; omega) (plain_w64 _) fun v2 hc hf hs => ?_
      rw [← List.map_set] at hc
      have hs5 := V5_set hp (i + 2) cy (by omega)
      rw [hz, Nat.zero_mul, Nat.add_zero, hV] at hs5
      simp -dsimp (disch := first | omega | rfl | simp only [all_cons, all_nil, plain_w32, plain_w8, plain_w64, plain_ws, plain_int, plain_bool, plain_slice, plain_ptr, plain_map, plain_iface, Bool.and_self]) only [↓pre, ↓pre2, ↓pre3, ↓look_cons, ↓look_bnd, ↓look_bnd0, ↓opd_tmp, ↓opd_const, ↓ite_f, ↓ite_t, ↓reduceIte, post, post2, decide_true, decide_false, opds, Nat.reduceEqDiff, Nat.reduceAdd, Nat.zero_add, Nat.add_zero, Nat.mul_one, Int.toNat_natCast, Int.reduceToNat]
      refine ⟨i + 1, by simp [sub, look, bnd, add_addr], ⟨by omega, ⟨_, by simpa using hp, ?_, ?_, ?_, hc⟩, Cw.fr (M := (· = b5)) h3 hf (by omega), Cw.fr (M := (· = b5)) h4 hf (by omega), Ex.young hE hf hb5w⟩, by omega⟩
      · intro j hj
        rw [getD_set_of]
        split
        · exact hcy
        · exact hpb j hj
      · intro j hj
        rw [getD_set_of, if_neg (by omega)]
        exact hpz j (by omega)
      · rw [hs5, low_succ a i hi3, Nat.add_mul]
  · have hk3 : i = 3 := by omega
    subst hk3
    have hl3 : low a 3 = a := by simp only [low, Nat.reducePow]; omega
    rw [hl3] at hV
    have hP : a * b < 57896044618658097711785492504343953926634992332820282019728792003956564819968 := by
      have h1 : a * b ≤ a * 21267647932558653966460912964485513216 := Nat.mul_le_mul_left _ (by omega)
      omega
    have hpl := V5_limbs hp hpb
    rw [hV] at hpl
    rw [hpl] at h5
    clear hpl hV hp hpb hpz
    generalize a * b = N at h5 hP ⊢
    have H5 : Cw v.heap b5 [n64 (limb N 0), n64 (limb N 1), n64 (limb N 2), n64 (limb N 3), n64 (limb N 4)] := h5
    have l2 := limb_lt N 2
    have l3 := limb_lt N 3
    have l4 := limb_lt N 4
    have z4 : limb N 4 = 0 := by simp only [limb]; omega
    rw [z4] at H5
    have o1 := n64_or (limb N 2 / 2 ^ 2) (limb N 3 * 2 ^ 62) 62 (by omega) (Nat.mul_mod_left _ _)
    have o2 := n64_or (limb N 3 / 2 ^ 2) (0 * 2 ^ 62) 62 (by omega) (Nat.mul_mod_left _ _)
    have c0 : v.cell? ⟨b5, 0, none⟩ = some (n64 (limb N 0)) := H5.cell 0
    have c1 : v.cell? ⟨b5, 1, none⟩ = some (n64 (limb N 1)) := H5.cell 1
    have c2 : v.cell? ⟨b5, 2, none⟩ = some (n64 (limb N 2)) := H5.cell 2
    have c3 : v.cell? ⟨b5, 3, none⟩ = some (n64 (limb N 3)) := H5.cell 3
    have c4 : v.cell? ⟨b5, 4, none⟩ = some (n64 0) := H5.cell 4
    have hlow : [n64 (limb N 0), n64 (limb N 1), n64 (limb N 2 % 4)] = w3 (N % 1361129467683753853853498429727072845824) := by
      simp only [w3]
      rw [show limb (N % 1361129467683753853853498429727072845824) 0 = limb N 0 by simp only [limb]; omega, show limb (N % 1361129467683753853853498429727072845824) 1 = limb N 1 by simp only [limb]; omega,
        show limb (N % 1361129467683753853853498429727072845824) 2 = limb N 2 % 4 by simp only [limb]; omega]
    have hhigh : [n64 (limb N 2 / 2 ^ 2 + limb N 3 * 2 ^ 62), n64 (limb N 3 / 2 ^ 2 + 0 * 2 ^ 62), n64 (0 / 2 ^ 2)] = w3 (N / 1361129467683753853853498429727072845824) := by
      simp only [w3]
      rw [n64_mod (limb N 2 / 2 ^ 2 + limb N 3 * 2 ^ 62) (limb (N / 1361129467683753853853498429727072845824) 0) (by simp only [limb]; omega), n64_mod (limb N 3 / 2 ^ 2 + 0 * 2 ^ 62) (limb (N / 1361129467683753853853498429727072845824) 1) (by simp only [limb] at z4 ⊢; omega),
        n64_mod (0 / 2 ^ 2) (limb (N / 1361129467683753853853498429727072845824) 2) (by simp only [limb] at z4 ⊢; omega)]
    simp -dsimp (disch := first | omega | rfl | simp only [all_cons, all_nil, plain_w32, plain_w8, plain_w64, plain_ws, plain_int, plain_bool, plain_slice, plain_ptr, plain_map, plain_iface, Bool.and_self]) only [↓pre, ↓pre2, ↓pre3, ↓look_cons, ↓look_bnd, ↓look_bnd0, ↓opd_tmp, ↓opd_const, ↓ite_f, ↓ite_t, ↓reduceIte, post, post2, decide_true, decide_false, opds, Nat.reduceEqDiff, Nat.reduceAdd, Nat.zero_add, Nat.add_zero, Nat.mul_one, Int.toNat_natCast, Int.reduceToNat, nums, c0, c1, c2]
    refine alloc_rule (z := w3 0) (by kernel_rfl) fun b6 w6 hb6 hc6 he6 hs6 => ?_
    simp -dsimp (disch := first | omega | rfl | simp only [all_cons, all_nil, plain_w32, plain_w8, plain_w64, plain_ws, plain_int, plain_bool, plain_slice, plain_ptr, plain_map, plain_iface, Bool.and_self]) only [↓pre, ↓pre2, ↓pre3, ↓look_cons, ↓look_bnd, ↓look_bnd0, ↓opd_tmp, ↓opd_const, ↓ite_f, ↓ite_t, ↓reduceIte, post, post2, decide_true, decide_false, opds, Nat.reduceEqDiff, Nat.reduceAdd, Nat.zero_add, Nat.add_zero, Nat.mul_one, Int.toNat_natCast, Int.reduceToNat]
    refine stores_all (cs := w3 (N % 1361129467683753853853498429727072845824)) hc6 hlow rfl rfl rfl fun w7 hc7 hf7 hs7 => ?_
    have hE7 : Ex v w7 := Ex.young he6 hf7 (by omega)
    have d2 : w7.cell? ⟨b5, 2, none⟩ = some (n64 (limb N 2)) := (H5.ex hE7).cell 2
    have d3 : w7.cell? ⟨b5, 3, none⟩ = some (n64 (limb N 3)) := (H5.ex hE7).cell 3
    have d4 : w7.cell? ⟨b5, 4, none⟩ = some (n64 0) := (H5.ex hE7).cell 4
    simp -dsimp (disch := first | omega | rfl | simp only [all_cons, all_nil, plain_w32, plain_w8, plain_w64, plain_ws, plain_int, plain_bool, plain_slice, plain_ptr, plain_map, plain_iface, Bool.and_self]) only [↓pre, ↓pre2, ↓pre3, ↓look_cons, ↓look_bnd, ↓look_bnd0, ↓opd_tmp, ↓opd_const, ↓ite_f, ↓ite_t, ↓reduceIte, post, post2, decide_true, decide_false, opds, Nat.reduceEqDiff, Nat.reduceAdd, Nat.zero_add, Nat.add_zero, Nat.mul_one, Int.toNat_natCast, Int.reduceToNat, nums, d2, d3, d4, o1, o2]
    refine alloc_rule (z := w3 0) (by kernel_rfl) fun b8 w8' hb8 hc8 he8 hs8 => ?_
    simp -dsimp (disch := first | omega | rfl | simp only [all_cons, all_nil, plain_w32, plain_w8, plain_w64, plain_ws, plain_int, plain_bool, plain_slice, plain_ptr, plain_map, plain_iface, Bool.and_self]) only [↓pre, ↓pre2, ↓pre3, ↓look_cons, ↓look_bnd, ↓look_bnd0, ↓opd_tmp, ↓opd_const, ↓ite_f, ↓ite_t, ↓reduceIte, post, post2, decide_true, decide_false, opds, Nat.reduceEqDiff, Nat.reduceAdd, Nat.zero_add, Nat.add_zero, Nat.mul_one, Int.toNat_natCast, Int.reduceToNat]
    refine stores_all (cs := w3 (N / 1361129467683753853853498429727072845824)) hc8 hhigh rfl rfl rfl fun w9 hc9 hf9 hs9 => ?_
    have hE9 : Ex v w9 := Ex.young (hE7.trans he8) hf9 (by have := hE7.size; omega)
    have hc7' : Cw w9.heap b6 _ := Cw.fr (M := (· = b8)) (hc7.ex he8) hf9 (by have := hc7.lt; omega)
    obtain ⟨H, hH⟩ : ∃ H, H = N / 1361129467683753853853498429727072845824 := ⟨_, rfl⟩
    have hHb : H < 42535295865117307932921825928971026432 := by omega
    rw [← hH] at hc9
    have f0 : w9.cell? ⟨b8, 0, none⟩ = some (n64 (limb H 0)) := hc9.cell 0
    have f1 : w9.cell? ⟨b8, 1, none⟩ = some (n64 (limb H 1)) := hc9.cell 1
    have f2 : w9.cell? ⟨b8, 2, none⟩ = some (n64 (limb H 2)) := hc9.cell 2
    have k0 := limb_lt H 0
    have k1 := limb_lt H 1
    have k2 := limb_lt H 2
    have o3 := n64_or' (limb H 1 * 2 ^ 2) (limb H 0 / 2 ^ 62) 2 (by omega) (Nat.mul_mod_left _ _)
    have o4 := n64_or' (limb H 2 * 2 ^ 2) (limb H 1 / 2 ^ 62) 2 (by omega) (Nat.mul_mod_left _ _)
    have hfour : [n64 (limb H 0 * 2 ^ 2), n64 (limb H 1 * 2 ^ 2 + limb H 0 / 2 ^ 62), n64 (limb H 2 * 2 ^ 2 + limb H 1 / 2 ^ 62)] = w3 (4 * H) := by
      simp only [w3]
      rw [n64_mod (limb H 0 * 2 ^ 2) (limb (4 * H) 0) (by simp only [limb]; omega), n64_mod (limb H 1 * 2 ^ 2 + limb H 0 / 2 ^ 62) (limb (4 * H) 1) (by simp only [limb]; omega), n64_mod (limb H 2 * 2 ^ 2 + limb H 1 / 2 ^ 62) (limb (4 * H) 2) (by simp only [limb]; omega)]
    simp -dsimp (disch := first | omega | rfl | simp only [all_cons, all_nil, plain_w32, plain_w8, plain_w64, plain_ws, plain_int, plain_bool, plain_slice, plain_ptr, plain_map, plain_iface, Bool.and_self]) only [↓pre, ↓pre2, ↓pre3, ↓look_cons, ↓look_bnd, ↓look_bnd0, ↓opd_tmp, ↓opd_const, ↓ite_f, ↓ite_t, ↓reduceIte, post, post2, decide_true, decide_false, opds, Nat.reduceEqDiff, Nat.reduceAdd, Nat.zero_add, Nat.add_zero, Nat.mul_one, Int.toNat_natCast, Int.reduceToNat, nums, f0, f1, f2, o3, o4]
    refine alloc_rule (z := w3 0) (by kernel_rfl) fun b10 w10 hb10 hc10 he10 hs10 => ?_
    simp -dsimp (disch := first | omega | rfl | simp only [all_cons, all_nil, plain_w32, plain_w8, plain_w64, plain_ws, plain_int, plain_bool, plain_slice, plain_ptr, plain_map, plain_iface, Bool.and_self]) only [↓pre, ↓pre2, ↓pre3, ↓look_cons, ↓look_bnd, ↓look_bnd0, ↓opd_tmp, ↓opd_const, ↓ite_f, ↓ite_t, ↓reduceIte, post, post2, decide_true, decide_false, opds, Nat.reduceEqDiff, Nat.reduceAdd, Nat.zero_add, Nat.add_zero, Nat.mul_one, Int.toNat_natCast, Int.reduceToNat]
    refine stores_all (cs := w3 (4 * H)) hc10 hfour rfl rfl rfl fun w11 hc11 hf11 hs11 => ?_
    have hE11 : Ex v w11 := Ex.young (hE9.trans he10) hf11 (by have := hE9.size; omega)
    have hc7'' : Cw w11.heap b6 _ := Cw.fr (M := (· = b10)) (hc7'.ex he10) hf11 (by have := hc7'.lt; omega)
    have hc9' : Cw w11.heap b8 _ := Cw.fr (M := (· = b10)) (hc9.ex he10) hf11 (by have := hc9.lt; omega)
    simp -dsimp (disch := first | omega | rfl | simp only [all_cons, all_nil, plain_w32, plain_w8, plain_w64, plain_ws, plain_int, plain_bool, plain_slice, plain_ptr, plain_map, plain_iface, Bool.and_self]) only [↓pre, ↓pre2, ↓pre3, ↓look_cons, ↓look_bnd, ↓look_bnd0, ↓opd_tmp, ↓opd_const, ↓ite_f, ↓ite_t, ↓reduceIte, post, post2, decide_true, decide_false, opds, Nat.reduceEqDiff, Nat.reduceAdd, Nat.zero_add, Nat.add_zero, Nat.mul_one, Int.toNat_natCast, Int.reduceToNat]
    refine par_ex ?_
    simp -dsimp (disch := first | omega | rfl | simp only [all_cons, all_nil, plain_w32, plain_w8, plain_w64, plain_ws, plain_int, plain_bool, plain_slice, plain_ptr, plain_map, plain_iface, Bool.and_self]) only [↓pre, ↓pre2, ↓pre3, ↓look_cons, ↓look_bnd, ↓look_bnd0, ↓opd_tmp, ↓opd_const, ↓ite_f, ↓ite_t, ↓reduceIte, post, post2, decide_true, decide_false, opds, Nat.reduceEqDiff, Nat.reduceAdd, Nat.zero_add, Nat.add_zero, Nat.mul_one, Int.toNat_natCast, Int.reduceToNat]
    refine lda_cw (w := w11.drew) hc7'' rfl ?_
    simp -dsimp (disch := first | omega | rfl | simp only [all_cons, all_nil, plain_w32, plain_w8, plain_w64, plain_ws, plain_int, plain_bool, plain_slice, plain_ptr, plain_map, plain_iface, Bool.and_self]) only [↓pre, ↓pre2, ↓pre3, ↓look_cons, ↓look_bnd, ↓look_bnd0, ↓opd_tmp, ↓opd_const, ↓ite_f, ↓ite_t, ↓reduceIte, post, post2, decide_true, decide_false, opds, Nat.reduceEqDiff, Nat.reduceAdd, Nat.zero_add, Nat.add_zero, Nat.mul_one, Int.toNat_natCast, Int.reduceToNat]
    refine lda_cw (w := w11.drew) hc9' rfl ?_
    simp -dsimp (disch := first | omega | rfl | simp only [all_cons, all_nil, plain_w32, plain_w8, plain_w64, plain_ws, plain_int, plain_bool, plain_slice, plain_ptr, plain_map, plain_iface, Bool.and_self]) only [↓pre, ↓pre2, ↓pre3, ↓look_cons, ↓look_bnd, ↓look_bnd0, ↓opd_tmp, ↓opd_const, ↓ite_f, ↓ite_t, ↓reduceIte, post, post2, decide_true, decide_false, opds, Nat.reduceEqDiff, Nat.reduceAdd, Nat.zero_add, Nat.add_zero, Nat.mul_one, Int.toNat_natCast, Int.reduceToNat]
    refine lda_cw (w := w11.drew) hc11 rfl ?_
    simp -dsimp (disch := first | omega | rfl | simp only [all_cons, all_nil, plain_w32, plain_w8, plain_w64, plain_ws, plain_int, plain_bool, plain_slice, plain_ptr, plain_map, plain_iface, Bool.and_self]) only [↓pre, ↓pre2, ↓pre3, ↓look_cons, ↓look_bnd, ↓look_bnd0, ↓opd_tmp, ↓opd_const, ↓ite_f, ↓ite_t, ↓reduceIte, post, post2, decide_true, decide_false, opds, Nat.reduceEqDiff, Nat.reduceAdd, Nat.zero_add, Nat.add_zero, Nat.mul_one, Int.toNat_natCast, Int.reduceToNat]
    refine call_rule (k142 _ _) ?_
    rintro en w12 ⟨rfl, hx12⟩
    refine ⟨_, rfl, keep_yes hx12 ?_⟩
    simp -dsimp (disch := first | omega | rfl | simp only [all_cons, all_nil, plain_w32, plain_w8, plain_w64, plain_ws, plain_int, plain_bool, plain_slice, plain_ptr, plain_map, plain_iface, Bool.and_self]) only [↓pre, ↓pre2, ↓pre3, ↓look_cons, ↓look_bnd, ↓look_bnd0, ↓opd_tmp, ↓opd_const, ↓ite_f, ↓ite_t, ↓reduceIte, post, post2, decide_true, decide_false, opds, Nat.reduceEqDiff, Nat.reduceAdd, Nat.zero_add, Nat.add_zero, Nat.mul_one, Int.toNat_natCast, Int.reduceToNat]
    refine call_rule (k142 _ _) ?_
    rintro en w13 ⟨rfl, hx13⟩
    refine ⟨_, rfl, ?_⟩
    simp -dsimp (disch := first | omega | rfl | simp only [all_cons, all_nil, plain_w32, plain_w8, plain_w64, plain_ws, plain_int, plain_bool, plain_slice, plain_ptr, plain_map, plain_iface, Bool.and_self]) only [↓pre, ↓pre2, ↓pre3, ↓look_cons, ↓look_bnd, ↓look_bnd0, ↓opd_tmp, ↓opd_const, ↓ite_f, ↓ite_t, ↓reduceIte, post, post2, decide_true, decide_false, opds, Nat.reduceEqDiff, Nat.reduceAdd, Nat.zero_add, Nat.add_zero, Nat.mul_one, Int.toNat_natCast, Int.reduceToNat]
    have hE13 : Ex w w13 := ((hE.trans hE11.drew).trans hx12).trans hx13
    have hE13' : Ex v w13 := (hE11.drew.trans hx12).trans hx13
    have hfold : N % 1361129467683753853853498429727072845824 + H + 4 * H = polyFold N := by unfold polyFold; omega
    rw [hfold]
    refine stores_all (cs := w3 (polyFold N)) (h4.ex hE13') (by simp [Value.cells]) rfl rfl rfl fun w14 hc14 hf14 hs14 => ?_
    simp -dsimp (disch := first | omega | rfl | simp only [all_cons, all_nil, plain_w32, plain_w8, plain_w64, plain_ws, plain_int, plain_bool, plain_slice, plain_ptr, plain_map, plain_iface, Bool.and_self]) only [↓pre, ↓pre2, ↓pre3, ↓look_cons, ↓look_bnd, ↓look_bnd0, ↓opd_tmp, ↓opd_const, ↓ite_f, ↓ite_t, ↓reduceIte, post, post2, decide_true, decide_false, opds, Nat.reduceEqDiff, Nat.reduceAdd, Nat.zero_add, Nat.add_zero, Nat.mul_one, Int.toNat_natCast, Int.reduceToNat]
    exact fin_ca (by simp [look]) hc14 rfl ⟨rfl, Ex.young hE13 hf14 (by omega)⟩
end Go.Lk
