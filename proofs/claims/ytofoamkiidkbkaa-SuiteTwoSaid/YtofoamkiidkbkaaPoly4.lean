/- Poly1305: the rest of a number. No statement of the seat is proved in this text. -/
import Derived.Test.YtofoamkiidkbkaaPoly3
set_option linter.unusedSimpArgs false
set_option linter.unusedVariables false
set_option linter.unusedSectionVars false
set_option linter.unnecessarySimpa false
set_option maxRecDepth 10000
set_option maxHeartbeats 2000000
namespace Go.Lk

theorem lowL (n : Nat) : [n64 (limb n 0), n64 (limb n 1), n64 (limb n 2 % 4)] = w3 (n % 1361129467683753853853498429727072845824) := by
  simp only [w3]
  rw [show limb (n % 1361129467683753853853498429727072845824) 0 = limb n 0 by simp only [limb]; omega, show limb (n % 1361129467683753853853498429727072845824) 1 = limb n 1 by simp only [limb]; omega,
    show limb (n % 1361129467683753853853498429727072845824) 2 = limb n 2 % 4 by simp only [limb]; omega]
theorem limb2 {n : Nat} (h : n < 5444517870735015415413993718908291383296) : limb n 2 = n / 340282366920938463463374607431768211456 := by
  have : n / 340282366920938463463374607431768211456 < 16 := by omega
  simp only [limb]
  omega
theorem w3_small {q : Nat} (h : q < 18446744073709551616) : w3 q = [n64 q, n64 0, n64 0] := by
  have h1 : q / 18446744073709551616 = 0 := Nat.div_eq_of_lt h
  have h2 : q / 340282366920938463463374607431768211456 = 0 := Nat.div_eq_of_lt (by omega)
  simp only [w3, limb, Nat.mod_eq_of_lt h, h1, h2]
theorem overL {n : Nat} (h : n < 5444517870735015415413993718908291383296) : [n64 (limb n 2 / 2 ^ 2 * 5), n64 0, n64 0] = w3 (n / 1361129467683753853853498429727072845824 * 5) := by
  have e : limb n 2 / 2 ^ 2 = n / 1361129467683753853853498429727072845824 := by
    rw [limb2 h, Nat.div_div_eq_div_mul]
  have hq : n / 1361129467683753853853498429727072845824 < 4 := by omega
  rw [e, w3_small (by omega)]
theorem foldL {n : Nat} (h : n < 5444517870735015415413993718908291383296) : n % 1361129467683753853853498429727072845824 + n / 1361129467683753853853498429727072845824 * 5 < 5444517870735015415413993718908291383296 ∧
    (n % 1361129467683753853853498429727072845824 + n / 1361129467683753853853498429727072845824 * 5) % 1361129467683753853853498429727072845819 = n % 1361129467683753853853498429727072845819 ∧
    (1361129467683753853853498429727072845824 ≤ n % 1361129467683753853853498429727072845824 + n / 1361129467683753853853498429727072845824 * 5 → n % 1361129467683753853853498429727072845824 + n / 1361129467683753853853498429727072845824 * 5 < n) := by
  have hd := Nat.div_add_mod n 1361129467683753853853498429727072845824
  have hr := Nat.mod_lt n (show 1361129467683753853853498429727072845824 > 0 by omega)
  have hq : n / 1361129467683753853853498429727072845824 < 4 := by omega
  generalize n % 1361129467683753853853498429727072845824 = r at *
  generalize n / 1361129467683753853853498429727072845824 = q at *
  refine ⟨by omega, ?_, by omega⟩
  rw [show n = (r + q * 5) + q * 1361129467683753853853498429727072845819 by omega, Nat.add_mul_mod_self_right]
theorem leastL {n : Nat} (h : n < 1361129467683753853853498429727072845824) :
    (1361129467683753853853498429727072845824 ≤ n + 5 → n % 1361129467683753853853498429727072845819 = (n + 5) % 1361129467683753853853498429727072845824) ∧ (n + 5 < 1361129467683753853853498429727072845824 → n % 1361129467683753853853498429727072845819 = n) := by
  omega

/-- a fact that the stepping need not look into -/
def Keep (p : Prop) : Prop := p
theorem foldK {n a : Nat} (h : n < 5444517870735015415413993718908291383296) (hna : Keep (n % 1361129467683753853853498429727072845819 = a % 1361129467683753853853498429727072845819)) :
    ∃ n', n % 1361129467683753853853498429727072845824 + n / 1361129467683753853853498429727072845824 * 5 = n' ∧ n' < 5444517870735015415413993718908291383296 ∧ Keep (n' % 1361129467683753853853498429727072845819 = a % 1361129467683753853853498429727072845819) ∧ Keep (1361129467683753853853498429727072845824 ≤ n' → n' < n) := by
  obtain ⟨h1, h2, h3⟩ := foldL h
  exact ⟨_, rfl, h1, h2.trans hna, h3⟩
theorem leastK {n a : Nat} (h : n < 1361129467683753853853498429727072845824) (hna : Keep (n % 1361129467683753853853498429727072845819 = a % 1361129467683753853853498429727072845819)) :
    (1361129467683753853853498429727072845824 ≤ n + 5 → w3 ((n + 5) % 1361129467683753853853498429727072845824) = w3 (a % 1361129467683753853853498429727072845819)) ∧ (n + 5 < 1361129467683753853853498429727072845824 → w3 (a % 1361129467683753853853498429727072845819) = w3 n) := by
  obtain ⟨h1, h2⟩ := leastL h
  exact ⟨fun h => by rw [← h1 h, hna], fun h => by rw [← hna, h2 h]⟩

theorem k141 {w : World} (a : Nat) (ha : a < 5444517870735015415413993718908291383296) :
    Calls Go.Proofs.Try.prog 141 #[.agg (w3 a).toArray] w fun e w' => e = .returned (.agg (w3 (a % 1361129467683753853853498429727072845819)).toArray) ∧ Ex w w' := by
  refine enter mo (args := [.agg (w3 a).toArray]) Go.Proofs.Try.func141 c141 (by simp [x141]) ?_
  simp only [x141, env0]
  simp -dsimp (disch := first | omega | rfl | simp only [all_cons, all_nil, plain_w32, plain_w8, plain_w64, plain_ws, plain_int, plain_bool, plain_slice, plain_ptr, plain_map, plain_iface, Bool.and_self]) only [↓pre, ↓pre2, ↓pre3, ↓look_cons, ↓look_bnd, ↓look_bnd0, ↓opd_tmp, ↓opd_const, ↓ite_f, ↓ite_t, ↓reduceIte, post, post2, decide_true, decide_false, opds, Nat.reduceEqDiff, Nat.reduceAdd, Nat.zero_add, Nat.add_zero, Nat.mul_one, Int.toNat_natCast, Int.reduceToNat]
  refine box_rule fun b1 w1 hb1 hc1 he1 hs1 => ?_
  simp -dsimp (disch := first | omega | rfl | simp only [all_cons, all_nil, plain_w32, plain_w8, plain_w64, plain_ws, plain_int, plain_bool, plain_slice, plain_ptr, plain_map, plain_iface, Bool.and_self]) only [↓pre, ↓pre2, ↓pre3, ↓look_cons, ↓look_bnd, ↓look_bnd0, ↓opd_tmp, ↓opd_const, ↓ite_f, ↓ite_t, ↓reduceIte, post, post2, decide_true, decide_false, opds, Nat.reduceEqDiff, Nat.reduceAdd, Nat.zero_add, Nat.add_zero, Nat.mul_one, Int.toNat_natCast, Int.reduceToNat]
  refine alloc_rule (z := w3 0) (by kernel_rfl) fun b2 w2 hb2 hc2 he2 hs2 => ?_
  simp -dsimp (disch := first | omega | rfl | simp only [all_cons, all_nil, plain_w32, plain_w8, plain_w64, plain_ws, plain_int, plain_bool, plain_slice, plain_ptr, plain_map, plain_iface, Bool.and_self]) only [↓pre, ↓pre2, ↓pre3, ↓look_cons, ↓look_bnd, ↓look_bnd0, ↓opd_tmp, ↓opd_const, ↓ite_f, ↓ite_t, ↓reduceIte, post, post2, decide_true, decide_false, opds, Nat.reduceEqDiff, Nat.reduceAdd, Nat.zero_add, Nat.add_zero, Nat.mul_one, Int.toNat_natCast, Int.reduceToNat]
  have hb1w : w.heap.size ≤ b1 := by omega
  have hb2w : w.heap.size ≤ b2 := by omega
  have hb12 : b1 ≠ b2 := by omega
  refine scope1_rule (fun k : Nat × Nat × Nat => [(1, .pointer (some ⟨b1, 0, none⟩)), (2, .pointer (some ⟨b2, 0, none⟩)), (3, .pointer (some ⟨k.2.1, 0, none⟩))])
    (fun k v => k.1 < 5444517870735015415413993718908291383296 ∧ Keep (k.1 % 1361129467683753853853498429727072845819 = a % 1361129467683753853853498429727072845819) ∧ w.heap.size ≤ k.2.1 ∧ b1 ≠ k.2.1 ∧ b2 ≠ k.2.1 ∧
      Cw v.heap b1 (w3 k.1) ∧ Cw v.heap b2 (w3 0) ∧ Cw v.heap k.2.1 [n64 k.2.2, n64 0, n64 0] ∧ Ex w v) (fun k => k.1) ?_ ?_
  · simp -dsimp (disch := first | omega | rfl | simp only [all_cons, all_nil, plain_w32, plain_w8, plain_w64, plain_ws, plain_int, plain_bool, plain_slice, plain_ptr, plain_map, plain_iface, Bool.and_self]) only [↓pre, ↓pre2, ↓pre3, ↓look_cons, ↓look_bnd, ↓look_bnd0, ↓opd_tmp, ↓opd_const, ↓ite_f, ↓ite_t, ↓reduceIte, post, post2, decide_true, decide_false, opds, Nat.reduceEqDiff, Nat.reduceAdd, Nat.zero_add, Nat.add_zero, Nat.mul_one, Int.toNat_natCast, Int.reduceToNat]
    refine alloc_rule (z := w3 0) (by kernel_rfl) fun b3 v hb3 hc3 he3 hs3 => ?_
    have hb3w : w.heap.size ≤ b3 := by omega
    have hb13 : b1 ≠ b3 := by omega
    have hb23 : b2 ≠ b3 := by omega
    have hE : Ex w v := (he1.trans he2).trans he3
    obtain ⟨n, hn0⟩ : ∃ n, n = a := ⟨a, rfl⟩
    have hn : n < 5444517870735015415413993718908291383296 := by omega
    have hna : Keep (n % 1361129467683753853853498429727072845819 = a % 1361129467683753853853498429727072845819) := by rw [hn0]; exact rfl
    have C1 : Cw v.heap b1 (w3 n) := by rw [hn0]; simpa [Value.cells] using (hc1.ex he2).ex he3
    have C2 : Cw v.heap b2 (w3 0) := hc2.ex he3
    obtain ⟨c, hc⟩ : ∃ c : Nat, c = 0 := ⟨0, rfl⟩
    have C3 : Cw v.heap b3 [n64 c, n64 0, n64 0] := by rw [hc]; exact hc3
    have c2 : v.cell? ⟨b1, 2, none⟩ = some (n64 (limb n 2)) := C1.cell 2
    have hl2 := limb_lt n 2
    simp -dsimp (disch := first | omega | rfl | simp only [all_cons, all_nil, plain_w32, plain_w8, plain_w64, plain_ws, plain_int, plain_bool, plain_slice, plain_ptr, plain_map, plain_iface, Bool.and_self]) only [↓pre, ↓pre2, ↓pre3, ↓look_cons, ↓look_bnd, ↓look_bnd0, ↓opd_tmp, ↓opd_const, ↓ite_f, ↓ite_t, ↓reduceIte, post, post2, decide_true, decide_false, opds, Nat.reduceEqDiff, Nat.reduceAdd, Nat.zero_add, Nat.add_zero, Nat.mul_one, Int.toNat_natCast, Int.reduceToNat, nums, c2]
    refine store_rule C3 (by simp) (plain_w64 _) fun v1 C3a hf1 hs1 => ?_
    have hE1 : Ex w v1 := Ex.young hE hf1 hb3w
    have C1a : Cw v1.heap b1 (w3 n) := Cw.fr (M := (· = b3)) C1 hf1 hb13
    have C2a : Cw v1.heap b2 (w3 0) := Cw.fr (M := (· = b3)) C2 hf1 hb23
    have c2a : v1.cell? ⟨b1, 2, none⟩ = some (n64 (limb n 2)) := C1a.cell 2
    simp -dsimp (disch := first | omega | rfl | simp only [all_cons, all_nil, plain_w32, plain_w8, plain_w64, plain_ws, plain_int, plain_bool, plain_slice, plain_ptr, plain_map, plain_iface, Bool.and_self]) only [↓pre, ↓pre2, ↓pre3, ↓look_cons, ↓look_bnd, ↓look_bnd0, ↓opd_tmp, ↓opd_const, ↓ite_f, ↓ite_t, ↓reduceIte, post, post2, decide_true, decide_false, opds, Nat.reduceEqDiff, Nat.reduceAdd, Nat.zero_add, Nat.add_zero, Nat.mul_one, Int.toNat_natCast, Int.reduceToNat, nums, c2a]
    refine store_rule C1a (by simp [w3]) (plain_w64 _) fun v2 C1b hf2 hs2 => ?_
    have hE2 : Ex w v2 := Ex.young hE1 hf2 hb1w
    have C3b := Cw.fr (M := (· = b1)) C3a hf2 (fun h => hb13 h.symm)
    have C2b : Cw v2.heap b2 (w3 0) := Cw.fr (M := (· = b1)) C2a hf2 (fun h => hb12 h.symm)
    have e1 : (w3 n).set 2 (n64 (limb n 2 % 4)) = w3 (n % 1361129467683753853853498429727072845824) := lowL n
    have e2 : ([n64 c, n64 0, n64 0] : List Value).set 0 (n64 (limb n 2 / 2 ^ 2 * 5)) = w3 (n / 1361129467683753853853498429727072845824 * 5) := overL hn
    rw [e1] at C1b
    have C3c : Cw v2.heap b3 (w3 (n / 1361129467683753853853498429727072845824 * 5)) := by rw [← e2]; exact C3b
    simp -dsimp (disch := first | omega | rfl | simp only [all_cons, all_nil, plain_w32, plain_w8, plain_w64, plain_ws, plain_int, plain_bool, plain_slice, plain_ptr, plain_map, plain_iface, Bool.and_self]) only [↓pre, ↓pre2, ↓pre3, ↓look_cons, ↓look_bnd, ↓look_bnd0, ↓opd_tmp, ↓opd_const, ↓ite_f, ↓ite_t, ↓reduceIte, post, post2, decide_true, decide_false, opds, Nat.reduceEqDiff, Nat.reduceAdd, Nat.zero_add, Nat.add_zero, Nat.mul_one, Int.toNat_natCast, Int.reduceToNat]
    refine lda_cw C1b rfl ?_
    simp -dsimp (disch := first | omega | rfl | simp only [all_cons, all_nil, plain_w32, plain_w8, plain_w64, plain_ws, plain_int, plain_bool, plain_slice, plain_ptr, plain_map, plain_iface, Bool.and_self]) only [↓pre, ↓pre2, ↓pre3, ↓look_cons, ↓look_bnd, ↓look_bnd0, ↓opd_tmp, ↓opd_const, ↓ite_f, ↓ite_t, ↓reduceIte, post, post2, decide_true, decide_false, opds, Nat.reduceEqDiff, Nat.reduceAdd, Nat.zero_add, Nat.add_zero, Nat.mul_one, Int.toNat_natCast, Int.reduceToNat]
    refine lda_cw C3c rfl ?_
    simp -dsimp (disch := first | omega | rfl | simp only [all_cons, all_nil, plain_w32, plain_w8, plain_w64, plain_ws, plain_int, plain_bool, plain_slice, plain_ptr, plain_map, plain_iface, Bool.and_self]) only [↓pre, ↓pre2, ↓pre3, ↓look_cons, ↓look_bnd, ↓look_bnd0, ↓opd_tmp, ↓opd_const, ↓ite_f, ↓ite_t, ↓reduceIte, post, post2, decide_true, decide_false, opds, Nat.reduceEqDiff, Nat.reduceAdd, Nat.zero_add, Nat.add_zero, Nat.mul_one, Int.toNat_natCast, Int.reduceToNat]
    refine call_rule (k142 _ _) ?_
    rintro en v3 ⟨rfl, hx3⟩
    refine ⟨_, rfl, ?_⟩
    obtain ⟨n', hn', hf1, hf2, hf3⟩ := foldK hn hna
    rw [hn']
    clear hn'
    simp -dsimp (disch := first | omega | rfl | simp only [all_cons, all_nil, plain_w32, plain_w8, plain_w64, plain_ws, plain_int, plain_bool, plain_slice, plain_ptr, plain_map, plain_iface, Bool.and_self]) only [↓pre, ↓pre2, ↓pre3, ↓look_cons, ↓look_bnd, ↓look_bnd0, ↓opd_tmp, ↓opd_const, ↓ite_f, ↓ite_t, ↓reduceIte, post, post2, decide_true, decide_false, opds, Nat.reduceEqDiff, Nat.reduceAdd, Nat.zero_add, Nat.add_zero, Nat.mul_one, Int.toNat_natCast, Int.reduceToNat]
    refine stores_all (cs := w3 n') (C1b.ex hx3) (by simp [Value.cells]) rfl rfl rfl fun v4 C1d hf4 hs4 => ?_
    have hE4 : Ex w v4 := Ex.young (hE2.trans hx3) hf4 hb1w
    have C3d := Cw.fr (M := (· = b1)) (C3c.ex hx3) hf4 (fun h => hb13 h.symm)
    have C2d : Cw v4.heap b2 (w3 0) := Cw.fr (M := (· = b1)) (C2b.ex hx3) hf4 (fun h => hb12 h.symm)
    have c2d : v4.cell? ⟨b1, 2, none⟩ = some (n64 (limb n' 2)) := C1d.cell 2
    have hl2' := limb_lt n' 2
    simp -dsimp (disch := first | omega | rfl | simp only [all_cons, all_nil, plain_w32, plain_w8, plain_w64, plain_ws, plain_int, plain_bool, plain_slice, plain_ptr, plain_map, plain_iface, Bool.and_self]) only [↓pre, ↓pre2, ↓pre3, ↓look_cons, ↓look_bnd, ↓look_bnd0, ↓opd_tmp, ↓opd_const, ↓ite_f, ↓ite_t, ↓reduceIte, post, post2, decide_true, decide_false, opds, Nat.reduceEqDiff, Nat.reduceAdd, Nat.zero_add, Nat.add_zero, Nat.mul_one, Int.toNat_natCast, Int.reduceToNat, nums, c2d]
    refine cond_dec (fun hgt => ?_) (fun hle => ?_)
    · simp -dsimp (disch := first | omega | rfl | simp only [all_cons, all_nil, plain_w32, plain_w8, plain_w64, plain_ws, plain_int, plain_bool, plain_slice, plain_ptr, plain_map, plain_iface, Bool.and_self]) only [↓pre, ↓pre2, ↓pre3, ↓look_cons, ↓look_bnd, ↓look_bnd0, ↓opd_tmp, ↓opd_const, ↓ite_f, ↓ite_t, ↓reduceIte, post, post2, decide_true, decide_false, opds, Nat.reduceEqDiff, Nat.reduceAdd, Nat.zero_add, Nat.add_zero, Nat.mul_one, Int.toNat_natCast, Int.reduceToNat]
      refine ⟨trivial, (n', b3, n / 1361129467683753853853498429727072845824 * 5), by simp [sub, look, bnd, add_addr], ?_⟩
      rw [limb2 hf1] at hgt
      have hq : n' < n := hf3 (by omega)
      rw [w3_small (show n / 1361129467683753853853498429727072845824 * 5 < 18446744073709551616 by omega)] at C3d
      first | exact ⟨hf1, hf2, hb3w, hb13, hb23, C1d, C2d, C3d, hE4⟩ | exact ⟨⟨hf1, hf2, hb3w, hb13, hb23, C1d, C2d, C3d, hE4⟩, hq⟩
    rw [limb2 hf1] at hle
    have hn130 : n' < 1361129467683753853853498429727072845824 := by omega
    have hm0 : Keep _ := leastK hn130 hf2
    simp -dsimp (disch := first | omega | rfl | simp only [all_cons, all_nil, plain_w32, plain_w8, plain_w64, plain_ws, plain_int, plain_bool, plain_slice, plain_ptr, plain_map, plain_iface, Bool.and_self]) only [↓pre, ↓pre2, ↓pre3, ↓look_cons, ↓look_bnd, ↓look_bnd0, ↓opd_tmp, ↓opd_const, ↓ite_f, ↓ite_t, ↓reduceIte, post, post2, decide_true, decide_false, opds, Nat.reduceEqDiff, Nat.reduceAdd, Nat.zero_add, Nat.add_zero, Nat.mul_one, Int.toNat_natCast, Int.reduceToNat]
    refine lda_cw C1d rfl ?_
    simp -dsimp (disch := first | omega | rfl | simp only [all_cons, all_nil, plain_w32, plain_w8, plain_w64, plain_ws, plain_int, plain_bool, plain_slice, plain_ptr, plain_map, plain_iface, Bool.and_self]) only [↓pre, ↓pre2, ↓pre3, ↓look_cons, ↓look_bnd, ↓look_bnd0, ↓opd_tmp, ↓opd_const, ↓ite_f, ↓ite_t, ↓reduceIte, post, post2, decide_true, decide_false, opds, Nat.reduceEqDiff, Nat.reduceAdd, Nat.zero_add, Nat.add_zero, Nat.mul_one, Int.toNat_natCast, Int.reduceToNat]
    refine call_rule (k142 n' 5) ?_
    rintro en v5 ⟨rfl, hx5⟩
    refine ⟨_, rfl, ?_⟩
    simp -dsimp (disch := first | omega | rfl | simp only [all_cons, all_nil, plain_w32, plain_w8, plain_w64, plain_ws, plain_int, plain_bool, plain_slice, plain_ptr, plain_map, plain_iface, Bool.and_self]) only [↓pre, ↓pre2, ↓pre3, ↓look_cons, ↓look_bnd, ↓look_bnd0, ↓opd_tmp, ↓opd_const, ↓ite_f, ↓ite_t, ↓reduceIte, post, post2, decide_true, decide_false, opds, Nat.reduceEqDiff, Nat.reduceAdd, Nat.zero_add, Nat.add_zero, Nat.mul_one, Int.toNat_natCast, Int.reduceToNat]
    refine alloc_rule (z := w3 0) (by kernel_rfl) fun b4 v6 hb4 hc4 he6 hs6 => ?_
    simp -dsimp (disch := first | omega | rfl | simp only [all_cons, all_nil, plain_w32, plain_w8, plain_w64, plain_ws, plain_int, plain_bool, plain_slice, plain_ptr, plain_map, plain_iface, Bool.and_self]) only [↓pre, ↓pre2, ↓pre3, ↓look_cons, ↓look_bnd, ↓look_bnd0, ↓opd_tmp, ↓opd_const, ↓ite_f, ↓ite_t, ↓reduceIte, post, post2, decide_true, decide_false, opds, Nat.reduceEqDiff, Nat.reduceAdd, Nat.zero_add, Nat.add_zero, Nat.mul_one, Int.toNat_natCast, Int.reduceToNat]
    refine stores_all (cs := w3 (n' + 5)) hc4 (by simp [Value.cells]) rfl rfl rfl fun v7 C4 hf7 hs7 => ?_
    have hE56 := (hE4.trans hx5).trans he6
    have hb4w : w.heap.size ≤ b4 := by have := (hE4.trans hx5).size; omega
    have hE7 : Ex w v7 := Ex.young hE56 hf7 hb4w
    have hb4v : v4.heap.size ≤ b4 := by have := hx5.size; omega
    have hE47 : Ex v4 v7 := Ex.young (hx5.trans he6) hf7 hb4v
    have c4 : v7.cell? ⟨b4, 2, none⟩ = some (n64 (limb (n' + 5) 2)) := C4.cell 2
    have hl4 := limb_lt (n' + 5) 2
    simp -dsimp (disch := first | omega | rfl | simp only [all_cons, all_nil, plain_w32, plain_w8, plain_w64, plain_ws, plain_int, plain_bool, plain_slice, plain_ptr, plain_map, plain_iface, Bool.and_self]) only [↓pre, ↓pre2, ↓pre3, ↓look_cons, ↓look_bnd, ↓look_bnd0, ↓opd_tmp, ↓opd_const, ↓ite_f, ↓ite_t, ↓reduceIte, post, post2, decide_true, decide_false, opds, Nat.reduceEqDiff, Nat.reduceAdd, Nat.zero_add, Nat.add_zero, Nat.mul_one, Int.toNat_natCast, Int.reduceToNat, nums, c4]
    refine cond_dec (fun hgt => ?_) (fun hle2 => ?_)
    · simp -dsimp (disch := first | omega | rfl | simp only [all_cons, all_nil, plain_w32, plain_w8, plain_w64, plain_ws, plain_int, plain_bool, plain_slice, plain_ptr, plain_map, plain_iface, Bool.and_self]) only [↓pre, ↓pre2, ↓pre3, ↓look_cons, ↓look_bnd, ↓look_bnd0, ↓opd_tmp, ↓opd_const, ↓ite_f, ↓ite_t, ↓reduceIte, post, post2, decide_true, decide_false, opds, Nat.reduceEqDiff, Nat.reduceAdd, Nat.zero_add, Nat.add_zero, Nat.mul_one, Int.toNat_natCast, Int.reduceToNat, nums, c4]
      refine store_rule C4 (by simp [w3]) (plain_w64 _) fun v8 C4b hf8 hs8 => ?_
      have e4 : (w3 (n' + 5)).set 2 (n64 (limb (n' + 5) 2 % 4)) = w3 (a % 1361129467683753853853498429727072845819) := by
        rw [limb2 (by omega)] at hgt
        have hm1 := hm0.1 (by omega)
        rw [← hm1]
        exact lowL _
      rw [e4] at C4b
      simp -dsimp (disch := first | omega | rfl | simp only [all_cons, all_nil, plain_w32, plain_w8, plain_w64, plain_ws, plain_int, plain_bool, plain_slice, plain_ptr, plain_map, plain_iface, Bool.and_self]) only [↓pre, ↓pre2, ↓pre3, ↓look_cons, ↓look_bnd, ↓look_bnd0, ↓opd_tmp, ↓opd_const, ↓ite_f, ↓ite_t, ↓reduceIte, post, post2, decide_true, decide_false, opds, Nat.reduceEqDiff, Nat.reduceAdd, Nat.zero_add, Nat.add_zero, Nat.mul_one, Int.toNat_natCast, Int.reduceToNat]
      refine lda_cw C4b rfl ?_
      simp -dsimp (disch := first | omega | rfl | simp only [all_cons, all_nil, plain_w32, plain_w8, plain_w64, plain_ws, plain_int, plain_bool, plain_slice, plain_ptr, plain_map, plain_iface, Bool.and_self]) only [↓pre, ↓pre2, ↓pre3, ↓look_cons, ↓look_bnd, ↓look_bnd0, ↓opd_tmp, ↓opd_const, ↓ite_f, ↓ite_t, ↓reduceIte, post, post2, decide_true, decide_false, opds, Nat.reduceEqDiff, Nat.reduceAdd, Nat.zero_add, Nat.add_zero, Nat.mul_one, Int.toNat_natCast, Int.reduceToNat]
      have hb24 : b2 ≠ b4 := by have := C2d.lt; omega
      refine stores_all (cs := w3 (a % 1361129467683753853853498429727072845819)) (Cw.fr (M := (· = b4)) (C2d.ex hE47) hf8 hb24) (by simp [Value.cells]) rfl rfl rfl fun v9 C2e hf9 hs9 => ?_
      simp -dsimp (disch := first | omega | rfl | simp only [all_cons, all_nil, plain_w32, plain_w8, plain_w64, plain_ws, plain_int, plain_bool, plain_slice, plain_ptr, plain_map, plain_iface, Bool.and_self]) only [↓pre, ↓pre2, ↓pre3, ↓look_cons, ↓look_bnd, ↓look_bnd0, ↓opd_tmp, ↓opd_const, ↓ite_f, ↓ite_t, ↓reduceIte, post, post2, decide_true, decide_false, opds, Nat.reduceEqDiff, Nat.reduceAdd, Nat.zero_add, Nat.add_zero, Nat.mul_one, Int.toNat_natCast, Int.reduceToNat]
      exact fin_ca (by simp [look]) C2e rfl ⟨rfl, Ex.young (Ex.young hE7 hf8 hb4w) hf9 hb2w⟩
    · simp -dsimp (disch := first | omega | rfl | simp only [all_cons, all_nil, plain_w32, plain_w8, plain_w64, plain_ws, plain_int, plain_bool, plain_slice, plain_ptr, plain_map, plain_iface, Bool.and_self]) only [↓pre, ↓pre2, ↓pre3, ↓look_cons, ↓look_bnd, ↓look_bnd0, ↓opd_tmp, ↓opd_const, ↓ite_f, ↓ite_t, ↓reduceIte, post, post2, decide_true, decide_false, opds, Nat.reduceEqDiff, Nat.reduceAdd, Nat.zero_add, Nat.add_zero, Nat.mul_one, Int.toNat_natCast, Int.reduceToNat]
      refine lda_cw (C1d.ex hE47) rfl ?_
      simp -dsimp (disch := first | omega | rfl | simp only [all_cons, all_nil, plain_w32, plain_w8, plain_w64, plain_ws, plain_int, plain_bool, plain_slice, plain_ptr, plain_map, plain_iface, Bool.and_self]) only [↓pre, ↓pre2, ↓pre3, ↓look_cons, ↓look_bnd, ↓look_bnd0, ↓opd_tmp, ↓opd_const, ↓ite_f, ↓ite_t, ↓reduceIte, post, post2, decide_true, decide_false, opds, Nat.reduceEqDiff, Nat.reduceAdd, Nat.zero_add, Nat.add_zero, Nat.mul_one, Int.toNat_natCast, Int.reduceToNat]
      rw [limb2 (by omega)] at hle2
      have hr := hm0.2 (by omega)
      rw [hr]
      refine stores_all (cs := w3 n') (C2d.ex hE47) (by simp [Value.cells]) rfl rfl rfl fun v9 C2e hf9 hs9 => ?_
      simp -dsimp (disch := first | omega | rfl | simp only [all_cons, all_nil, plain_w32, plain_w8, plain_w64, plain_ws, plain_int, plain_bool, plain_slice, plain_ptr, plain_map, plain_iface, Bool.and_self]) only [↓pre, ↓pre2, ↓pre3, ↓look_cons, ↓look_bnd, ↓look_bnd0, ↓opd_tmp, ↓opd_const, ↓ite_f, ↓ite_t, ↓reduceIte, post, post2, decide_true, decide_false, opds, Nat.reduceEqDiff, Nat.reduceAdd, Nat.zero_add, Nat.add_zero, Nat.mul_one, Int.toNat_natCast, Int.reduceToNat]
      exact fin_ca (by simp [look]) C2e rfl ⟨rfl, Ex.young hE7 hf9 hb2w⟩
  · rintro ⟨n, b3, c⟩ v ⟨hn, hna, hb3w, hb13, hb23, C1, C2, C3, hE⟩
    simp only at hn hna hb3w hb13 hb23 C1 C3
    have c2 : v.cell? ⟨b1, 2, none⟩ = some (n64 (limb n 2)) := C1.cell 2
    have hl2 := limb_lt n 2
    simp -dsimp (disch := first | omega | rfl | simp only [all_cons, all_nil, plain_w32, plain_w8, plain_w64, plain_ws, plain_int, plain_bool, plain_slice, plain_ptr, plain_map, plain_iface, Bool.and_self]) only [↓pre, ↓pre2, ↓pre3, ↓look_cons, ↓look_bnd, ↓look_bnd0, ↓opd_tmp, ↓opd_const, ↓ite_f, ↓ite_t, ↓reduceIte, post, post2, decide_true, decide_false, opds, Nat.reduceEqDiff, Nat.reduceAdd, Nat.zero_add, Nat.add_zero, Nat.mul_one, Int.toNat_natCast, Int.reduceToNat, nums, c2]
    refine store_rule C3 (by simp) (plain_w64 _) fun v1 C3a hf1 hs1 => ?_
    have hE1 : Ex w v1 := Ex.young hE hf1 hb3w
    have C1a : Cw v1.heap b1 (w3 n) := Cw.fr (M := (· = b3)) C1 hf1 hb13
    have C2a : Cw v1.heap b2 (w3 0) := Cw.fr (M := (· = b3)) C2 hf1 hb23
    have c2a : v1.cell? ⟨b1, 2, none⟩ = some (n64 (limb n 2)) := C1a.cell 2
    simp -dsimp (disch := first | omega | rfl | simp only [all_cons, all_nil, plain_w32, plain_w8, plain_w64, plain_ws, plain_int, plain_bool, plain_slice, plain_ptr, plain_map, plain_iface, Bool.and_self]) only [↓pre, ↓pre2, ↓pre3, ↓look_cons, ↓look_bnd, ↓look_bnd0, ↓opd_tmp, ↓opd_const, ↓ite_f, ↓ite_t, ↓reduceIte, post, post2, decide_true, decide_false, opds, Nat.reduceEqDiff, Nat.reduceAdd, Nat.zero_add, Nat.add_zero, Nat.mul_one, Int.toNat_natCast, Int.reduceToNat, nums, c2a]
    refine store_rule C1a (by simp [w3]) (plain_w64 _) fun v2 C1b hf2 hs2 => ?_
    have hE2 : Ex w v2 := Ex.young hE1 hf2 hb1w
    have C3b := Cw.fr (M := (· = b1)) C3a hf2 (fun h => hb13 h.symm)
    have C2b : Cw v2.heap b2 (w3 0) := Cw.fr (M := (· = b1)) C2a hf2 (fun h => hb12 h.symm)
    have e1 : (w3 n).set 2 (n64 (limb n 2 % 4)) = w3 (n % 1361129467683753853853498429727072845824) := lowL n
    have e2 : ([n64 c, n64 0, n64 0] : List Value).set 0 (n64 (limb n 2 / 2 ^ 2 * 5)) = w3 (n / 1361129467683753853853498429727072845824 * 5) := overL hn
    rw [e1] at C1b
    have C3c : Cw v2.heap b3 (w3 (n / 1361129467683753853853498429727072845824 * 5)) := by rw [← e2]; exact C3b
    simp -dsimp (disch := first | omega | rfl | simp only [all_cons, all_nil, plain_w32, plain_w8, plain_w64, plain_ws, plain_int, plain_bool, plain_slice, plain_ptr, plain_map, plain_iface, Bool.and_self]) only [↓pre, ↓pre2, ↓pre3, ↓look_cons, ↓look_bnd, ↓look_bnd0, ↓opd_tmp, ↓opd_const, ↓ite_f, ↓ite_t, ↓reduceIte, post, post2, decide_true, decide_false, opds, Nat.reduceEqDiff, Nat.reduceAdd, Nat.zero_add, Nat.add_zero, Nat.mul_one, Int.toNat_natCast, Int.reduceToNat]
    refine lda_cw C1b rfl ?_
    simp -dsimp (disch := first | omega | rfl | simp only [all_cons, all_nil, plain_w32, plain_w8, plain_w64, plain_ws, plain_int, plain_bool, plain_slice, plain_ptr, plain_map, plain_iface, Bool.and_self]) only [↓pre, ↓pre2, ↓pre3, ↓look_cons, ↓look_bnd, ↓look_bnd0, ↓opd_tmp, ↓opd_const, ↓ite_f, ↓ite_t, ↓reduceIte, post, post2, decide_true, decide_false, opds, Nat.reduceEqDiff, Nat.reduceAdd, Nat.zero_add, Nat.add_zero, Nat.mul_one, Int.toNat_natCast, Int.reduceToNat]
    refine lda_cw C3c rfl ?_
    simp -dsimp (disch := first | omega | rfl | simp only [all_cons, all_nil, plain_w32, plain_w8, plain_w64, plain_ws, plain_int, plain_bool, plain_slice, plain_ptr, plain_map, plain_iface, Bool.and_self]) only [↓pre, ↓pre2, ↓pre3, ↓look_cons, ↓look_bnd, ↓look_bnd0, ↓opd_tmp, ↓opd_const, ↓ite_f, ↓ite_t, ↓reduceIte, post, post2, decide_true, decide_false, opds, Nat.reduceEqDiff, Nat.reduceAdd, Nat.zero_add, Nat.add_zero, Nat.mul_one, Int.toNat_natCast, Int.reduceToNat]
    refine call_rule (k142 _ _) ?_
    rintro en v3 ⟨rfl, hx3⟩
    refine ⟨_, rfl, ?_⟩
    obtain ⟨n', hn', hf1, hf2, hf3⟩ := foldK hn hna
    rw [hn']
    clear hn'
    simp -dsimp (disch := first | omega | rfl | simp only [all_cons, all_nil, plain_w32, plain_w8, plain_w64, plain_ws, plain_int, plain_bool, plain_slice, plain_ptr, plain_map, plain_iface, Bool.and_self]) only [↓pre, ↓pre2, ↓pre3, ↓look_cons, ↓look_bnd, ↓look_bnd0, ↓opd_tmp, ↓opd_const, ↓ite_f, ↓ite_t, ↓reduceIte, post, post2, decide_true, decide_false, opds, Nat.reduceEqDiff, Nat.reduceAdd, Nat.zero_add, Nat.add_zero, Nat.mul_one, Int.toNat_natCast, Int.reduceToNat]
    refine stores_all (cs := w3 n') (C1b.ex hx3) (by simp [Value.cells]) rfl rfl rfl fun v4 C1d hf4 hs4 => ?_
    have hE4 : Ex w v4 := Ex.young (hE2.trans hx3) hf4 hb1w
    have C3d := Cw.fr (M := (· = b1)) (C3c.ex hx3) hf4 (fun h => hb13 h.symm)
    have C2d : Cw v4.heap b2 (w3 0) := Cw.fr (M := (· = b1)) (C2b.ex hx3) hf4 (fun h => hb12 h.symm)
    have c2d : v4.cell? ⟨b1, 2, none⟩ = some (n64 (limb n' 2)) := C1d.cell 2
    have hl2' := limb_lt n' 2
    simp -dsimp (disch := first | omega | rfl | simp only [all_cons, all_nil, plain_w32, plain_w8, plain_w64, plain_ws, plain_int, plain_bool, plain_slice, plain_ptr, plain_map, plain_iface, Bool.and_self]) only [↓pre, ↓pre2, ↓pre3, ↓look_cons, ↓look_bnd, ↓look_bnd0, ↓opd_tmp, ↓opd_const, ↓ite_f, ↓ite_t, ↓reduceIte, post, post2, decide_true, decide_false, opds, Nat.reduceEqDiff, Nat.reduceAdd, Nat.zero_add, Nat.add_zero, Nat.mul_one, Int.toNat_natCast, Int.reduceToNat, nums, c2d]
    refine cond_dec (fun hgt => ?_) (fun hle => ?_)
    · simp -dsimp (disch := first | omega | rfl | simp only [all_cons, all_nil, plain_w32, plain_w8, plain_w64, plain_ws, plain_int, plain_bool, plain_slice, plain_ptr, plain_map, plain_iface, Bool.and_self]) only [↓pre, ↓pre2, ↓pre3, ↓look_cons, ↓look_bnd, ↓look_bnd0, ↓opd_tmp, ↓opd_const, ↓ite_f, ↓ite_t, ↓reduceIte, post, post2, decide_true, decide_false, opds, Nat.reduceEqDiff, Nat.reduceAdd, Nat.zero_add, Nat.add_zero, Nat.mul_one, Int.toNat_natCast, Int.reduceToNat]
      refine ⟨trivial, (n', b3, n / 1361129467683753853853498429727072845824 * 5), by simp [sub, look, bnd, add_addr], ?_⟩
      rw [limb2 hf1] at hgt
      have hq : n' < n := hf3 (by omega)
      rw [w3_small (show n / 1361129467683753853853498429727072845824 * 5 < 18446744073709551616 by omega)] at C3d
      first | exact ⟨hf1, hf2, hb3w, hb13, hb23, C1d, C2d, C3d, hE4⟩ | exact ⟨⟨hf1, hf2, hb3w, hb13, hb23, C1d, C2d, C3d, hE4⟩, hq⟩
    rw [limb2 hf1] at hle
    have hn130 : n' < 1361129467683753853853498429727072845824 := by omega
    have hm0 : Keep _ := leastK hn130 hf2
    simp -dsimp (disch := first | omega | rfl | simp only [all_cons, all_nil, plain_w32, plain_w8, plain_w64, plain_ws, plain_int, plain_bool, plain_slice, plain_ptr, plain_map, plain_iface, Bool.and_self]) only [↓pre, ↓pre2, ↓pre3, ↓look_cons, ↓look_bnd, ↓look_bnd0, ↓opd_tmp, ↓opd_const, ↓ite_f, ↓ite_t, ↓reduceIte, post, post2, decide_true, decide_false, opds, Nat.reduceEqDiff, Nat.reduceAdd, Nat.zero_add, Nat.add_zero, Nat.mul_one, Int.toNat_natCast, Int.reduceToNat]
    refine lda_cw C1d rfl ?_
    simp -dsimp (disch := first | omega | rfl | simp only [all_cons, all_nil, plain_w32, plain_w8, plain_w64, plain_ws, plain_int, plain_bool, plain_slice, plain_ptr, plain_map, plain_iface, Bool.and_self]) only [↓pre, ↓pre2, ↓pre3, ↓look_cons, ↓look_bnd, ↓look_bnd0, ↓opd_tmp, ↓opd_const, ↓ite_f, ↓ite_t, ↓reduceIte, post, post2, decide_true, decide_false, opds, Nat.reduceEqDiff, Nat.reduceAdd, Nat.zero_add, Nat.add_zero, Nat.mul_one, Int.toNat_natCast, Int.reduceToNat]
    refine call_rule (k142 n' 5) ?_
    rintro en v5 ⟨rfl, hx5⟩
    refine ⟨_, rfl, ?_⟩
    simp -dsimp (disch := first | omega | rfl | simp only [all_cons, all_nil, plain_w32, plain_w8, plain_w64, plain_ws, plain_int, plain_bool, plain_slice, plain_ptr, plain_map, plain_iface, Bool.and_self]) only [↓pre, ↓pre2, ↓pre3, ↓look_cons, ↓look_bnd, ↓look_bnd0, ↓opd_tmp, ↓opd_const, ↓ite_f, ↓ite_t, ↓reduceIte, post, post2, decide_true, decide_false, opds, Nat.reduceEqDiff, Nat.reduceAdd, Nat.zero_add, Nat.add_zero, Nat.mul_one, Int.toNat_natCast, Int.reduceToNat]
    refine alloc_rule (z := w3 0) (by kernel_rfl) fun b4 v6 hb4 hc4 he6 hs6 => ?_
    simp -dsimp (disch := first | omega | rfl | simp only [all_cons, all_nil, plain_w32, plain_w8, plain_w64, plain_ws, plain_int, plain_bool, plain_slice, plain_ptr, plain_map, plain_iface, Bool.and_self]) only [↓pre, ↓pre2, ↓pre3, ↓look_cons, ↓look_bnd, ↓look_bnd0, ↓opd_tmp, ↓opd_const, ↓ite_f, ↓ite_t, ↓reduceIte, post, post2, decide_true, decide_false, opds, Nat.reduceEqDiff, Nat.reduceAdd, Nat.zero_add, Nat.add_zero, Nat.mul_one, Int.toNat_natCast, Int.reduceToNat]
    refine stores_all (cs := w3 (n' + 5)) hc4 (by simp [Value.cells]) rfl rfl rfl fun v7 C4 hf7 hs7 => ?_
    have hE56 := (hE4.trans hx5).trans he6
    have hb4w : w.heap.size ≤ b4 := by have := (hE4.trans hx5).size; omega
    have hE7 : Ex w v7 := Ex.young hE56 hf7 hb4w
    have hb4v : v4.heap.size ≤ b4 := by have := hx5.size; omega
    have hE47 : Ex v4 v7 := Ex.young (hx5.trans he6) hf7 hb4v
    have c4 : v7.cell? ⟨b4, 2, none⟩ = some (n64 (limb (n' + 5) 2)) := C4.cell 2
    have hl4 := limb_lt (n' + 5) 2
    simp -dsimp (disch := first | omega | rfl | simp only [all_cons, all_nil, plain_w32, plain_w8, plain_w64, plain_ws, plain_int, plain_bool, plain_slice, plain_ptr, plain_map, plain_iface, Bool.and_self]) only [↓pre, ↓pre2, ↓pre3, ↓look_cons, ↓look_bnd, ↓look_bnd0, ↓opd_tmp, ↓opd_const, ↓ite_f, ↓ite_t, ↓reduceIte, post, post2, decide_true, decide_false, opds, Nat.reduceEqDiff, Nat.reduceAdd, Nat.zero_add, Nat.add_zero, Nat.mul_one, Int.toNat_natCast, Int.reduceToNat, nums, c4]
    refine cond_dec (fun hgt => ?_) (fun hle2 => ?_)
    · simp -dsimp (disch := first | omega | rfl | simp only [all_cons, all_nil, plain_w32, plain_w8, plain_w64, plain_ws, plain_int, plain_bool, plain_slice, plain_ptr, plain_map, plain_iface, Bool.and_self]) only [↓pre, ↓pre2, ↓pre3, ↓look_cons, ↓look_bnd, ↓look_bnd0, ↓opd_tmp, ↓opd_const, ↓ite_f, ↓ite_t, ↓reduceIte, post, post2, decide_true, decide_false, opds, Nat.reduceEqDiff, Nat.reduceAdd, Nat.zero_add, Nat.add_zero, Nat.mul_one, Int.toNat_natCast, Int.reduceToNat, nums, c4]
      refine store_rule C4 (by simp [w3]) (plain_w64 _) fun v8 C4b hf8 hs8 => ?_
      have e4 : (w3 (n' + 5)).set 2 (n64 (limb (n' + 5) 2 % 4)) = w3 (a % 1361129467683753853853498429727072845819) := by
        rw [limb2 (by omega)] at hgt
        have hm1 := hm0.1 (by omega)
        rw [← hm1]
        exact lowL _
      rw [e4] at C4b
      simp -dsimp (disch := first | omega | rfl | simp only [all_cons, all_nil, plain_w32, plain_w8, plain_w64, plain_ws, plain_int, plain_bool, plain_slice, plain_ptr, plain_map, plain_iface, Bool.and_self]) only [↓pre, ↓pre2, ↓pre3, ↓look_cons, ↓look_bnd, ↓look_bnd0, ↓opd_tmp, ↓opd_const, ↓ite_f, ↓ite_t, ↓reduceIte, post, post2, decide_true, decide_false, opds, Nat.reduceEqDiff, Nat.reduceAdd, Nat.zero_add, Nat.add_zero, Nat.mul_one, Int.toNat_natCast, Int.reduceToNat]
      refine lda_cw C4b rfl ?_
      simp -dsimp (disch := first | omega | rfl | simp only [all_cons, all_nil, plain_w32, plain_w8, plain_w64, plain_ws, plain_int, plain_bool, plain_slice, plain_ptr, plain_map, plain_iface, Bool.and_self]) only [↓pre, ↓pre2, ↓pre3, ↓look_cons, ↓look_bnd, ↓look_bnd0, ↓opd_tmp, ↓opd_const, ↓ite_f, ↓ite_t, ↓reduceIte, post, post2, decide_true, decide_false, opds, Nat.reduceEqDiff, Nat.reduceAdd, Nat.zero_add, Nat.add_zero, Nat.mul_one, Int.toNat_natCast, Int.reduceToNat]
      have hb24 : b2 ≠ b4 := by have := C2d.lt; omega
      refine stores_all (cs := w3 (a % 1361129467683753853853498429727072845819)) (Cw.fr (M := (· = b4)) (C2d.ex hE47) hf8 hb24) (by simp [Value.cells]) rfl rfl rfl fun v9 C2e hf9 hs9 => ?_
      simp -dsimp (disch := first | omega | rfl | simp only [all_cons, all_nil, plain_w32, plain_w8, plain_w64, plain_ws, plain_int, plain_bool, plain_slice, plain_ptr, plain_map, plain_iface, Bool.and_self]) only [↓pre, ↓pre2, ↓pre3, ↓look_cons, ↓look_bnd, ↓look_bnd0, ↓opd_tmp, ↓opd_const, ↓ite_f, ↓ite_t, ↓reduceIte, post, post2, decide_true, decide_false, opds, Nat.reduceEqDiff, Nat.reduceAdd, Nat.zero_add, Nat.add_zero, Nat.mul_one, Int.toNat_natCast, Int.reduceToNat]
      exact fin_ca (by simp [look]) C2e rfl ⟨rfl, Ex.young (Ex.young hE7 hf8 hb4w) hf9 hb2w⟩
    · simp -dsimp (disch := first | omega | rfl | simp only [all_cons, all_nil, plain_w32, plain_w8, plain_w64, plain_ws, plain_int, plain_bool, plain_slice, plain_ptr, plain_map, plain_iface, Bool.and_self]) only [↓pre, ↓pre2, ↓pre3, ↓look_cons, ↓look_bnd, ↓look_bnd0, ↓opd_tmp, ↓opd_const, ↓ite_f, ↓ite_t, ↓reduceIte, post, post2, decide_true, decide_false, opds, Nat.reduceEqDiff, Nat.reduceAdd, Nat.zero_add, Nat.add_zero, Nat.mul_one, Int.toNat_natCast, Int.reduceToNat]
      refine lda_cw (C1d.ex hE47) rfl ?_
      simp -dsimp (disch := first | omega | rfl | simp only [all_cons, all_nil, plain_w32, plain_w8, plain_w64, plain_ws, plain_int, plain_bool, plain_slice, plain_ptr, plain_map, plain_iface, Bool.and_self]) only [↓pre, ↓pre2, ↓pre3, ↓look_cons, ↓look_bnd, ↓look_bnd0, ↓opd_tmp, ↓opd_const, ↓ite_f, ↓ite_t, ↓reduceIte, post, post2, decide_true, decide_false, opds, Nat.reduceEqDiff, Nat.reduceAdd, Nat.zero_add, Nat.add_zero, Nat.mul_one, Int.toNat_natCast, Int.reduceToNat]
      rw [limb2 (by omega)] at hle2
      have hr := hm0.2 (by omega)
      rw [hr]
      refine stores_all (cs := w3 n') (C2d.ex hE47) (by simp [Value.cells]) rfl rfl rfl fun v9 C2e hf9 hs9 => ?_
      simp -dsimp (disch := first | omega | rfl | simp only [all_cons, all_nil, plain_w32, plain_w8, plain_w64, plain_ws, plain_int, plain_bool, plain_slice, plain_ptr, plain_map, plain_iface, Bool.and_self]) only [↓pre, ↓pre2, ↓pre3, ↓look_cons, ↓look_bnd, ↓look_bnd0, ↓opd_tmp, ↓opd_const, ↓ite_f, ↓ite_t, ↓reduceIte, post, post2, decide_true, decide_false, opds, Nat.reduceEqDiff, Nat.reduceAdd, Nat.zero_add, Nat.add_zero, Nat.mul_one, Int.toNat_natCast, Int.reduceToNat]
      exact fin_ca (by simp [look]) C2e rfl ⟨rfl, Ex.young hE7 hf9 hb2w⟩
end Go.Lk
