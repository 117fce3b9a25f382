/- Poly1305: reading numbers, products, rests. No statement of the seat is proved in this text. -/
import Derived.Test.YtofoamkiidkbkaaPoly
set_option linter.unusedSimpArgs false
set_option linter.unusedVariables false
set_option linter.unusedSectionVars false
set_option linter.unnecessarySimpa false
set_option maxRecDepth 10000
set_option maxHeartbeats 1000000
namespace Go.Lk

theorem getStep (N c k : Nat) (hk : k < 24) (hN : N < 256 ^ k) (hc : c < 256) :
    limb N (k / 8) < 2 ^ (8 * (k % 8)) ∧ limb N (k / 8) + c * 2 ^ (8 * (k % 8)) = limb (N + 256 ^ k * c) (k / 8) ∧
    (0 ≠ k / 8 → limb (N + 256 ^ k * c) 0 = limb N 0) ∧ (1 ≠ k / 8 → limb (N + 256 ^ k * c) 1 = limb N 1) ∧ (2 ≠ k / 8 → limb (N + 256 ^ k * c) 2 = limb N 2) := by
  have : k = 0 ∨ k = 1 ∨ k = 2 ∨ k = 3 ∨ k = 4 ∨ k = 5 ∨ k = 6 ∨ k = 7 ∨ k = 8 ∨ k = 9 ∨ k = 10 ∨ k = 11 ∨ k = 12 ∨ k = 13 ∨ k = 14 ∨ k = 15 ∨ k = 16 ∨ k = 17 ∨ k = 18 ∨ k = 19 ∨ k = 20 ∨ k = 21 ∨ k = 22 ∨ k = 23 := by omega
  rcases this with rfl | rfl | rfl | rfl | rfl | rfl | rfl | rfl | rfl | rfl | rfl | rfl | rfl | rfl | rfl | rfl | rfl | rfl | rfl | rfl | rfl | rfl | rfl | rfl <;>
    (simp only [limb, Nat.reduceDiv, Nat.reduceMod, Nat.reduceMul, Nat.reducePow, ne_eq, not_true_eq_false, false_implies, not_false_eq_true, true_implies, Nat.reduceEqDiff] at hN ⊢
     refine ⟨by omega, by omega, ?_, ?_, ?_⟩ <;> first | trivial | (intros; omega))

theorem w3_set {N N' j : Nat} (hj : j < 3) (h0 : 0 ≠ j → limb N' 0 = limb N 0) (h1 : 1 ≠ j → limb N' 1 = limb N 1) (h2 : 2 ≠ j → limb N' 2 = limb N 2) : (w3 N).set j (n64 (limb N' j)) = w3 N' := by
  match j, hj with
  | 0, _ => simp [w3, h1, h2]
  | 1, _ => simp [w3, h0, h2]
  | 2, _ => simp [w3, h0, h1]

theorem k140 {w : World} {v : Value} {l : List UInt8} (hb : Bs w.heap v l) (hl : l.length ≤ 17) :
    Calls Go.Proofs.Try.prog 140 #[v] w fun e w' => e = .returned (.agg (w3 (leN l)).toArray) ∧ Ex w w' := by
  obtain ⟨a, c, rfl, hc, hne⟩ := hb.parts
  refine enter mo (args := [.slice a l.length c]) Go.Proofs.Try.func140 c140 (by simp [x140]) ?_
  simp only [x140, env0]
  simp -dsimp (disch := first | omega | rfl | simp only [all_cons, all_nil, plain_w32, plain_w8, plain_w64, plain_ws, plain_int, plain_bool, plain_slice, plain_ptr, plain_map, plain_iface, Bool.and_self]) only [↓pre, ↓pre2, ↓pre3, ↓look_cons, ↓look_bnd, ↓look_bnd0, ↓opd_tmp, ↓opd_const, ↓ite_f, ↓ite_t, ↓reduceIte, post, post2, decide_true, decide_false, opds, Nat.reduceEqDiff, Nat.reduceAdd, Nat.zero_add, Nat.add_zero, Nat.mul_one, Int.toNat_natCast, Int.reduceToNat]
  refine alloc_rule (z := w3 0) (by kernel_rfl) fun b2 w1 hb2 hc2 he1 hs1 => ?_
  simp -dsimp (disch := first | omega | rfl | simp only [all_cons, all_nil, plain_w32, plain_w8, plain_w64, plain_ws, plain_int, plain_bool, plain_slice, plain_ptr, plain_map, plain_iface, Bool.and_self]) only [↓pre, ↓pre2, ↓pre3, ↓look_cons, ↓look_bnd, ↓look_bnd0, ↓opd_tmp, ↓opd_const, ↓ite_f, ↓ite_t, ↓reduceIte, post, post2, decide_true, decide_false, opds, Nat.reduceEqDiff, Nat.reduceAdd, Nat.zero_add, Nat.add_zero, Nat.mul_one, Int.toNat_natCast, Int.reduceToNat]
  refine alloc_rule (z := w3 0) (by kernel_rfl) fun b3 w2 hb3 hc3 he2 hs2 => ?_
  simp -dsimp (disch := first | omega | rfl | simp only [all_cons, all_nil, plain_w32, plain_w8, plain_w64, plain_ws, plain_int, plain_bool, plain_slice, plain_ptr, plain_map, plain_iface, Bool.and_self]) only [↓pre, ↓pre2, ↓pre3, ↓look_cons, ↓look_bnd, ↓look_bnd0, ↓opd_tmp, ↓opd_const, ↓ite_f, ↓ite_t, ↓reduceIte, post, post2, decide_true, decide_false, opds, Nat.reduceEqDiff, Nat.reduceAdd, Nat.zero_add, Nat.add_zero, Nat.mul_one, Int.toNat_natCast, Int.reduceToNat]
  refine loop_rule (fun k : Nat => [(8, vi k), (7, vi l.length), (6, .slice a l.length c), (2, .pointer (some ⟨b2, 0, none⟩)), (3, .pointer (some ⟨b3, 0, none⟩))])
    (fun k v => k ≤ l.length ∧ Cw v.heap b3 (w3 (leN (l.take k))) ∧ Cw v.heap b2 (w3 0) ∧ Ex w v) (fun k => l.length - k) 0 (by simp [sub, look, bnd, add_addr]) ⟨by omega, by simpa [leN] using hc3, hc2.ex he2, he1.trans he2⟩ ?_
  rintro k v ⟨hk, h3, h2, hE⟩
  simp -dsimp (disch := first | omega | rfl | simp only [all_cons, all_nil, plain_w32, plain_w8, plain_w64, plain_ws, plain_int, plain_bool, plain_slice, plain_ptr, plain_map, plain_iface, Bool.and_self]) only [↓pre, ↓pre2, ↓pre3, ↓look_cons, ↓look_bnd, ↓look_bnd0, ↓opd_tmp, ↓opd_const, ↓ite_f, ↓ite_t, ↓reduceIte, post, post2, decide_true, decide_false, opds, Nat.reduceEqDiff, Nat.reduceAdd, Nat.zero_add, Nat.add_zero, Nat.mul_one, Int.toNat_natCast, Int.reduceToNat]
  refine cond_dec (fun hlt => ?_) (fun hge => ?_)
  · have hk1 : k < l.length := by omega
    obtain ⟨b0, o0, rfl⟩ := hne (by intro h; subst h; simp at hk1)
    have hN := leN_lt (l.take k)
    rw [List.length_take, Nat.min_eq_left (by omega)] at hN
    obtain ⟨g1, g2, g3, g4, g5⟩ := getStep (leN (l.take k)) (l.getD k 0).toNat k (by omega) hN (l.getD k 0).toNat_lt
    have hN' : leN (l.take k) + 256 ^ k * (l.getD k 0).toNat = leN (l.take (k + 1)) := by
      rw [List.take_succ_eq_append_getElem hk1, leN_app, List.length_take, Nat.min_eq_left (by omega)]
      simp [leN, List.getD, hk1]
    rw [hN'] at g2 g3 g4 g5
    simp -dsimp (disch := first | omega | rfl | simp only [all_cons, all_nil, plain_w32, plain_w8, plain_w64, plain_ws, plain_int, plain_bool, plain_slice, plain_ptr, plain_map, plain_iface, Bool.and_self]) only [↓pre, ↓pre2, ↓pre3, ↓look_cons, ↓look_bnd, ↓look_bnd0, ↓opd_tmp, ↓opd_const, ↓ite_f, ↓ite_t, ↓reduceIte, post, post2, decide_true, decide_false, opds, Nat.reduceEqDiff, Nat.reduceAdd, Nat.zero_add, Nat.add_zero, Nat.mul_one, Int.toNat_natCast, Int.reduceToNat, (hb.ex hE).at]
    refine par_ex ?_
    have h3' : Cw v.drew.heap b3 _ := h3
    have e1 : ((k : Int) / 8).toNat = k / 8 := by omega
    have e2 : (8 * ((k : Int) % 8)).toNat = 8 * (k % 8) := by omega
    have hg := w3_get (leN (l.take k)) (k / 8) (by omega)
    have hor := n64_or (limb (leN (l.take k)) (k / 8)) ((l.getD k 0).toNat * 2 ^ (8 * (k % 8))) (8 * (k % 8)) g1 (Nat.mul_mod_left _ _)
    rw [g2] at hor
    simp -dsimp (disch := first | omega | rfl | simp only [all_cons, all_nil, plain_w32, plain_w8, plain_w64, plain_ws, plain_int, plain_bool, plain_slice, plain_ptr, plain_map, plain_iface, Bool.and_self]) only [↓pre, ↓pre2, ↓pre3, ↓look_cons, ↓look_bnd, ↓look_bnd0, ↓opd_tmp, ↓opd_const, ↓ite_f, ↓ite_t, ↓reduceIte, post, post2, decide_true, decide_false, opds, Nat.reduceEqDiff, Nat.reduceAdd, Nat.zero_add, Nat.add_zero, Nat.mul_one, Int.toNat_natCast, Int.reduceToNat, nums, h3'.cell, e1, e2, hg, hor]
    refine store_rule h3' (by simp [w3]; omega) (plain_w64 _) fun v2 hc hf hs => ?_
    rw [w3_set (by omega) g3 g4 g5] at hc
    simp -dsimp (disch := first | omega | rfl | simp only [all_cons, all_nil, plain_w32, plain_w8, plain_w64, plain_ws, plain_int, plain_bool, plain_slice, plain_ptr, plain_map, plain_iface, Bool.and_self]) only [↓pre, ↓pre2, ↓pre3, ↓look_cons, ↓look_bnd, ↓look_bnd0, ↓opd_tmp, ↓opd_const, ↓ite_f, ↓ite_t, ↓reduceIte, post, post2, decide_true, decide_false, opds, Nat.reduceEqDiff, Nat.reduceAdd, Nat.zero_add, Nat.add_zero, Nat.mul_one, Int.toNat_natCast, Int.reduceToNat]
    exact ⟨k + 1, by simp [sub, look, bnd, add_addr], ⟨by omega, hc, Cw.fr (M := (· = b3)) (w := v.drew) h2 hf (by omega), Ex.young hE.drew hf (by omega)⟩, by omega⟩
  · have hk3 : k = l.length := by omega
    subst hk3
    rw [List.take_length] at h3
    simp -dsimp (disch := first | omega | rfl | simp only [all_cons, all_nil, plain_w32, plain_w8, plain_w64, plain_ws, plain_int, plain_bool, plain_slice, plain_ptr, plain_map, plain_iface, Bool.and_self]) only [↓pre, ↓pre2, ↓pre3, ↓look_cons, ↓look_bnd, ↓look_bnd0, ↓opd_tmp, ↓opd_const, ↓ite_f, ↓ite_t, ↓reduceIte, post, post2, decide_true, decide_false, opds, Nat.reduceEqDiff, Nat.reduceAdd, Nat.zero_add, Nat.add_zero, Nat.mul_one, Int.toNat_natCast, Int.reduceToNat]
    refine lda_cw h3 rfl ?_
    simp -dsimp (disch := first | omega | rfl | simp only [all_cons, all_nil, plain_w32, plain_w8, plain_w64, plain_ws, plain_int, plain_bool, plain_slice, plain_ptr, plain_map, plain_iface, Bool.and_self]) only [↓pre, ↓pre2, ↓pre3, ↓look_cons, ↓look_bnd, ↓look_bnd0, ↓opd_tmp, ↓opd_const, ↓ite_f, ↓ite_t, ↓reduceIte, post, post2, decide_true, decide_false, opds, Nat.reduceEqDiff, Nat.reduceAdd, Nat.zero_add, Nat.add_zero, Nat.mul_one, Int.toNat_natCast, Int.reduceToNat]
    refine stores_all (cs := w3 (leN l)) h2 (by simp [Value.cells]) rfl rfl rfl fun v2 hc hf hs => ?_
    simp -dsimp (disch := first | omega | rfl | simp only [all_cons, all_nil, plain_w32, plain_w8, plain_w64, plain_ws, plain_int, plain_bool, plain_slice, plain_ptr, plain_map, plain_iface, Bool.and_self]) only [↓pre, ↓pre2, ↓pre3, ↓look_cons, ↓look_bnd, ↓look_bnd0, ↓opd_tmp, ↓opd_const, ↓ite_f, ↓ite_t, ↓reduceIte, post, post2, decide_true, decide_false, opds, Nat.reduceEqDiff, Nat.reduceAdd, Nat.zero_add, Nat.add_zero, Nat.mul_one, Int.toNat_natCast, Int.reduceToNat]
    exact fin_ca (by simp [look]) hc rfl ⟨rfl, Ex.young hE hf (by omega)⟩
end Go.Lk
