/- The document's example of layer 7. No statement of the seat is proved in this text. -/
import Derived.Test.YtofoamkiidkbkaaSuite4
import Derived.Test.YtofoamkiidkbkaaFLaw07
set_option linter.unusedSimpArgs false
set_option linter.unusedVariables false
set_option linter.unusedSectionVars false
set_option linter.unnecessarySimpa false
set_option maxRecDepth 10000
set_option maxHeartbeats 2000000
namespace Go.Lk

theorem sgn_at (s : UInt8) (n : Int) : (sgn s n).getD 0 0 = 83 ∧ (sgn s n).getD 1 0 = s ∧ (sgn s n).getD 31 0 = nb n 0 := ⟨rfl, rfl, rfl⟩
theorem eqs_str (a b : List UInt8) : binv .eql (ws a) (ws b) = some (.bool (decide (a = b))) := by
  show some (Value.bool ((ByteArray.mk _).toList == (ByteArray.mk _).toList)) = _
  rw [ws_toList, ws_toList]
  congr 2
  by_cases h : a = b <;> simp [h]

theorem k12 {w : World} : Calls Go.Proofs.Try.prog 12 #[] w fun e w' => e = .returned (.bool true) ∧ Ex w w' := by
  refine enter mo (args := []) Go.Proofs.Try.func12 c12 (by simp [x12]) ?_
  simp only [x12, env0]
  simp -dsimp (disch := first | omega | rfl | simp only [all_cons, all_nil, plain_w32, plain_w8, plain_w64, plain_ws, plain_int, plain_bool, plain_slice, plain_ptr, plain_map, plain_iface, Bool.and_self]) only [↓pre, ↓pre2, ↓pre3, ↓look_cons, ↓look_bnd, ↓look_bnd0, ↓opd_tmp, ↓opd_const, ↓ite_f, ↓ite_t, ↓reduceIte, post, post2, decide_true, decide_false, opds, Nat.reduceEqDiff, Nat.reduceAdd, Nat.zero_add, Nat.add_zero, Nat.mul_one, Int.toNat_natCast, Int.reduceToNat]
  refine call_rule k17 ?_
  rintro en w0 ⟨b, F, rfl, su, hE, hF⟩
  refine ⟨_, rfl, ?_⟩
  simp -dsimp (disch := first | omega | rfl | simp only [all_cons, all_nil, plain_w32, plain_w8, plain_w64, plain_ws, plain_int, plain_bool, plain_slice, plain_ptr, plain_map, plain_iface, Bool.and_self]) only [↓pre, ↓pre2, ↓pre3, ↓look_cons, ↓look_bnd, ↓look_bnd0, ↓opd_tmp, ↓opd_const, ↓ite_f, ↓ite_t, ↓reduceIte, post, post2, decide_true, decide_false, opds, Nat.reduceEqDiff, Nat.reduceAdd, Nat.zero_add, Nat.add_zero, Nat.mul_one, Int.toNat_natCast, Int.reduceToNat]
  refine lit_rule (xs := [.const (w8 97)]) (vs := [w8 97]) el8 rfl rfl rfl rfl (by omega) fun bA wA hbA cA heA hsA => ?_
  simp -dsimp (disch := first | omega | rfl | simp only [all_cons, all_nil, plain_w32, plain_w8, plain_w64, plain_ws, plain_int, plain_bool, plain_slice, plain_ptr, plain_map, plain_iface, Bool.and_self]) only [↓pre, ↓pre2, ↓pre3, ↓look_cons, ↓look_bnd, ↓look_bnd0, ↓opd_tmp, ↓opd_const, ↓ite_f, ↓ite_t, ↓reduceIte, post, post2, decide_true, decide_false, opds, Nat.reduceEqDiff, Nat.reduceAdd, Nat.zero_add, Nat.add_zero, Nat.mul_one, Int.toNat_natCast, Int.reduceToNat]
  refine conv_rule und22 und8 rfl cA fun wB cB hfB hsB => ?_
  have hEB := Ex.young heA hfB (Nat.le_of_eq hbA)
  simp -dsimp (disch := first | omega | rfl | simp only [all_cons, all_nil, plain_w32, plain_w8, plain_w64, plain_ws, plain_int, plain_bool, plain_slice, plain_ptr, plain_map, plain_iface, Bool.and_self]) only [↓pre, ↓pre2, ↓pre3, ↓look_cons, ↓look_bnd, ↓look_bnd0, ↓opd_tmp, ↓opd_const, ↓ite_f, ↓ite_t, ↓reduceIte, post, post2, decide_true, decide_false, opds, Nat.reduceEqDiff, Nat.reduceAdd, Nat.zero_add, Nat.add_zero, Nat.mul_one, Int.toNat_natCast, Int.reduceToNat]
  refine lit_rule (xs := [.tmp 8]) (vs := [.slice (some ⟨bA, 0, none⟩) 1 1]) ell rfl rfl rfl rfl (by omega) fun bC wC hbC cC heC hsC => ?_
  have hEC := hEB.trans heC
  simp -dsimp (disch := first | omega | rfl | simp only [all_cons, all_nil, plain_w32, plain_w8, plain_w64, plain_ws, plain_int, plain_bool, plain_slice, plain_ptr, plain_map, plain_iface, Bool.and_self]) only [↓pre, ↓pre2, ↓pre3, ↓look_cons, ↓look_bnd, ↓look_bnd0, ↓opd_tmp, ↓opd_const, ↓ite_f, ↓ite_t, ↓reduceIte, post, post2, decide_true, decide_false, opds, Nat.reduceEqDiff, Nat.reduceAdd, Nat.zero_add, Nat.add_zero, Nat.mul_one, Int.toNat_natCast, Int.reduceToNat]
  refine call_rule (k16 (ps := [[97]]) (su.ex hEC) (Ps.lit cC (.cons (Cw.bs (l := [97]) (cB.ex heC) (by simp)) .nil) rfl) (by simp) (by simp) (by simp [stN, sumSt, onceL, thIdx])) ?_
  rintro en w1 ⟨u1, F1, rfl, sp1, n1⟩
  refine ⟨_, rfl, ?_⟩
  have hE1 : Ex w w1 := Fr.young (hE.trans hEC) sp1.fr hF
  have hF1 : ∀ k, F1 k → w.heap.size ≤ k := fun k hk => (sp1.sub k hk).elim (hF k) (fun h => Nat.le_trans (hE.trans hEC).size h)
  have su1 := sp1.su
  have i1 := n1.im
  clear hE hF su
  have su := su1
  have hE := hE1
  have hF := hF1
  simp -dsimp (disch := first | omega | rfl | simp only [all_cons, all_nil, plain_w32, plain_w8, plain_w64, plain_ws, plain_int, plain_bool, plain_slice, plain_ptr, plain_map, plain_iface, Bool.and_self]) only [↓pre, ↓pre2, ↓pre3, ↓look_cons, ↓look_bnd, ↓look_bnd0, ↓opd_tmp, ↓opd_const, ↓ite_f, ↓ite_t, ↓reduceIte, post, post2, decide_true, decide_false, opds, Nat.reduceEqDiff, Nat.reduceAdd, Nat.zero_add, Nat.add_zero, Nat.mul_one, Int.toNat_natCast, Int.reduceToNat]
  refine lit_rule (xs := [.const (w8 97)]) (vs := [w8 97]) el8 rfl rfl rfl rfl (by omega) fun bA wA hbA cA heA hsA => ?_
  simp -dsimp (disch := first | omega | rfl | simp only [all_cons, all_nil, plain_w32, plain_w8, plain_w64, plain_ws, plain_int, plain_bool, plain_slice, plain_ptr, plain_map, plain_iface, Bool.and_self]) only [↓pre, ↓pre2, ↓pre3, ↓look_cons, ↓look_bnd, ↓look_bnd0, ↓opd_tmp, ↓opd_const, ↓ite_f, ↓ite_t, ↓reduceIte, post, post2, decide_true, decide_false, opds, Nat.reduceEqDiff, Nat.reduceAdd, Nat.zero_add, Nat.add_zero, Nat.mul_one, Int.toNat_natCast, Int.reduceToNat]
  refine conv_rule und22 und8 rfl cA fun wB cB hfB hsB => ?_
  have hEB := Ex.young heA hfB (Nat.le_of_eq hbA)
  simp -dsimp (disch := first | omega | rfl | simp only [all_cons, all_nil, plain_w32, plain_w8, plain_w64, plain_ws, plain_int, plain_bool, plain_slice, plain_ptr, plain_map, plain_iface, Bool.and_self]) only [↓pre, ↓pre2, ↓pre3, ↓look_cons, ↓look_bnd, ↓look_bnd0, ↓opd_tmp, ↓opd_const, ↓ite_f, ↓ite_t, ↓reduceIte, post, post2, decide_true, decide_false, opds, Nat.reduceEqDiff, Nat.reduceAdd, Nat.zero_add, Nat.add_zero, Nat.mul_one, Int.toNat_natCast, Int.reduceToNat]
  refine lit_rule (xs := [.tmp 13]) (vs := [.slice (some ⟨bA, 0, none⟩) 1 1]) ell rfl rfl rfl rfl (by omega) fun bC wC hbC cC heC hsC => ?_
  have hEC := hEB.trans heC
  simp -dsimp (disch := first | omega | rfl | simp only [all_cons, all_nil, plain_w32, plain_w8, plain_w64, plain_ws, plain_int, plain_bool, plain_slice, plain_ptr, plain_map, plain_iface, Bool.and_self]) only [↓pre, ↓pre2, ↓pre3, ↓look_cons, ↓look_bnd, ↓look_bnd0, ↓opd_tmp, ↓opd_const, ↓ite_f, ↓ite_t, ↓reduceIte, post, post2, decide_true, decide_false, opds, Nat.reduceEqDiff, Nat.reduceAdd, Nat.zero_add, Nat.add_zero, Nat.mul_one, Int.toNat_natCast, Int.reduceToNat]
  refine call_rule (k16 (ps := [[97]]) (su.ex hEC) (Ps.lit cC (.cons (Cw.bs (l := [97]) (cB.ex heC) (by simp)) .nil) rfl) (by simp) (by simp) (by simp [stN, sumSt, onceL, thIdx])) ?_
  rintro en w2 ⟨u2, F2, rfl, sp2, n2⟩
  refine ⟨_, rfl, ?_⟩
  have hE2 : Ex w w2 := Fr.young (hE.trans hEC) sp2.fr hF
  have hF2 : ∀ k, F2 k → w.heap.size ≤ k := fun k hk => (sp2.sub k hk).elim (hF k) (fun h => Nat.le_trans (hE.trans hEC).size h)
  have su2 := sp2.su
  have i1 := (i1.ex hEC).step sp2.fr sp2.sub
  have i2 := n2.im
  clear hE hF su
  have su := su2
  have hE := hE2
  have hF := hF2
  simp -dsimp (disch := first | omega | rfl | simp only [all_cons, all_nil, plain_w32, plain_w8, plain_w64, plain_ws, plain_int, plain_bool, plain_slice, plain_ptr, plain_map, plain_iface, Bool.and_self]) only [↓pre, ↓pre2, ↓pre3, ↓look_cons, ↓look_bnd, ↓look_bnd0, ↓opd_tmp, ↓opd_const, ↓ite_f, ↓ite_t, ↓reduceIte, post, post2, decide_true, decide_false, opds, Nat.reduceEqDiff, Nat.reduceAdd, Nat.zero_add, Nat.add_zero, Nat.mul_one, Int.toNat_natCast, Int.reduceToNat]
  refine lit_rule (xs := [.const (w8 98)]) (vs := [w8 98]) el8 rfl rfl rfl rfl (by omega) fun bA wA hbA cA heA hsA => ?_
  simp -dsimp (disch := first | omega | rfl | simp only [all_cons, all_nil, plain_w32, plain_w8, plain_w64, plain_ws, plain_int, plain_bool, plain_slice, plain_ptr, plain_map, plain_iface, Bool.and_self]) only [↓pre, ↓pre2, ↓pre3, ↓look_cons, ↓look_bnd, ↓look_bnd0, ↓opd_tmp, ↓opd_const, ↓ite_f, ↓ite_t, ↓reduceIte, post, post2, decide_true, decide_false, opds, Nat.reduceEqDiff, Nat.reduceAdd, Nat.zero_add, Nat.add_zero, Nat.mul_one, Int.toNat_natCast, Int.reduceToNat]
  refine conv_rule und22 und8 rfl cA fun wB cB hfB hsB => ?_
  have hEB := Ex.young heA hfB (Nat.le_of_eq hbA)
  simp -dsimp (disch := first | omega | rfl | simp only [all_cons, all_nil, plain_w32, plain_w8, plain_w64, plain_ws, plain_int, plain_bool, plain_slice, plain_ptr, plain_map, plain_iface, Bool.and_self]) only [↓pre, ↓pre2, ↓pre3, ↓look_cons, ↓look_bnd, ↓look_bnd0, ↓opd_tmp, ↓opd_const, ↓ite_f, ↓ite_t, ↓reduceIte, post, post2, decide_true, decide_false, opds, Nat.reduceEqDiff, Nat.reduceAdd, Nat.zero_add, Nat.add_zero, Nat.mul_one, Int.toNat_natCast, Int.reduceToNat]
  refine lit_rule (xs := [.tmp 18]) (vs := [.slice (some ⟨bA, 0, none⟩) 1 1]) ell rfl rfl rfl rfl (by omega) fun bC wC hbC cC heC hsC => ?_
  have hEC := hEB.trans heC
  simp -dsimp (disch := first | omega | rfl | simp only [all_cons, all_nil, plain_w32, plain_w8, plain_w64, plain_ws, plain_int, plain_bool, plain_slice, plain_ptr, plain_map, plain_iface, Bool.and_self]) only [↓pre, ↓pre2, ↓pre3, ↓look_cons, ↓look_bnd, ↓look_bnd0, ↓opd_tmp, ↓opd_const, ↓ite_f, ↓ite_t, ↓reduceIte, post, post2, decide_true, decide_false, opds, Nat.reduceEqDiff, Nat.reduceAdd, Nat.zero_add, Nat.add_zero, Nat.mul_one, Int.toNat_natCast, Int.reduceToNat]
  refine call_rule (k16 (ps := [[98]]) (su.ex hEC) (Ps.lit cC (.cons (Cw.bs (l := [98]) (cB.ex heC) (by simp)) .nil) rfl) (by simp) (by simp) (by simp [stN, sumSt, onceL, thIdx])) ?_
  rintro en w3 ⟨u3, F3, rfl, sp3, n3⟩
  refine ⟨_, rfl, ?_⟩
  have hE3 : Ex w w3 := Fr.young (hE.trans hEC) sp3.fr hF
  have hF3 : ∀ k, F3 k → w.heap.size ≤ k := fun k hk => (sp3.sub k hk).elim (hF k) (fun h => Nat.le_trans (hE.trans hEC).size h)
  have su3 := sp3.su
  have i1 := (i1.ex hEC).step sp3.fr sp3.sub
  have i2 := (i2.ex hEC).step sp3.fr sp3.sub
  have i3 := n3.im
  have B1 : Bs w3.heap u1 (sgn 72 1) := i1.now
  have B2 : Bs w3.heap u2 (sgn 72 1) := i2.now
  have B3 : Bs w3.heap u3 (sgn 72 2) := i3.now
  obtain ⟨a1, c1, rfl, h1, hne1⟩ := B1.parts
  obtain ⟨a3, c3, rfl, h3, hne3⟩ := B3.parts
  obtain ⟨b1, o1, rfl⟩ := hne1 (by simp [sgn])
  obtain ⟨b3, o3, rfl⟩ := hne3 (by simp [sgn])
  have g0 := B1.at (i := 0) (by decide)
  have g1 := B1.at (i := 1) (by decide)
  have g31 := B1.at (i := 31) (by decide)
  have q31 := B3.at (i := 31) (by decide)
  rw [show (sgn 72 1).getD 0 0 = 83 from rfl, Nat.add_zero] at g0
  rw [show (sgn 72 1).getD 1 0 = 72 from rfl] at g1
  rw [show (sgn 72 1).getD 31 0 = 1 by decide] at g31
  rw [show (sgn 72 2).getD 31 0 = 2 by decide] at q31
  have hl1 : (((sgn 72 1).length : Nat) : Int) = 32 := rfl
  have hl2 : (((sgn 72 2).length : Nat) : Int) = 32 := rfl
  simp -dsimp (disch := first | omega | rfl | simp only [all_cons, all_nil, plain_w32, plain_w8, plain_w64, plain_ws, plain_int, plain_bool, plain_slice, plain_ptr, plain_map, plain_iface, Bool.and_self]) only [↓pre, ↓pre2, ↓pre3, ↓look_cons, ↓look_bnd, ↓look_bnd0, ↓opd_tmp, ↓opd_const, ↓ite_f, ↓ite_t, ↓reduceIte, post, post2, decide_true, decide_false, opds, Nat.reduceEqDiff, Nat.reduceAdd, Nat.zero_add, Nat.add_zero, Nat.mul_one, Int.toNat_natCast, Int.reduceToNat, dec_t, dec_f, words, hl1, hl2, g0, g1, g31, q31]
  refine b2s_rule B1 ?_
  simp -dsimp (disch := first | omega | rfl | simp only [all_cons, all_nil, plain_w32, plain_w8, plain_w64, plain_ws, plain_int, plain_bool, plain_slice, plain_ptr, plain_map, plain_iface, Bool.and_self]) only [↓pre, ↓pre2, ↓pre3, ↓look_cons, ↓look_bnd, ↓look_bnd0, ↓opd_tmp, ↓opd_const, ↓ite_f, ↓ite_t, ↓reduceIte, post, post2, decide_true, decide_false, opds, Nat.reduceEqDiff, Nat.reduceAdd, Nat.zero_add, Nat.add_zero, Nat.mul_one, Int.toNat_natCast, Int.reduceToNat]
  refine b2s_rule B2 ?_
  simp -dsimp (disch := first | omega | rfl | simp only [all_cons, all_nil, plain_w32, plain_w8, plain_w64, plain_ws, plain_int, plain_bool, plain_slice, plain_ptr, plain_map, plain_iface, Bool.and_self]) only [↓pre, ↓pre2, ↓pre3, ↓look_cons, ↓look_bnd, ↓look_bnd0, ↓opd_tmp, ↓opd_const, ↓ite_f, ↓ite_t, ↓reduceIte, post, post2, decide_true, decide_false, opds, Nat.reduceEqDiff, Nat.reduceAdd, Nat.zero_add, Nat.add_zero, Nat.mul_one, Int.toNat_natCast, Int.reduceToNat, dec_t, dec_f, words, eqs_str, hl1, hl2, g0, g1, g31, q31]
  refine call_rule (k20 su3 (by simp [stN, sumSt, onceL, thIdx])) ?_
  rintro en w4 ⟨rfl, hx4⟩
  refine ⟨_, rfl, ?_⟩
  have hN : ((stN (sumSt (sumSt (sumSt (Sst.signs []) [97]) [97]) [98]) : Nat) : Int) = 2 := by decide
  simp -dsimp (disch := first | omega | rfl | simp only [all_cons, all_nil, plain_w32, plain_w8, plain_w64, plain_ws, plain_int, plain_bool, plain_slice, plain_ptr, plain_map, plain_iface, Bool.and_self]) only [↓pre, ↓pre2, ↓pre3, ↓look_cons, ↓look_bnd, ↓look_bnd0, ↓opd_tmp, ↓opd_const, ↓ite_f, ↓ite_t, ↓reduceIte, post, post2, decide_true, decide_false, opds, Nat.reduceEqDiff, Nat.reduceAdd, Nat.zero_add, Nat.add_zero, Nat.mul_one, Int.toNat_natCast, Int.reduceToNat, dec_t, dec_f, hN]
  exact ⟨by trivial, hE3.trans hx4⟩
end Go.Lk
