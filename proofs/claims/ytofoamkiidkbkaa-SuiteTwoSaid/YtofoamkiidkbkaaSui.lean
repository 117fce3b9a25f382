/- What the suite's small functions do. No statement of the seat is proved in this text. -/
import Derived.Test.YtofoamkiidkbkaaLoop
import Derived.Test.YtofoamkiidkbkaaFSuite
set_option linter.unusedSimpArgs false
set_option linter.unusedVariables false
set_option linter.unusedSectionVars false
set_option linter.unnecessarySimpa false
set_option maxRecDepth 10000
namespace Go.Lk

/-- a number's byte k from the right, k from 0 -/
def nb (n : Int) (k : Nat) : UInt8 := UInt8.ofNat (n / 2 ^ (8 * k) % 256).toNat
/-- a number in eight bytes -/
def be8 (n : Int) : List UInt8 := [nb n 7, nb n 6, nb n 5, nb n 4, nb n 3, nb n 2, nb n 1, nb n 0]

theorem be8_drop (n : Int) (k : Nat) (hk : k < 8) : (be8 n).drop (7 - k) = nb n k :: (be8 n).drop (8 - k) := by
  match k, hk with
  | 0, _ | 1, _ | 2, _ | 3, _ | 4, _ | 5, _ | 6, _ | 7, _ => rfl

/-- put: the last eight bytes are the number -/
theorem k56 {w : World} {b L : Nat} {l : List UInt8} (n : Int) (hL : l.length = L) (hc : Cw w.heap b (l.map w8)) (hl : 8 ≤ l.length) (hl' : l.length < 9223372036854775808) :
    Calls Go.Proofs.Try.prog 56 #[.slice (some ⟨b, 0, none⟩) L L, vi n] w fun e w' => e = .returned (.slice (some ⟨b, 0, none⟩) L L) ∧ Cw w'.heap b ((l.take (L - 8) ++ be8 n).map w8) ∧ Fr (· = b) w w' ∧ w'.heap.size = w.heap.size := by
  subst hL
  refine enter mo (args := [.slice (some ⟨b, 0, none⟩) l.length l.length, vi n]) Go.Proofs.Try.func56 c56 (by simp [x56]) ?_
  simp only [x56, env0]
  simp -dsimp (disch := first | omega | rfl | simp only [all_cons, all_nil, plain_w32, plain_w8, plain_w64, plain_ws, plain_int, plain_bool, plain_slice, plain_ptr, plain_map, plain_iface, Bool.and_self]) only [↓pre, ↓pre2, ↓pre3, ↓look_cons, ↓look_bnd, ↓look_bnd0, ↓opd_tmp, ↓opd_const, ↓ite_f, ↓ite_t, ↓reduceIte, post, post2, decide_true, decide_false, opds, Nat.reduceEqDiff, Nat.reduceAdd, Nat.zero_add, Nat.add_zero, Nat.mul_one, Int.toNat_natCast, Int.reduceToNat]
  refine loop_rule (fun k : Nat => [(5, vi (k + 1)), (0, .slice (some ⟨b, 0, none⟩) l.length l.length), (1, vi n)])
    (fun k v => k ≤ 8 ∧ Cw v.heap b ((l.take (l.length - k) ++ (be8 n).drop (8 - k)).map w8) ∧ Fr (· = b) w v ∧ v.heap.size = w.heap.size) (fun k => 8 - k) 0 ?_ ⟨by omega, by simpa [be8] using hc, Fr.refl w, rfl⟩ ?_
  · simp [sub, look, bnd, add_addr]
  · rintro k v ⟨hk, h1, h2, h3⟩
    simp -dsimp (disch := first | omega | rfl | simp only [all_cons, all_nil, plain_w32, plain_w8, plain_w64, plain_ws, plain_int, plain_bool, plain_slice, plain_ptr, plain_map, plain_iface, Bool.and_self]) only [↓pre, ↓pre2, ↓pre3, ↓look_cons, ↓look_bnd, ↓look_bnd0, ↓opd_tmp, ↓opd_const, ↓ite_f, ↓ite_t, ↓reduceIte, post, post2, decide_true, decide_false, opds, Nat.reduceEqDiff, Nat.reduceAdd, Nat.zero_add, Nat.add_zero, Nat.mul_one, Int.toNat_natCast, Int.reduceToNat]
    refine cond_dec (fun hlt => ?_) (fun hge => ?_)
    · simp -dsimp (disch := first | omega | rfl | simp only [all_cons, all_nil, plain_w32, plain_w8, plain_w64, plain_ws, plain_int, plain_bool, plain_slice, plain_ptr, plain_map, plain_iface, Bool.and_self]) only [↓pre, ↓pre2, ↓pre3, ↓look_cons, ↓look_bnd, ↓look_bnd0, ↓opd_tmp, ↓opd_const, ↓ite_f, ↓ite_t, ↓reduceIte, post, post2, decide_true, decide_false, opds, Nat.reduceEqDiff, Nat.reduceAdd, Nat.zero_add, Nat.add_zero, Nat.mul_one, Int.toNat_natCast, Int.reduceToNat]
      have hi : (↑l.length - ((k : Int) + 1)).toNat = l.length - (k + 1) := by omega
      rw [hi]
      refine store_rule h1 (by simp [be8]; omega) (plain_w8 _) fun w' h4 h5 h6 => ?_
      simp -dsimp (disch := first | omega | rfl | simp only [all_cons, all_nil, plain_w32, plain_w8, plain_w64, plain_ws, plain_int, plain_bool, plain_slice, plain_ptr, plain_map, plain_iface, Bool.and_self]) only [↓pre, ↓pre2, ↓pre3, ↓look_cons, ↓look_bnd, ↓look_bnd0, ↓opd_tmp, ↓opd_const, ↓ite_f, ↓ite_t, ↓reduceIte, post, post2, decide_true, decide_false, opds, Nat.reduceEqDiff, Nat.reduceAdd, Nat.zero_add, Nat.add_zero, Nat.mul_one, Int.toNat_natCast, Int.reduceToNat]
      refine ⟨k + 1, ?_, ⟨by omega, ?_, h2.trans h5, h6.trans h3⟩, by omega⟩
      · simp [sub, look, bnd, add_addr]
      · have hk8 : k < 8 := by omega
        have hlen : (List.take (l.length - (k + 1)) l).length = l.length - (k + 1) := by simp
        have : (List.map w8 (List.take (l.length - k) l ++ List.drop (8 - k) (be8 n))).set (l.length - (k + 1)) (w8 (UInt8.ofNat (n / 2 ^ (8 * ((k : Int) + 1 - 1)).toNat % 256).toNat))
            = List.map w8 (List.take (l.length - (k + 1)) l ++ List.drop (8 - (k + 1)) (be8 n)) := by
          rw [show (8 * ((k : Int) + 1 - 1)).toNat = 8 * k by omega, show 8 - (k + 1) = 7 - k by omega, be8_drop n k hk8, ← List.map_set]
          congr 1
          rw [show l.length - k = (l.length - (k + 1)) + 1 by omega, List.take_succ_eq_append_getElem (by omega), List.append_assoc, List.set_append_right _ _ (by omega)]
          rw [hlen]
          simp [nb]
        rw [this] at h4
        exact h4
    · simp -dsimp (disch := first | omega | rfl | simp only [all_cons, all_nil, plain_w32, plain_w8, plain_w64, plain_ws, plain_int, plain_bool, plain_slice, plain_ptr, plain_map, plain_iface, Bool.and_self]) only [↓pre, ↓pre2, ↓pre3, ↓look_cons, ↓look_bnd, ↓look_bnd0, ↓opd_tmp, ↓opd_const, ↓ite_f, ↓ite_t, ↓reduceIte, post, post2, decide_true, decide_false, opds, Nat.reduceEqDiff, Nat.reduceAdd, Nat.zero_add, Nat.add_zero, Nat.mul_one, Int.toNat_natCast, Int.reduceToNat]
      have : k = 8 := by omega
      subst this
      exact ⟨trivial, by simpa [be8] using h1, h2, h3⟩

theorem Cw.new {h : Hp} {B b n : Nat} {l : List UInt8} (hc : Cw h b (l.map w8)) (hB : B ≤ b) (hn : n = l.length) : New B h (.slice (some ⟨b, 0, none⟩) n n) l := by
  subst hn
  exact Nw.new (hc.nw (by simp) hB) rfl

/-- a number's sign -/
def sgn (sort : UInt8) (n : Int) : List UInt8 := 83 :: sort :: (List.replicate 22 0 ++ be8 n)
theorem sgn_length (s : UInt8) (n : Int) : (sgn s n).length = 32 := rfl

theorem reps8 (n : Nat) : reps n [w8 0] = (List.replicate n (0 : UInt8)).map w8 := by rw [reps_one]; simp

theorem k57 {w : World} (s : UInt8) (n : Int) :
    Calls Go.Proofs.Try.prog 57 #[w8 s, vi n] w fun e w' => ∃ v, e = .returned v ∧ New w.heap.size w'.heap v (sgn s n) ∧ Ex w w' := by
  refine enter mo (args := [w8 s, vi n]) Go.Proofs.Try.func57 c57 (by simp [x57]) ?_
  simp only [x57, env0]
  simp -dsimp (disch := first | omega | rfl | simp only [all_cons, all_nil, plain_w32, plain_w8, plain_w64, plain_ws, plain_int, plain_bool, plain_slice, plain_ptr, plain_map, plain_iface, Bool.and_self]) only [↓pre, ↓pre2, ↓pre3, ↓look_cons, ↓look_bnd, ↓look_bnd0, ↓opd_tmp, ↓opd_const, ↓ite_f, ↓ite_t, ↓reduceIte, post, post2, decide_true, decide_false, opds, Nat.reduceEqDiff, Nat.reduceAdd, Nat.zero_add, Nat.add_zero, Nat.mul_one, Int.toNat_natCast, Int.reduceToNat]
  refine mks_rule (n := 32) (c := 32) el8 rfl rfl (by omega) (by omega) (by omega) fun b w1 hb hc he hs => ?_
  rw [reps8] at hc
  simp -dsimp (disch := first | omega | rfl | simp only [all_cons, all_nil, plain_w32, plain_w8, plain_w64, plain_ws, plain_int, plain_bool, plain_slice, plain_ptr, plain_map, plain_iface, Bool.and_self]) only [↓pre, ↓pre2, ↓pre3, ↓look_cons, ↓look_bnd, ↓look_bnd0, ↓opd_tmp, ↓opd_const, ↓ite_f, ↓ite_t, ↓reduceIte, post, post2, decide_true, decide_false, opds, Nat.reduceEqDiff, Nat.reduceAdd, Nat.zero_add, Nat.add_zero, Nat.mul_one, Int.toNat_natCast, Int.reduceToNat]
  refine store_rule hc (by simp) rfl fun w2 hc2 hf2 hs2 => ?_
  simp -dsimp (disch := first | omega | rfl | simp only [all_cons, all_nil, plain_w32, plain_w8, plain_w64, plain_ws, plain_int, plain_bool, plain_slice, plain_ptr, plain_map, plain_iface, Bool.and_self]) only [↓pre, ↓pre2, ↓pre3, ↓look_cons, ↓look_bnd, ↓look_bnd0, ↓opd_tmp, ↓opd_const, ↓ite_f, ↓ite_t, ↓reduceIte, post, post2, decide_true, decide_false, opds, Nat.reduceEqDiff, Nat.reduceAdd, Nat.zero_add, Nat.add_zero, Nat.mul_one, Int.toNat_natCast, Int.reduceToNat]
  refine store_rule hc2 (by simp) (plain_w8 _) fun w3 hc3 hf3 hs3 => ?_
  simp -dsimp (disch := first | omega | rfl | simp only [all_cons, all_nil, plain_w32, plain_w8, plain_w64, plain_ws, plain_int, plain_bool, plain_slice, plain_ptr, plain_map, plain_iface, Bool.and_self]) only [↓pre, ↓pre2, ↓pre3, ↓look_cons, ↓look_bnd, ↓look_bnd0, ↓opd_tmp, ↓opd_const, ↓ite_f, ↓ite_t, ↓reduceIte, post, post2, decide_true, decide_false, opds, Nat.reduceEqDiff, Nat.reduceAdd, Nat.zero_add, Nat.add_zero, Nat.mul_one, Int.toNat_natCast, Int.reduceToNat]
  have hc4 : Cw w3.heap b (([83, s] ++ List.replicate 30 0).map w8) := by simpa [List.replicate] using hc3
  have := k56 n (L := 32) rfl hc4 (by simp) (by simp)
  refine call_rule this ?_
  rintro en w4 ⟨rfl, h1, h2, h3⟩
  refine ⟨_, rfl, ?_⟩
  simp -dsimp (disch := first | omega | rfl | simp only [all_cons, all_nil, plain_w32, plain_w8, plain_w64, plain_ws, plain_int, plain_bool, plain_slice, plain_ptr, plain_map, plain_iface, Bool.and_self]) only [↓pre, ↓pre2, ↓pre3, ↓look_cons, ↓look_bnd, ↓look_bnd0, ↓opd_tmp, ↓opd_const, ↓ite_f, ↓ite_t, ↓reduceIte, post, post2, decide_true, decide_false, opds, Nat.reduceEqDiff, Nat.reduceAdd, Nat.zero_add, Nat.add_zero, Nat.mul_one, Int.toNat_natCast, Int.reduceToNat]
  have h1' : Cw w4.heap b ((sgn s n).map w8) := by simpa [sgn, List.replicate] using h1
  refine ⟨_, rfl, ?_, ?_⟩
  · exact Cw.new h1' (by omega) rfl
  · exact Fr.young he (hf2.trans (hf3.trans h2)) (fun k hk => by omega)

/-- a box of n for a text of m bytes -/
def bxs (n : Int) (m : Nat) : List UInt8 := 66 :: (List.replicate (m + 7) 0 ++ be8 n)
theorem bxs_length (n : Int) (m : Nat) : (bxs n m).length = m + 16 := by simp [bxs, be8]

theorem k54 {w : World} (n : Int) (m : Nat) (hm : m < 1099511627776) :
    Calls Go.Proofs.Try.prog 54 #[vi n, vi m] w fun e w' => ∃ v, e = .returned v ∧ New w.heap.size w'.heap v (bxs n m) ∧ Ex w w' := by
  refine enter mo (args := [vi n, vi m]) Go.Proofs.Try.func54 c54 (by simp [x54]) ?_
  simp only [x54, env0]
  simp -dsimp (disch := first | omega | rfl | simp only [all_cons, all_nil, plain_w32, plain_w8, plain_w64, plain_ws, plain_int, plain_bool, plain_slice, plain_ptr, plain_map, plain_iface, Bool.and_self]) only [↓pre, ↓pre2, ↓pre3, ↓look_cons, ↓look_bnd, ↓look_bnd0, ↓opd_tmp, ↓opd_const, ↓ite_f, ↓ite_t, ↓reduceIte, post, post2, decide_true, decide_false, opds, Nat.reduceEqDiff, Nat.reduceAdd, Nat.zero_add, Nat.add_zero, Nat.mul_one, Int.toNat_natCast, Int.reduceToNat]
  refine mks_rule (n := m + 16) (c := m + 16) el8 rfl rfl (by omega) (by omega) (by omega) fun b w1 hb hc he hs => ?_
  rw [reps8] at hc
  simp -dsimp (disch := first | omega | rfl | simp only [all_cons, all_nil, plain_w32, plain_w8, plain_w64, plain_ws, plain_int, plain_bool, plain_slice, plain_ptr, plain_map, plain_iface, Bool.and_self]) only [↓pre, ↓pre2, ↓pre3, ↓look_cons, ↓look_bnd, ↓look_bnd0, ↓opd_tmp, ↓opd_const, ↓ite_f, ↓ite_t, ↓reduceIte, post, post2, decide_true, decide_false, opds, Nat.reduceEqDiff, Nat.reduceAdd, Nat.zero_add, Nat.add_zero, Nat.mul_one, Int.toNat_natCast, Int.reduceToNat]
  refine store_rule hc (by simp) rfl fun w2 hc2 hf2 hs2 => ?_
  simp -dsimp (disch := first | omega | rfl | simp only [all_cons, all_nil, plain_w32, plain_w8, plain_w64, plain_ws, plain_int, plain_bool, plain_slice, plain_ptr, plain_map, plain_iface, Bool.and_self]) only [↓pre, ↓pre2, ↓pre3, ↓look_cons, ↓look_bnd, ↓look_bnd0, ↓opd_tmp, ↓opd_const, ↓ite_f, ↓ite_t, ↓reduceIte, post, post2, decide_true, decide_false, opds, Nat.reduceEqDiff, Nat.reduceAdd, Nat.zero_add, Nat.add_zero, Nat.mul_one, Int.toNat_natCast, Int.reduceToNat]
  have hc4 : Cw w2.heap b ((66 :: List.replicate (m + 15) (0 : UInt8)).map w8) := by simpa [List.replicate_succ] using hc2
  have := k56 n (L := m + 16) (by simp) hc4 (by simp) (by simp; omega)
  refine call_rule this ?_
  rintro en w4 ⟨rfl, h1, h2, h3⟩
  refine ⟨_, rfl, ?_⟩
  simp -dsimp (disch := first | omega | rfl | simp only [all_cons, all_nil, plain_w32, plain_w8, plain_w64, plain_ws, plain_int, plain_bool, plain_slice, plain_ptr, plain_map, plain_iface, Bool.and_self]) only [↓pre, ↓pre2, ↓pre3, ↓look_cons, ↓look_bnd, ↓look_bnd0, ↓opd_tmp, ↓opd_const, ↓ite_f, ↓ite_t, ↓reduceIte, post, post2, decide_true, decide_false, opds, Nat.reduceEqDiff, Nat.reduceAdd, Nat.zero_add, Nat.add_zero, Nat.mul_one, Int.toNat_natCast, Int.reduceToNat]
  have h1' : Cw w4.heap b ((bxs n m).map w8) := by
    have e : List.take (m + 16 - 8) (66 :: List.replicate (m + 15) 0) = 66 :: List.replicate (m + 7) (0 : UInt8) := by
      simp only [show m + 16 - 8 = m + 7 + 1 by omega, List.take_succ_cons, List.take_replicate, show min (m + 7) (m + 15) = m + 7 by omega]
    rw [e] at h1
    exact h1
  refine ⟨_, rfl, ?_, ?_⟩
  · have := Cw.new h1' (n := m + 16) (B := w.heap.size) (by omega) (bxs_length n m).symm
    simpa using this
  · exact Fr.young he (hf2.trans h2) (fun k hk => by omega)
end Go.Lk
