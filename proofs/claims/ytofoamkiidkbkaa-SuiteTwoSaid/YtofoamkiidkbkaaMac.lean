/- HMAC: what its functions compute. No statement of the seat is proved in this text. -/
import Derived.Test.YtofoamkiidkbkaaSha3
set_option linter.unusedSimpArgs false
set_option linter.unusedVariables false
set_option linter.unusedSectionVars false
set_option linter.unnecessarySimpa false
set_option maxRecDepth 10000
namespace Go.Lk

theorem flat4 (l : List (BitVec 32)) : (l.flatMap wordBytes).length = 4 * l.length := by
  induction l with
  | nil => rfl
  | cons x r ih => simp [ih, wordBytes]; omega
theorem shaSum_length (l : List UInt8) : (shaSum l).length = 32 := by
  unfold shaSum
  rw [flat4, takeIn_length (takeIn_length rfl l)]

theorem Ps.lit {h : Hp} {b n : Nat} {vs : List Value} {ps : List (List UInt8)} (hc : Cw h b vs) (hp : All2 (Bs h) vs ps) (hn : ps.length = n) : Ps h (.slice (some ⟨b, 0, none⟩) n n) ps := by
  subst hn
  exact ⟨vs, Cw.rd hc (by rw [All2_len hp]; omega) (Nat.le_refl _), hp⟩

def macKey (k : List UInt8) : List UInt8 := if 64 < k.length then shaSum k else k
def macPad (k : List UInt8) (x : UInt8) : List UInt8 := (macKey k ++ List.replicate (64 - (macKey k).length) 0).map (· ^^^ x)
theorem macKey_length (k : List UInt8) : (macKey k).length ≤ 64 := by
  unfold macKey
  split
  · rw [shaSum_length]; omega
  · omega
theorem macPad_length (k : List UInt8) (x : UInt8) : (macPad k x).length = 64 := by
  have := macKey_length k
  simp [macPad]; omega

theorem k106 {w : World} {v : Value} {k : List UInt8} (x : UInt8) (hb : Bs w.heap v k) (hl : k.length ≤ 1099511627776) :
    Calls Go.Proofs.Try.prog 106 #[v, w8 x] w fun e w' => ∃ u, e = .returned u ∧ New w.heap.size w'.heap u (macPad k x) ∧ Ex w w' := by
  obtain ⟨a, c, rfl, hc, hne⟩ := hb.parts
  have hl3 := macKey_length k
  refine enter mo (args := [.slice a k.length c, w8 x]) Go.Proofs.Try.func106 c106 (by simp [x106]) ?_
  simp only [x106, env0]
  simp -dsimp (disch := first | omega | rfl | simp only [all_cons, all_nil, plain_w32, plain_w8, plain_w64, plain_ws, plain_int, plain_bool, plain_slice, plain_ptr, plain_map, plain_iface, Bool.and_self]) only [↓pre, ↓pre2, ↓pre3, ↓look_cons, ↓look_bnd, ↓look_bnd0, ↓opd_tmp, ↓opd_const, ↓ite_f, ↓ite_t, ↓reduceIte, post, post2, decide_true, decide_false, opds, Nat.reduceEqDiff, Nat.reduceAdd, Nat.zero_add, Nat.add_zero, Nat.mul_one, Int.toNat_natCast, Int.reduceToNat]
  refine cond_dec (fun hlt => ?_) (fun hge => ?_)
  · simp -dsimp (disch := first | omega | rfl | simp only [all_cons, all_nil, plain_w32, plain_w8, plain_w64, plain_ws, plain_int, plain_bool, plain_slice, plain_ptr, plain_map, plain_iface, Bool.and_self]) only [↓pre, ↓pre2, ↓pre3, ↓look_cons, ↓look_bnd, ↓look_bnd0, ↓opd_tmp, ↓opd_const, ↓ite_f, ↓ite_t, ↓reduceIte, post, post2, decide_true, decide_false, opds, Nat.reduceEqDiff, Nat.reduceAdd, Nat.zero_add, Nat.add_zero, Nat.mul_one, Int.toNat_natCast, Int.reduceToNat]
    refine lit_rule (xs := [.tmp 10]) (vs := [.slice a k.length c]) ell rfl rfl rfl rfl (by omega) fun b1 w1 hb1 hc1 he1 hs1 => ?_
    simp -dsimp (disch := first | omega | rfl | simp only [all_cons, all_nil, plain_w32, plain_w8, plain_w64, plain_ws, plain_int, plain_bool, plain_slice, plain_ptr, plain_map, plain_iface, Bool.and_self]) only [↓pre, ↓pre2, ↓pre3, ↓look_cons, ↓look_bnd, ↓look_bnd0, ↓opd_tmp, ↓opd_const, ↓ite_f, ↓ite_t, ↓reduceIte, post, post2, decide_true, decide_false, opds, Nat.reduceEqDiff, Nat.reduceAdd, Nat.zero_add, Nat.add_zero, Nat.mul_one, Int.toNat_natCast, Int.reduceToNat]
    refine call_rule (k58 (ps := [k]) (Ps.lit hc1 (.cons (hb.ex he1) .nil) rfl) (by simpa using hl) (by simp)) ?_
    rintro en w3 ⟨u, rfl, hn3, hx3⟩
    refine ⟨_, rfl, ?_⟩
    have hE3 := he1.trans hx3
    have hmk : macKey k = shaSum [k].flatten := by simp [macKey]; omega
    unfold macPad
    rw [hmk] at hl3 ⊢
    have hb3 := hn3.bs
    generalize shaSum [k].flatten = m at hb3 hl3 ⊢
    simp -dsimp (disch := first | omega | rfl | simp only [all_cons, all_nil, plain_w32, plain_w8, plain_w64, plain_ws, plain_int, plain_bool, plain_slice, plain_ptr, plain_map, plain_iface, Bool.and_self]) only [↓pre, ↓pre2, ↓pre3, ↓look_cons, ↓look_bnd, ↓look_bnd0, ↓opd_tmp, ↓opd_const, ↓ite_f, ↓ite_t, ↓reduceIte, post, post2, decide_true, decide_false, opds, Nat.reduceEqDiff, Nat.reduceAdd, Nat.zero_add, Nat.add_zero, Nat.mul_one, Int.toNat_natCast, Int.reduceToNat]
    refine mks_rule (n := 64) (c := 64) el8 rfl rfl (by omega) (by omega) (by omega) fun b4 w4 hb4 hc4 he4 hs4 => ?_
    rw [reps8] at hc4
    simp -dsimp (disch := first | omega | rfl | simp only [all_cons, all_nil, plain_w32, plain_w8, plain_w64, plain_ws, plain_int, plain_bool, plain_slice, plain_ptr, plain_map, plain_iface, Bool.and_self]) only [↓pre, ↓pre2, ↓pre3, ↓look_cons, ↓look_bnd, ↓look_bnd0, ↓opd_tmp, ↓opd_const, ↓ite_f, ↓ite_t, ↓reduceIte, post, post2, decide_true, decide_false, opds, Nat.reduceEqDiff, Nat.reduceAdd, Nat.zero_add, Nat.add_zero, Nat.mul_one, Int.toNat_natCast, Int.reduceToNat]
    have hE4 := hE3.trans he4
    refine copy_rule el8 rfl rfl hc4 (by simp) (hb3.ex he4) hl3 fun w5 hc5 hf5 hs5 => ?_
    have hE5 := Ex.young hE4 hf5 (by have := hE3.size; omega)
    simp -dsimp (disch := first | omega | rfl | simp only [all_cons, all_nil, plain_w32, plain_w8, plain_w64, plain_ws, plain_int, plain_bool, plain_slice, plain_ptr, plain_map, plain_iface, Bool.and_self]) only [↓pre, ↓pre2, ↓pre3, ↓look_cons, ↓look_bnd, ↓look_bnd0, ↓opd_tmp, ↓opd_const, ↓ite_f, ↓ite_t, ↓reduceIte, post, post2, decide_true, decide_false, opds, Nat.reduceEqDiff, Nat.reduceAdd, Nat.zero_add, Nat.add_zero, Nat.mul_one, Int.toNat_natCast, Int.reduceToNat]
    have hc6 : Cw w5.heap b4 ((m ++ List.replicate (64 - m.length) 0 : List UInt8).map w8) := by
      rw [List.map_replicate, List.drop_replicate] at hc5
      rw [List.map_append, List.map_replicate]
      exact hc5
    have hml : (m ++ List.replicate (64 - m.length) 0 : List UInt8).length = 64 := by simp; omega
    generalize (m ++ List.replicate (64 - m.length) 0 : List UInt8) = q at hc6 hml ⊢
    have hb4w : w.heap.size ≤ b4 := by have := hE3.size; omega
    refine loop_rule (fun k : Nat => [(19, vi k), (18, vi 64), (5, .slice (some ⟨b4, 0, none⟩) 64 64), (1, w8 x)])
      (fun k v => k ≤ 64 ∧ Cw v.heap b4 (((q.take k).map (· ^^^ x) ++ q.drop k).map w8) ∧ Ex w v) (fun k => 64 - k) 0 (by simp [sub, look, bnd, add_addr]) ⟨by omega, by simpa using hc6, hE5⟩ ?_
    rintro k v ⟨hk, h1, h2⟩
    simp -dsimp (disch := first | omega | rfl | simp only [all_cons, all_nil, plain_w32, plain_w8, plain_w64, plain_ws, plain_int, plain_bool, plain_slice, plain_ptr, plain_map, plain_iface, Bool.and_self]) only [↓pre, ↓pre2, ↓pre3, ↓look_cons, ↓look_bnd, ↓look_bnd0, ↓opd_tmp, ↓opd_const, ↓ite_f, ↓ite_t, ↓reduceIte, post, post2, decide_true, decide_false, opds, Nat.reduceEqDiff, Nat.reduceAdd, Nat.zero_add, Nat.add_zero, Nat.mul_one, Int.toNat_natCast, Int.reduceToNat]
    refine cond_dec (fun hlt => ?_) (fun hge => ?_)
    · have hkq : k < q.length := by omega
      have hg : (((q.take k).map (· ^^^ x) ++ q.drop k).map w8)[k]? = some (w8 (q[k])) := by
        rw [List.getElem?_map, List.getElem?_append_right (by simp; omega)]
        simp [Nat.min_eq_left (Nat.le_of_lt hkq), hkq]
      simp -dsimp (disch := first | omega | rfl | simp only [all_cons, all_nil, plain_w32, plain_w8, plain_w64, plain_ws, plain_int, plain_bool, plain_slice, plain_ptr, plain_map, plain_iface, Bool.and_self]) only [↓pre, ↓pre2, ↓pre3, ↓look_cons, ↓look_bnd, ↓look_bnd0, ↓opd_tmp, ↓opd_const, ↓ite_f, ↓ite_t, ↓reduceIte, post, post2, decide_true, decide_false, opds, Nat.reduceEqDiff, Nat.reduceAdd, Nat.zero_add, Nat.add_zero, Nat.mul_one, Int.toNat_natCast, Int.reduceToNat, words, h1.cell, hg]
      refine store_rule h1 (by simp; omega) rfl fun w6 hc7 hf7 hs7 => ?_
      simp -dsimp (disch := first | omega | rfl | simp only [all_cons, all_nil, plain_w32, plain_w8, plain_w64, plain_ws, plain_int, plain_bool, plain_slice, plain_ptr, plain_map, plain_iface, Bool.and_self]) only [↓pre, ↓pre2, ↓pre3, ↓look_cons, ↓look_bnd, ↓look_bnd0, ↓opd_tmp, ↓opd_const, ↓ite_f, ↓ite_t, ↓reduceIte, post, post2, decide_true, decide_false, opds, Nat.reduceEqDiff, Nat.reduceAdd, Nat.zero_add, Nat.add_zero, Nat.mul_one, Int.toNat_natCast, Int.reduceToNat]
      refine ⟨k + 1, by simp [sub, look, bnd, add_addr], ⟨by omega, ?_, Ex.young h2 hf7 hb4w⟩, by omega⟩
      have e : (((q.take k).map (· ^^^ x) ++ q.drop k).map w8).set k (w8 (q[k] ^^^ x)) = (((q.take (k + 1)).map (· ^^^ x) ++ q.drop (k + 1)).map w8) := by
        rw [← List.map_set]
        congr 1
        have h1 : ((q.take k).map (· ^^^ x)).length = k := by simp; omega
        rw [List.set_append_right _ _ (by omega), h1, Nat.sub_self, List.drop_eq_getElem_cons hkq, List.set_cons_zero, List.take_succ_eq_append_getElem hkq, List.map_append, List.append_assoc]
        rfl
      rw [e] at hc7
      exact hc7
    · have hk8 : k = 64 := by omega
      subst hk8
      rw [List.take_of_length_le (by omega), List.drop_eq_nil_of_le (by omega), List.append_nil] at h1
      simp -dsimp (disch := first | omega | rfl | simp only [all_cons, all_nil, plain_w32, plain_w8, plain_w64, plain_ws, plain_int, plain_bool, plain_slice, plain_ptr, plain_map, plain_iface, Bool.and_self]) only [↓pre, ↓pre2, ↓pre3, ↓look_cons, ↓look_bnd, ↓look_bnd0, ↓opd_tmp, ↓opd_const, ↓ite_f, ↓ite_t, ↓reduceIte, post, post2, decide_true, decide_false, opds, Nat.reduceEqDiff, Nat.reduceAdd, Nat.zero_add, Nat.add_zero, Nat.mul_one, Int.toNat_natCast, Int.reduceToNat]
      exact ⟨_, rfl, Cw.new h1 hb4w (by simp [hml]), h2⟩
  · simp -dsimp (disch := first | omega | rfl | simp only [all_cons, all_nil, plain_w32, plain_w8, plain_w64, plain_ws, plain_int, plain_bool, plain_slice, plain_ptr, plain_map, plain_iface, Bool.and_self]) only [↓pre, ↓pre2, ↓pre3, ↓look_cons, ↓look_bnd, ↓look_bnd0, ↓opd_tmp, ↓opd_const, ↓ite_f, ↓ite_t, ↓reduceIte, post, post2, decide_true, decide_false, opds, Nat.reduceEqDiff, Nat.reduceAdd, Nat.zero_add, Nat.add_zero, Nat.mul_one, Int.toNat_natCast, Int.reduceToNat]
    have hE3 := Fr.refl (M := fun _ => False) w
    have hmk : macKey k = k := by simp [macKey]; omega
    unfold macPad
    rw [hmk] at hl3 ⊢
    have hb3 := hb
    generalize k = m at hb3 hl3 ⊢
    refine mks_rule (n := 64) (c := 64) el8 rfl rfl (by omega) (by omega) (by omega) fun b4 w4 hb4 hc4 he4 hs4 => ?_
    rw [reps8] at hc4
    simp -dsimp (disch := first | omega | rfl | simp only [all_cons, all_nil, plain_w32, plain_w8, plain_w64, plain_ws, plain_int, plain_bool, plain_slice, plain_ptr, plain_map, plain_iface, Bool.and_self]) only [↓pre, ↓pre2, ↓pre3, ↓look_cons, ↓look_bnd, ↓look_bnd0, ↓opd_tmp, ↓opd_const, ↓ite_f, ↓ite_t, ↓reduceIte, post, post2, decide_true, decide_false, opds, Nat.reduceEqDiff, Nat.reduceAdd, Nat.zero_add, Nat.add_zero, Nat.mul_one, Int.toNat_natCast, Int.reduceToNat]
    have hE4 := hE3.trans he4
    refine copy_rule el8 rfl rfl hc4 (by simp) (hb3.ex he4) hl3 fun w5 hc5 hf5 hs5 => ?_
    have hE5 := Ex.young hE4 hf5 (by have := hE3.size; omega)
    simp -dsimp (disch := first | omega | rfl | simp only [all_cons, all_nil, plain_w32, plain_w8, plain_w64, plain_ws, plain_int, plain_bool, plain_slice, plain_ptr, plain_map, plain_iface, Bool.and_self]) only [↓pre, ↓pre2, ↓pre3, ↓look_cons, ↓look_bnd, ↓look_bnd0, ↓opd_tmp, ↓opd_const, ↓ite_f, ↓ite_t, ↓reduceIte, post, post2, decide_true, decide_false, opds, Nat.reduceEqDiff, Nat.reduceAdd, Nat.zero_add, Nat.add_zero, Nat.mul_one, Int.toNat_natCast, Int.reduceToNat]
    have hc6 : Cw w5.heap b4 ((m ++ List.replicate (64 - m.length) 0 : List UInt8).map w8) := by
      rw [List.map_replicate, List.drop_replicate] at hc5
      rw [List.map_append, List.map_replicate]
      exact hc5
    have hml : (m ++ List.replicate (64 - m.length) 0 : List UInt8).length = 64 := by simp; omega
    generalize (m ++ List.replicate (64 - m.length) 0 : List UInt8) = q at hc6 hml ⊢
    have hb4w : w.heap.size ≤ b4 := by have := hE3.size; omega
    refine loop_rule (fun k : Nat => [(19, vi k), (18, vi 64), (5, .slice (some ⟨b4, 0, none⟩) 64 64), (1, w8 x)])
      (fun k v => k ≤ 64 ∧ Cw v.heap b4 (((q.take k).map (· ^^^ x) ++ q.drop k).map w8) ∧ Ex w v) (fun k => 64 - k) 0 (by simp [sub, look, bnd, add_addr]) ⟨by omega, by simpa using hc6, hE5⟩ ?_
    rintro k v ⟨hk, h1, h2⟩
    simp -dsimp (disch := first | omega | rfl | simp only [all_cons, all_nil, plain_w32, plain_w8, plain_w64, plain_ws, plain_int, plain_bool, plain_slice, plain_ptr, plain_map, plain_iface, Bool.and_self]) only [↓pre, ↓pre2, ↓pre3, ↓look_cons, ↓look_bnd, ↓look_bnd0, ↓opd_tmp, ↓opd_const, ↓ite_f, ↓ite_t, ↓reduceIte, post, post2, decide_true, decide_false, opds, Nat.reduceEqDiff, Nat.reduceAdd, Nat.zero_add, Nat.add_zero, Nat.mul_one, Int.toNat_natCast, Int.reduceToNat]
    refine cond_dec (fun hlt => ?_) (fun hge => ?_)
    · have hkq : k < q.length := by omega
      have hg : (((q.take k).map (· ^^^ x) ++ q.drop k).map w8)[k]? = some (w8 (q[k])) := by
        rw [List.getElem?_map, List.getElem?_append_right (by simp; omega)]
        simp [Nat.min_eq_left (Nat.le_of_lt hkq), hkq]
      simp -dsimp (disch := first | omega | rfl | simp only [all_cons, all_nil, plain_w32, plain_w8, plain_w64, plain_ws, plain_int, plain_bool, plain_slice, plain_ptr, plain_map, plain_iface, Bool.and_self]) only [↓pre, ↓pre2, ↓pre3, ↓look_cons, ↓look_bnd, ↓look_bnd0, ↓opd_tmp, ↓opd_const, ↓ite_f, ↓ite_t, ↓reduceIte, post, post2, decide_true, decide_false, opds, Nat.reduceEqDiff, Nat.reduceAdd, Nat.zero_add, Nat.add_zero, Nat.mul_one, Int.toNat_natCast, Int.reduceToNat, words, h1.cell, hg]
      refine store_rule h1 (by simp; omega) rfl fun w6 hc7 hf7 hs7 => ?_
      simp -dsimp (disch := first | omega | rfl | simp only [all_cons, all_nil, plain_w32, plain_w8, plain_w64, plain_ws, plain_int, plain_bool, plain_slice, plain_ptr, plain_map, plain_iface, Bool.and_self]) only [↓pre, ↓pre2, ↓pre3, ↓look_cons, ↓look_bnd, ↓look_bnd0, ↓opd_tmp, ↓opd_const, ↓ite_f, ↓ite_t, ↓reduceIte, post, post2, decide_true, decide_false, opds, Nat.reduceEqDiff, Nat.reduceAdd, Nat.zero_add, Nat.add_zero, Nat.mul_one, Int.toNat_natCast, Int.reduceToNat]
      refine ⟨k + 1, by simp [sub, look, bnd, add_addr], ⟨by omega, ?_, Ex.young h2 hf7 hb4w⟩, by omega⟩
      have e : (((q.take k).map (· ^^^ x) ++ q.drop k).map w8).set k (w8 (q[k] ^^^ x)) = (((q.take (k + 1)).map (· ^^^ x) ++ q.drop (k + 1)).map w8) := by
        rw [← List.map_set]
        congr 1
        have h1 : ((q.take k).map (· ^^^ x)).length = k := by simp; omega
        rw [List.set_append_right _ _ (by omega), h1, Nat.sub_self, List.drop_eq_getElem_cons hkq, List.set_cons_zero, List.take_succ_eq_append_getElem hkq, List.map_append, List.append_assoc]
        rfl
      rw [e] at hc7
      exact hc7
    · have hk8 : k = 64 := by omega
      subst hk8
      rw [List.take_of_length_le (by omega), List.drop_eq_nil_of_le (by omega), List.append_nil] at h1
      simp -dsimp (disch := first | omega | rfl | simp only [all_cons, all_nil, plain_w32, plain_w8, plain_w64, plain_ws, plain_int, plain_bool, plain_slice, plain_ptr, plain_map, plain_iface, Bool.and_self]) only [↓pre, ↓pre2, ↓pre3, ↓look_cons, ↓look_bnd, ↓look_bnd0, ↓opd_tmp, ↓opd_const, ↓ite_f, ↓ite_t, ↓reduceIte, post, post2, decide_true, decide_false, opds, Nat.reduceEqDiff, Nat.reduceAdd, Nat.zero_add, Nat.add_zero, Nat.mul_one, Int.toNat_natCast, Int.reduceToNat]
      exact ⟨_, rfl, Cw.new h1 hb4w (by simp [hml]), h2⟩

/-- THE CODE of bytes under a key -/
def macS (k l : List UInt8) : List UInt8 := shaSum (macPad k 92 ++ shaSum (macPad k 54 ++ l))
theorem macS_length (k l : List UInt8) : (macS k l).length = 32 := shaSum_length _

theorem k55 {w : World} {kv v : Value} {k : List UInt8} {ps : List (List UInt8)} (hk : Bs w.heap kv k) (hp : Ps w.heap v ps) (hkl : k.length ≤ 1073741824) (hl : ps.flatten.length ≤ 1073741824) (hn : ps.length < 9223372036854775807) :
    Calls Go.Proofs.Try.prog 55 #[kv, v] w fun e w' => ∃ u, e = .returned u ∧ New w.heap.size w'.heap u (macS k ps.flatten) ∧ Ex w w' := by
  obtain ⟨a, c, rfl, hc, ha⟩ := hp.parts
  refine enter mo (args := [kv, .slice a ps.length c]) Go.Proofs.Try.func55 c55 (by simp [x55]) ?_
  simp only [x55, env0]
  simp -dsimp (disch := first | omega | rfl | simp only [all_cons, all_nil, plain_w32, plain_w8, plain_w64, plain_ws, plain_int, plain_bool, plain_slice, plain_ptr, plain_map, plain_iface, Bool.and_self]) only [↓pre, ↓pre2, ↓pre3, ↓look_cons, ↓look_bnd, ↓look_bnd0, ↓opd_tmp, ↓opd_const, ↓ite_f, ↓ite_t, ↓reduceIte, post, post2, decide_true, decide_false, opds, Nat.reduceEqDiff, Nat.reduceAdd, Nat.zero_add, Nat.add_zero, Nat.mul_one, Int.toNat_natCast, Int.reduceToNat]
  refine call_rule k104 ?_
  rintro en w1 ⟨b, rfl, hb, hh, he⟩
  refine ⟨_, rfl, ?_⟩
  simp -dsimp (disch := first | omega | rfl | simp only [all_cons, all_nil, plain_w32, plain_w8, plain_w64, plain_ws, plain_int, plain_bool, plain_slice, plain_ptr, plain_map, plain_iface, Bool.and_self]) only [↓pre, ↓pre2, ↓pre3, ↓look_cons, ↓look_bnd, ↓look_bnd0, ↓opd_tmp, ↓opd_const, ↓ite_f, ↓ite_t, ↓reduceIte, post, post2, decide_true, decide_false, opds, Nat.reduceEqDiff, Nat.reduceAdd, Nat.zero_add, Nat.add_zero, Nat.mul_one, Int.toNat_natCast, Int.reduceToNat]
  refine call_rule (k106 54 (hk.ex he) (by omega)) ?_
  rintro en w2 ⟨u2, rfl, hn2, hx2⟩
  refine ⟨_, rfl, ?_⟩
  simp -dsimp (disch := first | omega | rfl | simp only [all_cons, all_nil, plain_w32, plain_w8, plain_w64, plain_ws, plain_int, plain_bool, plain_slice, plain_ptr, plain_map, plain_iface, Bool.and_self]) only [↓pre, ↓pre2, ↓pre3, ↓look_cons, ↓look_bnd, ↓look_bnd0, ↓opd_tmp, ↓opd_const, ↓ite_f, ↓ite_t, ↓reduceIte, post, post2, decide_true, decide_false, opds, Nat.reduceEqDiff, Nat.reduceAdd, Nat.zero_add, Nat.add_zero, Nat.mul_one, Int.toNat_natCast, Int.reduceToNat]
  have hE2 := he.trans hx2
  have hlt1 := hh.2.choose_spec.1.lt
  refine call_rule (k105 (hh.ex hx2) hn2.bs (fun h0 e => by have := hn2.from' _ e; omega) (by have := hE2.size; omega) (by rw [macPad_length]; simp)) ?_
  rintro en w3 ⟨rfl, hh3, hf3⟩
  refine ⟨_, rfl, ?_⟩
  have hE3 : Ex w w3 := Fr.young hE2 hf3 (fun k hk => hk)
  simp -dsimp (disch := first | omega | rfl | simp only [all_cons, all_nil, plain_w32, plain_w8, plain_w64, plain_ws, plain_int, plain_bool, plain_slice, plain_ptr, plain_map, plain_iface, Bool.and_self]) only [↓pre, ↓pre2, ↓pre3, ↓look_cons, ↓look_bnd, ↓look_bnd0, ↓opd_tmp, ↓opd_const, ↓ite_f, ↓ite_t, ↓reduceIte, post, post2, decide_true, decide_false, opds, Nat.reduceEqDiff, Nat.reduceAdd, Nat.zero_add, Nat.add_zero, Nat.mul_one, Int.toNat_natCast, Int.reduceToNat]
  refine loop_rule (fun k : Nat => [(15, vi k), (14, vi ps.length), (13, .slice a ps.length c), (5, .pointer (some ⟨b, 0, none⟩)), (0, kv)])
    (fun j v => j ≤ ps.length ∧ Hs w.heap.size v.heap b (macPad k 54 ++ (ps.take j).flatten) ∧ Ex w v) (fun k => ps.length - k) 0 (by simp [sub, look, bnd, add_addr, bnd]) ⟨by omega, by simpa using hh3, hE3⟩ ?_
  rintro j v ⟨hj, h1, h2⟩
  simp -dsimp (disch := first | omega | rfl | simp only [all_cons, all_nil, plain_w32, plain_w8, plain_w64, plain_ws, plain_int, plain_bool, plain_slice, plain_ptr, plain_map, plain_iface, Bool.and_self]) only [↓pre, ↓pre2, ↓pre3, ↓look_cons, ↓look_bnd, ↓look_bnd0, ↓opd_tmp, ↓opd_const, ↓ite_f, ↓ite_t, ↓reduceIte, post, post2, decide_true, decide_false, opds, Nat.reduceEqDiff, Nat.reduceAdd, Nat.zero_add, Nat.add_zero, Nat.mul_one, Int.toNat_natCast, Int.reduceToNat]
  refine cond_dec (fun hlt => ?_) (fun hge => ?_)
  · have hk' : j < ps.length := by omega
    obtain ⟨b0, o0, rfl⟩ := ha j hk'
    obtain ⟨u, hu, hbu0⟩ := hp.at2 h2 hk'
    have hbu := hbu0.ex h2
    simp -dsimp (disch := first | omega | rfl | simp only [all_cons, all_nil, plain_w32, plain_w8, plain_w64, plain_ws, plain_int, plain_bool, plain_slice, plain_ptr, plain_map, plain_iface, Bool.and_self]) only [↓pre, ↓pre2, ↓pre3, ↓look_cons, ↓look_bnd, ↓look_bnd0, ↓opd_tmp, ↓opd_const, ↓ite_f, ↓ite_t, ↓reduceIte, post, post2, decide_true, decide_false, opds, Nat.reduceEqDiff, Nat.reduceAdd, Nat.zero_add, Nat.add_zero, Nat.mul_one, Int.toNat_natCast, Int.reduceToNat, hu]
    have hbl : (ps.take j).flatten.length + (ps.getD j []).length ≤ ps.flatten.length := by
      have : ps.flatten = (ps.take j).flatten ++ (ps.drop j).flatten := by rw [← List.flatten_append, List.take_append_drop]
      rw [this, List.drop_eq_getElem_cons hk', List.flatten_cons, List.length_append, List.length_append]
      have e : ps.getD j [] = ps[j] := by simp [List.getD, hk']
      rw [e]
      omega
    refine call_rule (k105 h1 hbu (fun h0 e => by have := hbu0.lt h0 e; omega) (by have := h2.size; omega) (by rw [List.length_append, macPad_length]; omega)) ?_
    rintro en w3 ⟨rfl, h3, h4⟩
    refine ⟨_, rfl, ?_⟩
    simp -dsimp (disch := first | omega | rfl | simp only [all_cons, all_nil, plain_w32, plain_w8, plain_w64, plain_ws, plain_int, plain_bool, plain_slice, plain_ptr, plain_map, plain_iface, Bool.and_self]) only [↓pre, ↓pre2, ↓pre3, ↓look_cons, ↓look_bnd, ↓look_bnd0, ↓opd_tmp, ↓opd_const, ↓ite_f, ↓ite_t, ↓reduceIte, post, post2, decide_true, decide_false, opds, Nat.reduceEqDiff, Nat.reduceAdd, Nat.zero_add, Nat.add_zero, Nat.mul_one, Int.toNat_natCast, Int.reduceToNat]
    refine ⟨j + 1, by simp [sub, look, bnd, add_addr, bnd], ⟨by omega, ?_, Fr.young h2 h4 (fun k hk => hk)⟩, by omega⟩
    rw [List.take_succ_eq_append_getElem hk', List.flatten_append, ← List.append_assoc]
    simpa [List.getD, hk'] using h3
  · have hk8 : j = ps.length := by omega
    subst hk8
    rw [List.take_length] at h1
    simp -dsimp (disch := first | omega | rfl | simp only [all_cons, all_nil, plain_w32, plain_w8, plain_w64, plain_ws, plain_int, plain_bool, plain_slice, plain_ptr, plain_map, plain_iface, Bool.and_self]) only [↓pre, ↓pre2, ↓pre3, ↓look_cons, ↓look_bnd, ↓look_bnd0, ↓opd_tmp, ↓opd_const, ↓ite_f, ↓ite_t, ↓reduceIte, post, post2, decide_true, decide_false, opds, Nat.reduceEqDiff, Nat.reduceAdd, Nat.zero_add, Nat.add_zero, Nat.mul_one, Int.toNat_natCast, Int.reduceToNat]
    refine call_rule (k106 92 (hk.ex h2) (by omega)) ?_
    rintro en w4 ⟨u4, rfl, hn4, hx4⟩
    refine ⟨_, rfl, ?_⟩
    simp -dsimp (disch := first | omega | rfl | simp only [all_cons, all_nil, plain_w32, plain_w8, plain_w64, plain_ws, plain_int, plain_bool, plain_slice, plain_ptr, plain_map, plain_iface, Bool.and_self]) only [↓pre, ↓pre2, ↓pre3, ↓look_cons, ↓look_bnd, ↓look_bnd0, ↓opd_tmp, ↓opd_const, ↓ite_f, ↓ite_t, ↓reduceIte, post, post2, decide_true, decide_false, opds, Nat.reduceEqDiff, Nat.reduceAdd, Nat.zero_add, Nat.add_zero, Nat.mul_one, Int.toNat_natCast, Int.reduceToNat]
    refine call_rule (k107 (h1.ex hx4) (by rw [List.length_append, macPad_length]; omega)) ?_
    rintro en w5 ⟨u5, rfl, hn5, hx5⟩
    refine ⟨_, rfl, ?_⟩
    simp -dsimp (disch := first | omega | rfl | simp only [all_cons, all_nil, plain_w32, plain_w8, plain_w64, plain_ws, plain_int, plain_bool, plain_slice, plain_ptr, plain_map, plain_iface, Bool.and_self]) only [↓pre, ↓pre2, ↓pre3, ↓look_cons, ↓look_bnd, ↓look_bnd0, ↓opd_tmp, ↓opd_const, ↓ite_f, ↓ite_t, ↓reduceIte, post, post2, decide_true, decide_false, opds, Nat.reduceEqDiff, Nat.reduceAdd, Nat.zero_add, Nat.add_zero, Nat.mul_one, Int.toNat_natCast, Int.reduceToNat]
    refine lit_rule (xs := [.tmp 24, .tmp 26]) (vs := [u4, u5]) ell rfl rfl rfl (by obtain ⟨_, _, e4, _⟩ := hn4.bs.parts; obtain ⟨_, _, e5, _⟩ := hn5.bs.parts; rw [e4, e5]; rfl) (by omega) fun b6 w6 hb6 hc6 he6 hs6 => ?_
    simp -dsimp (disch := first | omega | rfl | simp only [all_cons, all_nil, plain_w32, plain_w8, plain_w64, plain_ws, plain_int, plain_bool, plain_slice, plain_ptr, plain_map, plain_iface, Bool.and_self]) only [↓pre, ↓pre2, ↓pre3, ↓look_cons, ↓look_bnd, ↓look_bnd0, ↓opd_tmp, ↓opd_const, ↓ite_f, ↓ite_t, ↓reduceIte, post, post2, decide_true, decide_false, opds, Nat.reduceEqDiff, Nat.reduceAdd, Nat.zero_add, Nat.add_zero, Nat.mul_one, Int.toNat_natCast, Int.reduceToNat]
    refine call_rule (k58 (ps := [macPad k 92, shaSum (macPad k 54 ++ ps.flatten)]) (Ps.lit hc6 (.cons ((hn4.bs.ex hx5).ex he6) (.cons (hn5.bs.ex he6) .nil)) rfl) (by simp [macPad_length, shaSum_length]) (by simp)) ?_
    rintro en w7 ⟨u7, rfl, hn7, hx7⟩
    refine ⟨_, rfl, ?_⟩
    simp -dsimp (disch := first | omega | rfl | simp only [all_cons, all_nil, plain_w32, plain_w8, plain_w64, plain_ws, plain_int, plain_bool, plain_slice, plain_ptr, plain_map, plain_iface, Bool.and_self]) only [↓pre, ↓pre2, ↓pre3, ↓look_cons, ↓look_bnd, ↓look_bnd0, ↓opd_tmp, ↓opd_const, ↓ite_f, ↓ite_t, ↓reduceIte, post, post2, decide_true, decide_false, opds, Nat.reduceEqDiff, Nat.reduceAdd, Nat.zero_add, Nat.add_zero, Nat.mul_one, Int.toNat_natCast, Int.reduceToNat]
    have hE6 : Ex w w6 := ((h2.trans hx4).trans hx5).trans he6
    exact ⟨_, rfl, by simpa [macS] using hn7.mono hE6.size, hE6.trans hx7⟩

theorem or_xor_zero (x a b : UInt8) : (x ||| (a ^^^ b)) = 0 ↔ x = 0 ∧ a = b := by
  constructor
  · intro h
    have h1 := congrArg UInt8.toBitVec h
    have : x.toBitVec = 0 ∧ a.toBitVec = b.toBitVec := by
      revert h1
      show (x.toBitVec ||| (a.toBitVec ^^^ b.toBitVec)) = 0#8 → _
      intro h1
      rw [BitVec.or_eq_zero_iff, BitVec.xor_eq_zero_iff] at h1
      exact h1
    exact ⟨UInt8.eq_of_toBitVec_eq this.1, UInt8.eq_of_toBitVec_eq this.2⟩
  · rintro ⟨rfl, rfl⟩; simp

theorem k93 {w : World} {va vb : Value} {a b : List UInt8} (ha : Bs w.heap va a) (hb : Bs w.heap vb b) (hl : a.length ≤ 1099511627776) :
    Calls Go.Proofs.Try.prog 93 #[va, vb] w fun e w' => e = .returned (.bool (decide (a = b))) ∧ Ex w w' := by
  obtain ⟨aa, ca, rfl, hca, hna⟩ := ha.parts
  obtain ⟨ab, cb, rfl, hcb, hnb⟩ := hb.parts
  refine enter mo (args := [.slice aa a.length ca, .slice ab b.length cb]) Go.Proofs.Try.func93 c93 (by simp [x93]) ?_
  simp only [x93, env0]
  simp -dsimp (disch := first | omega | rfl | simp only [all_cons, all_nil, plain_w32, plain_w8, plain_w64, plain_ws, plain_int, plain_bool, plain_slice, plain_ptr, plain_map, plain_iface, Bool.and_self]) only [↓pre, ↓pre2, ↓pre3, ↓look_cons, ↓look_bnd, ↓look_bnd0, ↓opd_tmp, ↓opd_const, ↓ite_f, ↓ite_t, ↓reduceIte, post, post2, decide_true, decide_false, opds, Nat.reduceEqDiff, Nat.reduceAdd, Nat.zero_add, Nat.add_zero, Nat.mul_one, Int.toNat_natCast, Int.reduceToNat]
  refine cond_ndec (fun hlt => ?_) (fun hge => ?_)
  · simp -dsimp (disch := first | omega | rfl | simp only [all_cons, all_nil, plain_w32, plain_w8, plain_w64, plain_ws, plain_int, plain_bool, plain_slice, plain_ptr, plain_map, plain_iface, Bool.and_self]) only [↓pre, ↓pre2, ↓pre3, ↓look_cons, ↓look_bnd, ↓look_bnd0, ↓opd_tmp, ↓opd_const, ↓ite_f, ↓ite_t, ↓reduceIte, post, post2, decide_true, decide_false, opds, Nat.reduceEqDiff, Nat.reduceAdd, Nat.zero_add, Nat.add_zero, Nat.mul_one, Int.toNat_natCast, Int.reduceToNat]
    have : a ≠ b := fun h => hlt (by rw [h])
    rw [decide_eq_false this]
    exact ⟨rfl, Fr.refl w⟩
  · have hlen : a.length = b.length := by omega
    simp -dsimp (disch := first | omega | rfl | simp only [all_cons, all_nil, plain_w32, plain_w8, plain_w64, plain_ws, plain_int, plain_bool, plain_slice, plain_ptr, plain_map, plain_iface, Bool.and_self]) only [↓pre, ↓pre2, ↓pre3, ↓look_cons, ↓look_bnd, ↓look_bnd0, ↓opd_tmp, ↓opd_const, ↓ite_f, ↓ite_t, ↓reduceIte, post, post2, decide_true, decide_false, opds, Nat.reduceEqDiff, Nat.reduceAdd, Nat.zero_add, Nat.add_zero, Nat.mul_one, Int.toNat_natCast, Int.reduceToNat]
    refine loop_rule (fun k : Nat × UInt8 => [(14, vi k.1), (13, vi a.length), (5, w8 k.2), (0, .slice aa a.length ca), (1, .slice ab b.length cb)])
      (fun k v => k.1 ≤ a.length ∧ (k.2 = 0 ↔ a.take k.1 = b.take k.1) ∧ Ex w v) (fun k => a.length - k.1) (0, 0) (by simp [sub, look, bnd, add_addr]) ⟨by simp, by simp, Fr.refl w⟩ ?_
    rintro ⟨k, x⟩ v ⟨hk, h1, h2⟩
    simp only at hk h1
    simp -dsimp (disch := first | omega | rfl | simp only [all_cons, all_nil, plain_w32, plain_w8, plain_w64, plain_ws, plain_int, plain_bool, plain_slice, plain_ptr, plain_map, plain_iface, Bool.and_self]) only [↓pre, ↓pre2, ↓pre3, ↓look_cons, ↓look_bnd, ↓look_bnd0, ↓opd_tmp, ↓opd_const, ↓ite_f, ↓ite_t, ↓reduceIte, post, post2, decide_true, decide_false, opds, Nat.reduceEqDiff, Nat.reduceAdd, Nat.zero_add, Nat.add_zero, Nat.mul_one, Int.toNat_natCast, Int.reduceToNat]
    refine cond_dec (fun hlt => ?_) (fun hge2 => ?_)
    · have hk1 : k < a.length := by omega
      obtain ⟨b1, o1, rfl⟩ := hna (by intro h; subst h; simp at hk1)
      obtain ⟨b2, o2, rfl⟩ := hnb (by intro h; rw [h] at hlen; simp at hlen; rw [hlen] at hk1; simp at hk1)
      simp -dsimp (disch := first | omega | rfl | simp only [all_cons, all_nil, plain_w32, plain_w8, plain_w64, plain_ws, plain_int, plain_bool, plain_slice, plain_ptr, plain_map, plain_iface, Bool.and_self]) only [↓pre, ↓pre2, ↓pre3, ↓look_cons, ↓look_bnd, ↓look_bnd0, ↓opd_tmp, ↓opd_const, ↓ite_f, ↓ite_t, ↓reduceIte, post, post2, decide_true, decide_false, opds, Nat.reduceEqDiff, Nat.reduceAdd, Nat.zero_add, Nat.add_zero, Nat.mul_one, Int.toNat_natCast, Int.reduceToNat]
      refine par_ex ?_
      have A : Bs v.drew.heap _ a := ha.ex h2.drew
      have Bb : Bs v.drew.heap _ b := hb.ex h2.drew
      simp -dsimp (disch := first | omega | rfl | simp only [all_cons, all_nil, plain_w32, plain_w8, plain_w64, plain_ws, plain_int, plain_bool, plain_slice, plain_ptr, plain_map, plain_iface, Bool.and_self]) only [↓pre, ↓pre2, ↓pre3, ↓look_cons, ↓look_bnd, ↓look_bnd0, ↓opd_tmp, ↓opd_const, ↓ite_f, ↓ite_t, ↓reduceIte, post, post2, decide_true, decide_false, opds, Nat.reduceEqDiff, Nat.reduceAdd, Nat.zero_add, Nat.add_zero, Nat.mul_one, Int.toNat_natCast, Int.reduceToNat, words, A.at, Bb.at]
      refine ⟨(k + 1, x ||| (a.getD k 0 ^^^ b.getD k 0)), by simp [sub, look, bnd, add_addr], ⟨by simp only; omega, ?_, h2.drew⟩, by simp only; omega⟩
      simp only
      rw [or_xor_zero, h1, List.take_succ_eq_append_getElem hk1, List.take_succ_eq_append_getElem (by omega)]
      simp only [List.getD, List.getElem?_eq_getElem hk1, List.getElem?_eq_getElem (show k < b.length by omega), Option.getD_some]
      constructor
      · rintro ⟨e1, e2⟩; rw [e1, e2]
      · intro e
        have := List.append_inj e (by simp; omega)
        exact ⟨this.1, by simpa using this.2⟩
    · have hk2 : k = a.length := by omega
      subst hk2
      rw [List.take_length, List.take_of_length_le (by omega)] at h1
      simp -dsimp (disch := first | omega | rfl | simp only [all_cons, all_nil, plain_w32, plain_w8, plain_w64, plain_ws, plain_int, plain_bool, plain_slice, plain_ptr, plain_map, plain_iface, Bool.and_self]) only [↓pre, ↓pre2, ↓pre3, ↓look_cons, ↓look_bnd, ↓look_bnd0, ↓opd_tmp, ↓opd_const, ↓ite_f, ↓ite_t, ↓reduceIte, post, post2, decide_true, decide_false, opds, Nat.reduceEqDiff, Nat.reduceAdd, Nat.zero_add, Nat.add_zero, Nat.mul_one, Int.toNat_natCast, Int.reduceToNat, words]
      refine ⟨?_, h2⟩
      congr 2
      exact decide_eq_decide.2 h1
attribute [irreducible] macS macPad
end Go.Lk
