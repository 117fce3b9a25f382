/- Poly1305: the tag. No statement of the seat is proved in this text. -/
import Derived.Test.YtofoamkiidkbkaaPoly4
set_option linter.unusedSimpArgs false
set_option linter.unusedVariables false
set_option linter.unusedSectionVars false
set_option linter.unnecessarySimpa false
set_option maxRecDepth 10000
set_option maxHeartbeats 4000000
namespace Go.Lk

theorem step2f {P : Program} {Q : Post} {M : Nat → Prop} {x : XI} {t more : PlanX} {e : Env} {w : World} (h1 : sxi P x (fun e' w' => runX P Q M t e' w') e w) (h2 : runX P Q M more e w) : runX P Q M (.step false x t more) e w := ⟨by
  refine cast ?_ h1
  congr 1
  funext e' w'
  exact KeepW_no.symm, h2⟩

theorem stopT {P : Program} {Q : Post} {M : Nat → Prop} {e : Env} {w : World} : runX P Q M .stop e w := trivial

attribute [local irreducible] RawR CallR StoreR StoresR LoopR Scope1R Scope2R ParR CondR KeepR LdR LdM LdaR LdaM SlR SlsR SlaR B2sR B2sM BoxR AllR BB runX runY ShR KshR Calls

theorem n64_and (a b : Nat) : binv .and (n64 a) (n64 b) = some (n64 (a &&& b)) := by
  rw [words.2.2.2.2.2.2.2.2.2.2.2.2.2.2.1]; simp only [n64, BitVec.ofNat_and]
theorem cvi_u8_n64 (x : Nat) : cviv .u8 (n64 x) = some (w8 (UInt8.ofNat x)) := by
  refine (words.2.2.2.2.2.2.2.2.2.2.2.2.2.2.2.2.2.2.2.2.2.2.2.2.2.2.2.2.2.2.2.2.2.2.2.2.2.2.2.2.2.1 (BitVec.ofNat 64 x)).trans ?_
  congr 2
  apply UInt8.toNat_inj.1
  rw [UInt8.toNat_ofNat']
  show ((BitVec.ofNat 64 x).setWidth 8).toNat = _
  rw [BitVec.toNat_setWidth, BitVec.toNat_ofNat]
  omega

def polyR (N : Nat) : Nat := (limb N 0 &&& 1152921487695413247) + 18446744073709551616 * (limb N 1 &&& 1152921487695413244)
theorem polyR_w3 {N : Nat} (h : N < 340282366920938463463374607431768211456) : [n64 (limb N 0 &&& 1152921487695413247), n64 (limb N 1 &&& 1152921487695413244), n64 (limb N 2)] = w3 (polyR N) ∧ polyR N < 21267647932558653966460912964485513216 := by
  have h0 : limb N 0 &&& 1152921487695413247 ≤ 1152921487695413247 := Nat.and_le_right
  have h1 : limb N 1 &&& 1152921487695413244 ≤ 1152921487695413244 := Nat.and_le_right
  unfold polyR
  have h2 : limb N 2 = 0 := by
    have : N / 340282366920938463463374607431768211456 = 0 := Nat.div_eq_of_lt h
    simp only [limb, this, Nat.zero_mod]
  rw [h2]
  generalize limb N 0 &&& 1152921487695413247 = x at *
  generalize limb N 1 &&& 1152921487695413244 = y at *
  refine ⟨?_, by omega⟩
  simp only [w3]
  rw [show limb (x + 18446744073709551616 * y) 0 = x by simp only [limb]; omega, show limb (x + 18446744073709551616 * y) 1 = y by simp only [limb]; omega, show limb (x + 18446744073709551616 * y) 2 = 0 by simp only [limb]; omega]

def polyP : Nat := 1361129467683753853853498429727072845819
/-- all blocks taken in -/
def polyAcc (r h : Nat) (l : List UInt8) : Nat :=
  if _h : l = [] then h else polyAcc r ((h + leN (l.take 16 ++ [1])) * r % polyP) (l.drop 16)
  termination_by l.length
  decreasing_by have := List.length_pos_iff.2 _h; simp; omega
def polyTag (key text : List UInt8) : List UInt8 :=
  (List.range 16).map fun i => UInt8.ofNat ((polyAcc (polyR (leN (key.take 16))) 0 text + leN (key.drop 16)) / 256 ^ i)
theorem polyTag_length (k t : List UInt8) : (polyTag k t).length = 16 := by simp [polyTag]

theorem polyFold_mod (n : Nat) : polyFold n % polyP = n % polyP := by
  unfold polyFold polyP
  have hd := Nat.div_add_mod n 1361129467683753853853498429727072845824
  generalize n % 1361129467683753853853498429727072845824 = r at *
  generalize n / 1361129467683753853853498429727072845824 = q at *
  rw [show n = (r + 5 * q) + q * 1361129467683753853853498429727072845819 by omega, Nat.add_mul_mod_self_right]
theorem polyFold_lt {x r : Nat} (hx : x < 2722258935367507707706996859454145691648) (hr : r < 21267647932558653966460912964485513216) : polyFold (x * r) < 2722258935367507707706996859454145691648 := by
  have h1 : x * r ≤ 2722258935367507707706996859454145691647 * r := Nat.mul_le_mul_right _ (by omega)
  have h2 : 2722258935367507707706996859454145691647 * r ≤ 2722258935367507707706996859454145691647 * 21267647932558653966460912964485513215 := Nat.mul_le_mul_left _ (by omega)
  generalize x * r = n at *
  have h3 : n / 1361129467683753853853498429727072845824 < 42535295865117307932921825928971026432 := by omega
  unfold polyFold
  have := Nat.mod_lt n (show 1361129467683753853853498429727072845824 > 0 by omega)
  omega
theorem leN_block (l : List UInt8) (h : l.length ≤ 16) : leN (l ++ [1]) < 680564733841876926926749214863536422912 := by
  rw [leN_app]
  have h1 := leN_lt l
  have h2 : 256 ^ l.length ≤ 256 ^ 16 := Nat.pow_le_pow_right (by omega) h
  have e : 256 ^ 16 = 340282366920938463463374607431768211456 := by decide
  have e2 : leN [1] = 1 := rfl
  rw [e2]
  omega
theorem polyByte (A i : Nat) (hi : i < 16) : UInt8.ofNat (limb A (i / 8) / 2 ^ (8 * (i % 8))) = UInt8.ofNat (A / 256 ^ i) := by
  apply UInt8.toNat_inj.1
  rw [UInt8.toNat_ofNat', UInt8.toNat_ofNat']
  have : i = 0 ∨ i = 1 ∨ i = 2 ∨ i = 3 ∨ i = 4 ∨ i = 5 ∨ i = 6 ∨ i = 7 ∨ i = 8 ∨ i = 9 ∨ i = 10 ∨ i = 11 ∨ i = 12 ∨ i = 13 ∨ i = 14 ∨ i = 15 := by omega
  rcases this with rfl | rfl | rfl | rfl | rfl | rfl | rfl | rfl | rfl | rfl | rfl | rfl | rfl | rfl | rfl | rfl <;>
    (simp only [limb, Nat.reduceDiv, Nat.reduceMod, Nat.reduceMul, Nat.reducePow]; omega)

theorem k125 {w : World} {kv tv : Value} {key text : List UInt8} (hk : Bs w.heap kv key) (ht : Bs w.heap tv text) (hkl : key.length = 32) (htl : text.length ≤ 1099511627776) :
    Calls Go.Proofs.Try.prog 125 #[kv, tv] w fun e w' => ∃ u, e = .returned (.tuple #[u, vi 0]) ∧ New w.heap.size w'.heap u (polyTag key text) ∧ Ex w w' := by
  obtain ⟨ak, ck, rfl, hck, hnk⟩ := hk.parts
  obtain ⟨at', ct, rfl, hct, hnt⟩ := ht.parts
  obtain ⟨bk, ok, rfl⟩ := hnk (by intro h; subst h; simp at hkl)
  rw [hkl] at hk hck ⊢
  refine enter mo (args := [.slice (some ⟨bk, ok, none⟩) 32 ck, .slice at' text.length ct]) Go.Proofs.Try.func125 c125 (by simp [x125]) ?_
  simp only [x125, env0]
  simp -dsimp (disch := first | omega | rfl | simp only [all_cons, all_nil, plain_w32, plain_w8, plain_w64, plain_ws, plain_int, plain_bool, plain_slice, plain_ptr, plain_map, plain_iface, Bool.and_self]) only [↓pre, ↓pre2, ↓pre3, ↓look_cons, ↓look_bnd, ↓look_bnd0, ↓opd_tmp, ↓opd_const, ↓ite_f, ↓ite_t, ↓reduceIte, post, post2, decide_true, decide_false, opds, Nat.reduceEqDiff, Nat.reduceAdd, Nat.zero_add, Nat.add_zero, Nat.mul_one, Int.toNat_natCast, Int.reduceToNat, dec_t, dec_f]
  have hN1 : leN (key.take 16) < 340282366920938463463374607431768211456 := by have := leN_lt (key.take 16); simpa [hkl] using this
  refine par_share (fun k => w.heap.size ≤ k) (fun e w' => look e 1 = some (.slice at' text.length ct) ∧ ∃ b6 b7, look e 6 = some (.pointer (some ⟨b6, 0, none⟩)) ∧ look e 7 = some (.pointer (some ⟨b7, 0, none⟩)) ∧ b6 ≠ b7 ∧ w.heap.size ≤ b6 ∧ w.heap.size ≤ b7 ∧
    Cw w'.heap b6 (w3 (leN (key.take 16))) ∧ Cw w'.heap b7 (w3 (leN (key.drop 16))) ∧ Ex w w') ?_ ?_
  · rintro e v ⟨l1, b6, b7, l6, l7, hne, hb6, hb7, C6, C7, hE⟩
    obtain ⟨hR, hRlt⟩ := polyR_w3 hN1
    unfold polyTag
    generalize hNg : leN (key.take 16) = N at *
    generalize polyR N = R at *
    generalize leN (key.drop 16) = S at *
    have h0 := limb_lt N 0
    have h1 := limb_lt N 1
    have c0 : v.cell? ⟨b6, 0, none⟩ = some (n64 (limb N 0)) := C6.cell 0
    simp -dsimp (disch := first | omega | rfl | simp only [all_cons, all_nil, plain_w32, plain_w8, plain_w64, plain_ws, plain_int, plain_bool, plain_slice, plain_ptr, plain_map, plain_iface, Bool.and_self]) only [↓pre, ↓pre2, ↓pre3, ↓look_cons, ↓look_bnd, ↓look_bnd0, ↓opd_tmp, ↓opd_const, ↓ite_f, ↓ite_t, ↓reduceIte, post, post2, decide_true, decide_false, opds, Nat.reduceEqDiff, Nat.reduceAdd, Nat.zero_add, Nat.add_zero, Nat.mul_one, Int.toNat_natCast, Int.reduceToNat, l1, l6, l7, n64_and, c0]
    refine store_rule C6 (by simp [w3]) (plain_w64 _) fun v1 C6a hf1 hs1 => ?_
    have hE1 := Ex.young hE hf1 hb6
    have C7a : Cw v1.heap b7 (w3 S) := Cw.fr (M := (· = b6)) C7 hf1 (fun h => hne h.symm)
    have c1 : v1.cell? ⟨b6, 1, none⟩ = some (n64 (limb N 1)) := C6a.cell 1
    simp -dsimp (disch := first | omega | rfl | simp only [all_cons, all_nil, plain_w32, plain_w8, plain_w64, plain_ws, plain_int, plain_bool, plain_slice, plain_ptr, plain_map, plain_iface, Bool.and_self]) only [↓pre, ↓pre2, ↓pre3, ↓look_cons, ↓look_bnd, ↓look_bnd0, ↓opd_tmp, ↓opd_const, ↓ite_f, ↓ite_t, ↓reduceIte, post, post2, decide_true, decide_false, opds, Nat.reduceEqDiff, Nat.reduceAdd, Nat.zero_add, Nat.add_zero, Nat.mul_one, Int.toNat_natCast, Int.reduceToNat, l1, l6, l7, n64_and, c1]
    refine store_rule C6a (by simp [w3]) (plain_w64 _) fun v2 C6b hf2 hs2 => ?_
    have hE2 := Ex.young hE1 hf2 hb6
    have C7b : Cw v2.heap b7 (w3 S) := Cw.fr (M := (· = b6)) C7a hf2 (fun h => hne h.symm)
    have C6c : Cw v2.heap b6 (w3 R) := by rw [← hR]; exact C6b
    simp -dsimp (disch := first | omega | rfl | simp only [all_cons, all_nil, plain_w32, plain_w8, plain_w64, plain_ws, plain_int, plain_bool, plain_slice, plain_ptr, plain_map, plain_iface, Bool.and_self]) only [↓pre, ↓pre2, ↓pre3, ↓look_cons, ↓look_bnd, ↓look_bnd0, ↓opd_tmp, ↓opd_const, ↓ite_f, ↓ite_t, ↓reduceIte, post, post2, decide_true, decide_false, opds, Nat.reduceEqDiff, Nat.reduceAdd, Nat.zero_add, Nat.add_zero, Nat.mul_one, Int.toNat_natCast, Int.reduceToNat, l1, l6, l7]
    refine alloc_rule (z := w3 0) (by kernel_rfl) fun b8 v3 hb8 hc8 he3 hs3 => ?_
    have hE3 := hE2.trans he3
    have hb8w : w.heap.size ≤ b8 := by have := hE2.size; omega
    have l68 := C6c.lt
    have l78 := C7b.lt
    simp -dsimp (disch := first | omega | rfl | simp only [all_cons, all_nil, plain_w32, plain_w8, plain_w64, plain_ws, plain_int, plain_bool, plain_slice, plain_ptr, plain_map, plain_iface, Bool.and_self]) only [↓pre, ↓pre2, ↓pre3, ↓look_cons, ↓look_bnd, ↓look_bnd0, ↓opd_tmp, ↓opd_const, ↓ite_f, ↓ite_t, ↓reduceIte, post, post2, decide_true, decide_false, opds, Nat.reduceEqDiff, Nat.reduceAdd, Nat.zero_add, Nat.add_zero, Nat.mul_one, Int.toNat_natCast, Int.reduceToNat, l1, l6, l7]
    refine loop_rule (fun k : List UInt8 × Value × Nat => [(1, k.2.1), (6, .pointer (some ⟨b6, 0, none⟩)), (7, .pointer (some ⟨b7, 0, none⟩)), (8, .pointer (some ⟨b8, 0, none⟩))])
      (fun k v => k.2.2 < 2722258935367507707706996859454145691648 ∧ k.1.length ≤ 1099511627776 ∧ Keep (polyAcc R (k.2.2 % polyP) k.1 = polyAcc R 0 text) ∧ Bs w.heap k.2.1 k.1 ∧ Cw v.heap b6 (w3 R) ∧ Cw v.heap b7 (w3 S) ∧ Cw v.heap b8 (w3 k.2.2) ∧ Ex w v)
      (fun k => k.1.length) (text, .slice at' text.length ct, 0) (by simp [sub, look, bnd, add_addr, l1, l6, l7]) ⟨by simp, htl, by simp [Keep], ht, C6c.ex he3, C7b.ex he3, hc8, hE3⟩ ?_
    rintro ⟨t, tv, a⟩ v ⟨ha, htl', hacc, hbt, D6, D7, D8, hE⟩
    simp only at ha htl' hacc hbt D8
    obtain ⟨a2, c2, rfl, hc2, hn2⟩ := hbt.parts
    simp -dsimp (disch := first | omega | rfl | simp only [all_cons, all_nil, plain_w32, plain_w8, plain_w64, plain_ws, plain_int, plain_bool, plain_slice, plain_ptr, plain_map, plain_iface, Bool.and_self]) only [↓pre, ↓pre2, ↓pre3, ↓look_cons, ↓look_bnd, ↓look_bnd0, ↓opd_tmp, ↓opd_const, ↓ite_f, ↓ite_t, ↓reduceIte, post, post2, decide_true, decide_false, opds, Nat.reduceEqDiff, Nat.reduceAdd, Nat.zero_add, Nat.add_zero, Nat.mul_one, Int.toNat_natCast, Int.reduceToNat]
    refine cond_dec (fun hlt => ?_) (fun hge => ?_)
    · have htpos : 0 < t.length := by omega
      obtain ⟨bt, ot, rfl⟩ := hn2 (by intro h; subst h; simp at htpos)
      simp -dsimp (disch := first | omega | rfl | simp only [all_cons, all_nil, plain_w32, plain_w8, plain_w64, plain_ws, plain_int, plain_bool, plain_slice, plain_ptr, plain_map, plain_iface, Bool.and_self]) only [↓pre, ↓pre2, ↓pre3, ↓look_cons, ↓look_bnd, ↓look_bnd0, ↓opd_tmp, ↓opd_const, ↓ite_f, ↓ite_t, ↓reduceIte, post, post2, decide_true, decide_false, opds, Nat.reduceEqDiff, Nat.reduceAdd, Nat.zero_add, Nat.add_zero, Nat.mul_one, Int.toNat_natCast, Int.reduceToNat]
      refine min_rule rfl rfl ?_
      obtain ⟨m, hm, hm16, hmt, hmin⟩ : ∃ m : Nat, (if (t.length : Int) < 16 then (t.length : Int) else 16) = (m : Int) ∧ m ≤ 16 ∧ m ≤ t.length ∧ m = min 16 t.length := by
        by_cases h : (t.length : Int) < 16
        · exact ⟨t.length, by rw [if_pos h], by omega, by omega, by omega⟩
        · exact ⟨16, by rw [if_neg h]; rfl, by omega, by omega, by omega⟩
      rw [hm]
      simp -dsimp (disch := first | omega | rfl | simp only [all_cons, all_nil, plain_w32, plain_w8, plain_w64, plain_ws, plain_int, plain_bool, plain_slice, plain_ptr, plain_map, plain_iface, Bool.and_self]) only [↓pre, ↓pre2, ↓pre3, ↓look_cons, ↓look_bnd, ↓look_bnd0, ↓opd_tmp, ↓opd_const, ↓ite_f, ↓ite_t, ↓reduceIte, post, post2, decide_true, decide_false, opds, Nat.reduceEqDiff, Nat.reduceAdd, Nat.zero_add, Nat.add_zero, Nat.mul_one, Int.toNat_natCast, Int.reduceToNat]
      have hcut := hbt.cut (lo := 0) (hi := m) (m := c2) (by omega) (by omega) (by omega)
      rw [List.drop_zero] at hcut
      have hbl := leN_block (t.take m) (by simp; omega)
      have haP := Nat.mod_lt a (show 1361129467683753853853498429727072845819 > 0 by omega)
      have hX : a % 1361129467683753853853498429727072845819 + leN (t.take m ++ [1]) < 2722258935367507707706996859454145691648 := by omega
      obtain ⟨X, hXe⟩ : ∃ X, X = a % 1361129467683753853853498429727072845819 + leN (t.take m ++ [1]) := ⟨_, rfl⟩
      rw [← hXe] at hX
      refine par_share (fun k => v.heap.size ≤ k) (fun e w' => look e 1 = some (.slice (some ⟨bt, ot, none⟩) t.length c2) ∧ look e 9 = some (vi m) ∧ look e 6 = some (.pointer (some ⟨b6, 0, none⟩)) ∧ look e 7 = some (.pointer (some ⟨b7, 0, none⟩)) ∧ look e 8 = some (.pointer (some ⟨b8, 0, none⟩)) ∧
        Cw w'.heap b6 (w3 R) ∧ Cw w'.heap b7 (w3 S) ∧ Cw w'.heap b8 (w3 (polyFold (X * R))) ∧ Ex w w') ?_ ?_
      · rintro e2 v2 ⟨l1, l9, l6, l7, l8, F6, F7, F8, hE2⟩
        simp -dsimp (disch := first | omega | rfl | simp only [all_cons, all_nil, plain_w32, plain_w8, plain_w64, plain_ws, plain_int, plain_bool, plain_slice, plain_ptr, plain_map, plain_iface, Bool.and_self]) only [↓pre, ↓pre2, ↓pre3, ↓look_cons, ↓look_bnd, ↓look_bnd0, ↓opd_tmp, ↓opd_const, ↓ite_f, ↓ite_t, ↓reduceIte, post, post2, decide_true, decide_false, opds, Nat.reduceEqDiff, Nat.reduceAdd, Nat.zero_add, Nat.add_zero, Nat.mul_one, Int.toNat_natCast, Int.reduceToNat, l1, l9]
        refine sl_rule (m := c2) (h := t.length) (l := m) rfl rfl (by rw [bnd_ok (i := (m : Int)) (by simp [opd, look, l9]) (by omega) (by omega)]; rfl) ?_
        simp -dsimp (disch := first | omega | rfl | simp only [all_cons, all_nil, plain_w32, plain_w8, plain_w64, plain_ws, plain_int, plain_bool, plain_slice, plain_ptr, plain_map, plain_iface, Bool.and_self]) only [↓pre, ↓pre2, ↓pre3, ↓look_cons, ↓look_bnd, ↓look_bnd0, ↓opd_tmp, ↓opd_const, ↓ite_f, ↓ite_t, ↓reduceIte, post, post2, decide_true, decide_false, opds, Nat.reduceEqDiff, Nat.reduceAdd, Nat.zero_add, Nat.add_zero, Nat.mul_one, Int.toNat_natCast, Int.reduceToNat]
        have hd := hbt.cut (lo := m) (hi := t.length) (m := c2) (by omega) (by omega) (by omega)
        rw [List.take_length] at hd
        refine ⟨(t.drop m, _, polyFold (X * R)), by simp [sub, look, bnd, add_addr, cutv, l1, l9, l6, l7, l8]; first | rfl | done, ⟨polyFold_lt hX hRlt, by simp; omega, ?_, hd, F6, F7, F8, hE2⟩, by simp; omega⟩
        simp only
        have ht0 : t ≠ [] := List.length_pos_iff.1 htpos
        rw [polyAcc, dif_neg ht0] at hacc
        have e16 : t.take 16 = t.take m := by
          by_cases h : t.length < 16
          · rw [List.take_of_length_le (by omega), List.take_of_length_le (by omega)]
          · rw [show m = 16 by omega]
        have d16 : t.drop 16 = t.drop m := by
          by_cases h : t.length < 16
          · rw [List.drop_eq_nil_of_le (by omega), List.drop_eq_nil_of_le (by omega)]
          · rw [show m = 16 by omega]
        rw [e16, d16, show (a % polyP + leN (t.take m ++ [1])) = X from hXe.symm, ← polyFold_mod] at hacc
        exact hacc
      · intro N2 hN2
        simp -dsimp (disch := first | omega | rfl | simp only [all_cons, all_nil, plain_w32, plain_w8, plain_w64, plain_ws, plain_int, plain_bool, plain_slice, plain_ptr, plain_map, plain_iface, Bool.and_self]) only [↓pre, ↓pre2, ↓pre3, ↓look_cons, ↓look_bnd, ↓look_bnd0, ↓opd_tmp, ↓opd_const, ↓ite_f, ↓ite_t, ↓reduceIte, post, post2, decide_true, decide_false, opds, Nat.reduceEqDiff, Nat.reduceAdd, Nat.zero_add, Nat.add_zero, Nat.mul_one, Int.toNat_natCast, Int.reduceToNat]
        refine ldam_rule (by have := D8.lt; omega) (lda_cw (w := v.drew) D8 rfl ?_)
        simp -dsimp (disch := first | omega | rfl | simp only [all_cons, all_nil, plain_w32, plain_w8, plain_w64, plain_ws, plain_int, plain_bool, plain_slice, plain_ptr, plain_map, plain_iface, Bool.and_self]) only [↓pre, ↓pre2, ↓pre3, ↓look_cons, ↓look_bnd, ↓look_bnd0, ↓opd_tmp, ↓opd_const, ↓ite_f, ↓ite_t, ↓reduceIte, post, post2, decide_true, decide_false, opds, Nat.reduceEqDiff, Nat.reduceAdd, Nat.zero_add, Nat.add_zero, Nat.mul_one, Int.toNat_natCast, Int.reduceToNat]
        refine sl_rule (m := c2) (h := m) (l := 0) rfl (bnd_ok (i := (m : Int)) rfl (by omega) (by omega)) rfl ?_
        simp -dsimp (disch := first | omega | rfl | simp only [all_cons, all_nil, plain_w32, plain_w8, plain_w64, plain_ws, plain_int, plain_bool, plain_slice, plain_ptr, plain_map, plain_iface, Bool.and_self]) only [↓pre, ↓pre2, ↓pre3, ↓look_cons, ↓look_bnd, ↓look_bnd0, ↓opd_tmp, ↓opd_const, ↓ite_f, ↓ite_t, ↓reduceIte, post, post2, decide_true, decide_false, opds, Nat.reduceEqDiff, Nat.reduceAdd, Nat.zero_add, Nat.add_zero, Nat.mul_one, Int.toNat_natCast, Int.reduceToNat]
        refine ldam_rule (by have := D6.lt; omega) (lda_cw (w := v.drew) D6 rfl ?_)
        have hV : Ex v v.drew := (Fr.refl v).drew
        have hXe' := hXe.symm
        clear hXe hmin haP hbl
        repeat' first
          | exact stopT
          | refine keep_yes hkp ?_
          | refine step2 ?_ ?_
          | refine step2f ?_ ?_
          | (refine lit_rule (d := 37) (xs := []) (vs := []) el8 rfl rfl rfl rfl (by omega) fun b37 w37 hb37 c37 hx hs37 => ?_
             have n37 : New v.heap.size w37.heap (.slice (some ⟨b37, 0, none⟩) 0 0) [] := Cw.new (l := []) c37 (by have := hV.size; omega) rfl
             try have h3742 : b37 ≠ b42 := by have := c42.lt; omega
             try replace c42 := c42.ex hx
             have hkp : Fr (fun k => v.heap.size ≤ k) _ w37 := hx.to
             replace hV := hV.trans hx)
          | (refine lit_rule (d := 42) (xs := [.const (w8 1)]) (vs := [w8 1]) el8 rfl rfl rfl rfl (by omega) fun b42 w42 hb42 c42 hx hs42 => ?_
             try have h3742 : b37 ≠ b42 := by have := c37.lt; omega
             try replace c37 := c37.ex hx
             try replace n37 := n37.ex hx
             try replace n41 := n41.ex hx
             have hkp : Fr (fun k => v.heap.size ≤ k) _ w42 := hx.to
             replace hV := hV.trans hx)
          | (refine app_bytes (d := 41) el8 rfl rfl n37 (by have := hV.size; omega) (hcut.ex (hE.trans hV)) rfl (by simp; omega) fun s41 w41 n41 hf ho41 => ?_
             try replace c42 := c42.fr hf (fun h => h3742 (by simpa [Value.ownBlock] using h.1))
             have hkp : Fr (fun k => v.heap.size ≤ k) _ w41 := hf.mono (fun k _ h => h.2)
             replace hV := Fr.young hV hf (fun k hk => hk.2))
          | (refine app_bytes (d := 43) el8 rfl rfl n41 (by have := hV.size; omega) (Cw.bs (l := [1]) c42 (by simp)) rfl (by simp; omega) fun s43 w43 n43 hf ho43 => ?_
             have hkp : Fr (fun k => v.heap.size ≤ k) _ w43 := hf.mono (fun k _ h => h.2)
             replace hV := Fr.young hV hf (fun k hk => hk.2))
          | (refine call_rule (k141 a (by omega)) ?_
             rintro en v9 ⟨rfl, hx⟩
             refine ⟨_, rfl, ?_⟩
             try replace c37 := c37.ex hx
             try replace n37 := n37.ex hx
             try replace n41 := n41.ex hx
             try replace n43 := n43.ex hx
             try replace c42 := c42.ex hx
             have hkp : Fr (fun k => v.heap.size ≤ k) _ v9 := hx.to
             replace hV := hV.trans hx)
          | (refine call_rule (k140 n43.bs (by simp; omega)) ?_
             rintro en v9 ⟨rfl, hx⟩
             refine ⟨_, rfl, ?_⟩
             have hkp : Fr (fun k => v.heap.size ≤ k) _ v9 := hx.to
             replace hV := hV.trans hx)
          | (refine call_rule (k142 _ _) ?_
             rintro en v9 ⟨rfl, hx⟩
             refine ⟨_, rfl, ?_⟩
             rw [List.nil_append, hXe']
             have hkp : Fr (fun k => v.heap.size ≤ k) _ v9 := hx.to
             replace hV := hV.trans hx)
          | (refine call_rule (k143 X R hX hRlt) ?_
             rintro en v9 ⟨rfl, hx⟩
             refine ⟨_, rfl, ?_⟩
             replace hV := hV.trans hx)
          | (refine stores_all (cs := w3 (polyFold (X * R))) (D8.ex hV) (by simp [Value.cells]) rfl rfl rfl fun v9 F8 hf hs => ?_
             have F6 := Cw.fr (M := (· = b8)) (D6.ex hV) hf (by omega)
             have F7 := Cw.fr (M := (· = b8)) (D7.ex hV) hf (by omega)
             have hE9 := Ex.young (hE.trans hV) hf hb8w)
          | exact hN2 _ _ ⟨by simp [look, bnd], by simp [look, bnd], by simp [look, bnd], by simp [look, bnd], by simp [look, bnd], F6, F7, F8, hE9⟩
          | simp -dsimp (disch := first | omega | rfl | simp only [all_cons, all_nil, plain_w32, plain_w8, plain_w64, plain_ws, plain_int, plain_bool, plain_slice, plain_ptr, plain_map, plain_iface, Bool.and_self]) only [↓pre, ↓pre2, ↓pre3, ↓look_cons, ↓look_bnd, ↓look_bnd0, ↓opd_tmp, ↓opd_const, ↓ite_f, ↓ite_t, ↓reduceIte, post, post2, decide_true, decide_false, opds, Nat.reduceEqDiff, Nat.reduceAdd, Nat.zero_add, Nat.add_zero, Nat.mul_one, Int.toNat_natCast, Int.reduceToNat]
    · have ht0 : t = [] := List.length_eq_zero_iff.1 (by omega)
      subst ht0
      rw [polyAcc, dif_pos rfl] at hacc
      rw [show polyAcc R 0 text = a % polyP from hacc.symm]
      simp -dsimp (disch := first | omega | rfl | simp only [all_cons, all_nil, plain_w32, plain_w8, plain_w64, plain_ws, plain_int, plain_bool, plain_slice, plain_ptr, plain_map, plain_iface, Bool.and_self]) only [↓pre, ↓pre2, ↓pre3, ↓look_cons, ↓look_bnd, ↓look_bnd0, ↓opd_tmp, ↓opd_const, ↓ite_f, ↓ite_t, ↓reduceIte, post, post2, decide_true, decide_false, opds, Nat.reduceEqDiff, Nat.reduceAdd, Nat.zero_add, Nat.add_zero, Nat.mul_one, Int.toNat_natCast, Int.reduceToNat]
      refine par_ex ?_
      simp -dsimp (disch := first | omega | rfl | simp only [all_cons, all_nil, plain_w32, plain_w8, plain_w64, plain_ws, plain_int, plain_bool, plain_slice, plain_ptr, plain_map, plain_iface, Bool.and_self]) only [↓pre, ↓pre2, ↓pre3, ↓look_cons, ↓look_bnd, ↓look_bnd0, ↓opd_tmp, ↓opd_const, ↓ite_f, ↓ite_t, ↓reduceIte, post, post2, decide_true, decide_false, opds, Nat.reduceEqDiff, Nat.reduceAdd, Nat.zero_add, Nat.add_zero, Nat.mul_one, Int.toNat_natCast, Int.reduceToNat]
      refine lda_cw (w := v.drew) D8 rfl ?_
      simp -dsimp (disch := first | omega | rfl | simp only [all_cons, all_nil, plain_w32, plain_w8, plain_w64, plain_ws, plain_int, plain_bool, plain_slice, plain_ptr, plain_map, plain_iface, Bool.and_self]) only [↓pre, ↓pre2, ↓pre3, ↓look_cons, ↓look_bnd, ↓look_bnd0, ↓opd_tmp, ↓opd_const, ↓ite_f, ↓ite_t, ↓reduceIte, post, post2, decide_true, decide_false, opds, Nat.reduceEqDiff, Nat.reduceAdd, Nat.zero_add, Nat.add_zero, Nat.mul_one, Int.toNat_natCast, Int.reduceToNat]
      refine lda_cw (w := v.drew) D7 rfl ?_
      simp -dsimp (disch := first | omega | rfl | simp only [all_cons, all_nil, plain_w32, plain_w8, plain_w64, plain_ws, plain_int, plain_bool, plain_slice, plain_ptr, plain_map, plain_iface, Bool.and_self]) only [↓pre, ↓pre2, ↓pre3, ↓look_cons, ↓look_bnd, ↓look_bnd0, ↓opd_tmp, ↓opd_const, ↓ite_f, ↓ite_t, ↓reduceIte, post, post2, decide_true, decide_false, opds, Nat.reduceEqDiff, Nat.reduceAdd, Nat.zero_add, Nat.add_zero, Nat.mul_one, Int.toNat_natCast, Int.reduceToNat]
      refine call_rule (k141 a (by omega)) ?_
      rintro en v4 ⟨rfl, hx4⟩
      refine ⟨_, rfl, keep_yes hx4 ?_⟩
      simp -dsimp (disch := first | omega | rfl | simp only [all_cons, all_nil, plain_w32, plain_w8, plain_w64, plain_ws, plain_int, plain_bool, plain_slice, plain_ptr, plain_map, plain_iface, Bool.and_self]) only [↓pre, ↓pre2, ↓pre3, ↓look_cons, ↓look_bnd, ↓look_bnd0, ↓opd_tmp, ↓opd_const, ↓ite_f, ↓ite_t, ↓reduceIte, post, post2, decide_true, decide_false, opds, Nat.reduceEqDiff, Nat.reduceAdd, Nat.zero_add, Nat.add_zero, Nat.mul_one, Int.toNat_natCast, Int.reduceToNat]
      refine call_rule (k142 _ _) ?_
      rintro en v5 ⟨rfl, hx5⟩
      refine ⟨_, rfl, ?_⟩
      obtain ⟨A, hA⟩ : ∃ A, A = a % polyP + S := ⟨_, rfl⟩
      rw [show a % 1361129467683753853853498429727072845819 + S = A from hA.symm, ← hA]
      clear hA
      have hE5 : Ex v v5 := (((Fr.refl v).drew).trans hx4).trans hx5
      simp -dsimp (disch := first | omega | rfl | simp only [all_cons, all_nil, plain_w32, plain_w8, plain_w64, plain_ws, plain_int, plain_bool, plain_slice, plain_ptr, plain_map, plain_iface, Bool.and_self]) only [↓pre, ↓pre2, ↓pre3, ↓look_cons, ↓look_bnd, ↓look_bnd0, ↓opd_tmp, ↓opd_const, ↓ite_f, ↓ite_t, ↓reduceIte, post, post2, decide_true, decide_false, opds, Nat.reduceEqDiff, Nat.reduceAdd, Nat.zero_add, Nat.add_zero, Nat.mul_one, Int.toNat_natCast, Int.reduceToNat]
      refine stores_all (cs := w3 A) (D8.ex hE5) (by simp [Value.cells]) rfl rfl rfl fun v6 hc6 hf6 hs6 => ?_
      have hE6 : Ex w v6 := Ex.young (hE.trans hE5) hf6 hb8w
      simp -dsimp (disch := first | omega | rfl | simp only [all_cons, all_nil, plain_w32, plain_w8, plain_w64, plain_ws, plain_int, plain_bool, plain_slice, plain_ptr, plain_map, plain_iface, Bool.and_self]) only [↓pre, ↓pre2, ↓pre3, ↓look_cons, ↓look_bnd, ↓look_bnd0, ↓opd_tmp, ↓opd_const, ↓ite_f, ↓ite_t, ↓reduceIte, post, post2, decide_true, decide_false, opds, Nat.reduceEqDiff, Nat.reduceAdd, Nat.zero_add, Nat.add_zero, Nat.mul_one, Int.toNat_natCast, Int.reduceToNat]
      refine loop_rule (fun k : Nat × Value => [(55, vi k.1), (10, k.2), (8, .pointer (some ⟨b8, 0, none⟩))])
        (fun k v => k.1 ≤ 16 ∧ New v6.heap.size v.heap k.2 ((List.range k.1).map fun i => UInt8.ofNat (A / 256 ^ i)) ∧ Cw v.heap b8 (w3 A) ∧ v6.heap.size ≤ v.heap.size ∧ Ex w v) (fun k => 16 - k.1) (0, .slice none 0 0) (by simp [sub, look, bnd, add_addr, bnd]) ⟨by simp, by simpa using New.nil _ _, hc6, Nat.le_refl _, hE6⟩ ?_
      rintro ⟨k, s7⟩ v7 ⟨hk, hn7, hc7, hz7, hE7⟩
      simp only at hk hn7
      simp -dsimp (disch := first | omega | rfl | simp only [all_cons, all_nil, plain_w32, plain_w8, plain_w64, plain_ws, plain_int, plain_bool, plain_slice, plain_ptr, plain_map, plain_iface, Bool.and_self]) only [↓pre, ↓pre2, ↓pre3, ↓look_cons, ↓look_bnd, ↓look_bnd0, ↓opd_tmp, ↓opd_const, ↓ite_f, ↓ite_t, ↓reduceIte, post, post2, decide_true, decide_false, opds, Nat.reduceEqDiff, Nat.reduceAdd, Nat.zero_add, Nat.add_zero, Nat.mul_one, Int.toNat_natCast, Int.reduceToNat]
      refine cond_dec (fun hlt => ?_) (fun hge => ?_)
      · have hk16 : k < 16 := by omega
        have hg := w3_get A (k / 8) (by omega)
        have hlt' := limb_lt A (k / 8)
        have e1 : ((k : Int) / 8).toNat = k / 8 := by omega
        have e2 : (8 * ((k : Int) % 8)).toNat = 8 * (k % 8) := by omega
        have hb := polyByte A k hk16
        simp -dsimp (disch := first | omega | rfl | simp only [all_cons, all_nil, plain_w32, plain_w8, plain_w64, plain_ws, plain_int, plain_bool, plain_slice, plain_ptr, plain_map, plain_iface, Bool.and_self]) only [↓pre, ↓pre2, ↓pre3, ↓look_cons, ↓look_bnd, ↓look_bnd0, ↓opd_tmp, ↓opd_const, ↓ite_f, ↓ite_t, ↓reduceIte, post, post2, decide_true, decide_false, opds, Nat.reduceEqDiff, Nat.reduceAdd, Nat.zero_add, Nat.add_zero, Nat.mul_one, Int.toNat_natCast, Int.reduceToNat, nums, cvi_u8_n64, hc7.cell, e1, e2, hg, hb]
        refine lit_rule (xs := [.tmp 67]) (vs := [w8 (UInt8.ofNat (A / 256 ^ k))]) el8 rfl rfl rfl rfl (by omega) fun b9 v9 hb9 hc9 he9 hs9 => ?_
        simp -dsimp (disch := first | omega | rfl | simp only [all_cons, all_nil, plain_w32, plain_w8, plain_w64, plain_ws, plain_int, plain_bool, plain_slice, plain_ptr, plain_map, plain_iface, Bool.and_self]) only [↓pre, ↓pre2, ↓pre3, ↓look_cons, ↓look_bnd, ↓look_bnd0, ↓opd_tmp, ↓opd_const, ↓ite_f, ↓ite_t, ↓reduceIte, post, post2, decide_true, decide_false, opds, Nat.reduceEqDiff, Nat.reduceAdd, Nat.zero_add, Nat.add_zero, Nat.mul_one, Int.toNat_natCast, Int.reduceToNat]
        refine app_bytes el8 rfl rfl (hn7.ex he9) (by have := he9.size; omega) (Cw.bs (l := [UInt8.ofNat (A / 256 ^ k)]) hc9 (by simp)) rfl (by simp; omega) fun s10 v10 hn10 hf10 ho10 => ?_
        have hE10 : Ex w v10 := Fr.young (hE7.trans he9) hf10 (fun k hk => by have := hk.2; have := hE6.size; omega)
        have hc10 : Cw v10.heap b8 (w3 A) := Cw.fr (hc7.ex he9) hf10 (fun h => by have := h.2; have := hc6.lt; omega)
        simp -dsimp (disch := first | omega | rfl | simp only [all_cons, all_nil, plain_w32, plain_w8, plain_w64, plain_ws, plain_int, plain_bool, plain_slice, plain_ptr, plain_map, plain_iface, Bool.and_self]) only [↓pre, ↓pre2, ↓pre3, ↓look_cons, ↓look_bnd, ↓look_bnd0, ↓opd_tmp, ↓opd_const, ↓ite_f, ↓ite_t, ↓reduceIte, post, post2, decide_true, decide_false, opds, Nat.reduceEqDiff, Nat.reduceAdd, Nat.zero_add, Nat.add_zero, Nat.mul_one, Int.toNat_natCast, Int.reduceToNat]
        refine ⟨(k + 1, s10), by simp [sub, look, bnd, add_addr], ⟨by simp only; omega, ?_, hc10, by have := hf10.size; have := he9.size; omega, hE10⟩, by simp only; omega⟩
        simp only
        rw [List.range_succ, List.map_append]
        exact hn10
      · have hk16 : k = 16 := by omega
        subst hk16
        simp -dsimp (disch := first | omega | rfl | simp only [all_cons, all_nil, plain_w32, plain_w8, plain_w64, plain_ws, plain_int, plain_bool, plain_slice, plain_ptr, plain_map, plain_iface, Bool.and_self]) only [↓pre, ↓pre2, ↓pre3, ↓look_cons, ↓look_bnd, ↓look_bnd0, ↓opd_tmp, ↓opd_const, ↓ite_f, ↓ite_t, ↓reduceIte, post, post2, decide_true, decide_false, opds, Nat.reduceEqDiff, Nat.reduceAdd, Nat.zero_add, Nat.add_zero, Nat.mul_one, Int.toNat_natCast, Int.reduceToNat]
        exact ⟨_, rfl, hn7.mono hE6.size, hE7⟩
  · intro N hN
    simp -dsimp (disch := first | omega | rfl | simp only [all_cons, all_nil, plain_w32, plain_w8, plain_w64, plain_ws, plain_int, plain_bool, plain_slice, plain_ptr, plain_map, plain_iface, Bool.and_self]) only [↓pre, ↓pre2, ↓pre3, ↓look_cons, ↓look_bnd, ↓look_bnd0, ↓opd_tmp, ↓opd_const, ↓ite_f, ↓ite_t, ↓reduceIte, post, post2, decide_true, decide_false, opds, Nat.reduceEqDiff, Nat.reduceAdd, Nat.zero_add, Nat.add_zero, Nat.mul_one, Int.toNat_natCast, Int.reduceToNat]
    refine sl_rule (m := ck) (h := 16) (l := 0) rfl (bnd_ok (i := 16) rfl (by omega) (by omega)) rfl ?_
    simp -dsimp (disch := first | omega | rfl | simp only [all_cons, all_nil, plain_w32, plain_w8, plain_w64, plain_ws, plain_int, plain_bool, plain_slice, plain_ptr, plain_map, plain_iface, Bool.and_self]) only [↓pre, ↓pre2, ↓pre3, ↓look_cons, ↓look_bnd, ↓look_bnd0, ↓opd_tmp, ↓opd_const, ↓ite_f, ↓ite_t, ↓reduceIte, post, post2, decide_true, decide_false, opds, Nat.reduceEqDiff, Nat.reduceAdd, Nat.zero_add, Nat.add_zero, Nat.mul_one, Int.toNat_natCast, Int.reduceToNat]
    refine sl_rule (m := ck) (h := 32) (l := 16) rfl rfl rfl ?_
    simp -dsimp (disch := first | omega | rfl | simp only [all_cons, all_nil, plain_w32, plain_w8, plain_w64, plain_ws, plain_int, plain_bool, plain_slice, plain_ptr, plain_map, plain_iface, Bool.and_self]) only [↓pre, ↓pre2, ↓pre3, ↓look_cons, ↓look_bnd, ↓look_bnd0, ↓opd_tmp, ↓opd_const, ↓ite_f, ↓ite_t, ↓reduceIte, post, post2, decide_true, decide_false, opds, Nat.reduceEqDiff, Nat.reduceAdd, Nat.zero_add, Nat.add_zero, Nat.mul_one, Int.toNat_natCast, Int.reduceToNat]
    have hK1 := hk.cut (lo := 0) (hi := 16) (m := ck) (by omega) (by omega) (by omega)
    have hK2 := hk.cut (lo := 16) (hi := 32) (m := ck) (by omega) (by omega) (by omega)
    rw [List.drop_zero] at hK1
    rw [List.take_of_length_le (by omega)] at hK2
    have hE : Ex w w.drew := (Fr.refl w).drew
    repeat' first
      | exact stopT
      | refine step2f ?_ ?_
      | (refine alloc_rule (d := 6) (z := w3 0) (by kernel_rfl) fun b6 v6 hb6 c6 he6 hs6 => ?_
         have g6 : w.heap.size ≤ b6 := by have := hE.size; omega
         try have n67 : b6 ≠ b7 := by have := c7.lt; omega
         try replace c7 := c7.ex he6
         replace hE := hE.trans he6)
      | (refine alloc_rule (d := 7) (z := w3 0) (by kernel_rfl) fun b7 v7 hb7 c7 he7 hs7 => ?_
         have g7 : w.heap.size ≤ b7 := by have := hE.size; omega
         try have n67 : b6 ≠ b7 := by have := c6.lt; omega
         try replace c6 := c6.ex he7
         replace hE := hE.trans he7)
      | (refine call_rule (k140 (l := key.take 16) (hK1.ex hE) (by simp; omega)) ?_
         rintro en v ⟨rfl, hx⟩
         refine ⟨_, rfl, ?_⟩
         try replace c6 := c6.ex hx
         try replace c7 := c7.ex hx
         replace hE := hE.trans hx)
      | (refine call_rule (k140 (l := key.drop 16) (hK2.ex hE) (by simp; omega)) ?_
         rintro en v ⟨rfl, hx⟩
         refine ⟨_, rfl, ?_⟩
         try replace c6 := c6.ex hx
         try replace c7 := c7.ex hx
         replace hE := hE.trans hx)
      | (refine stores_all (cs := w3 (leN (key.take 16))) c6 (by simp [Value.cells]) rfl rfl rfl fun v hc hf hs => ?_
         replace c6 := hc
         replace c7 := Cw.fr (M := (· = b6)) c7 hf (fun h => n67 h.symm)
         replace hE := Ex.young hE hf g6)
      | (refine stores_all (cs := w3 (leN (key.drop 16))) c7 (by simp [Value.cells]) rfl rfl rfl fun v hc hf hs => ?_
         replace c7 := hc
         replace c6 := Cw.fr (M := (· = b7)) c6 hf n67
         replace hE := Ex.young hE hf g7)
      | exact hN _ _ ⟨by simp [look, bnd], _, _, by simp [look, bnd], by simp [look, bnd], n67, g6, g7, c6, c7, hE⟩
      | simp -dsimp (disch := first | omega | rfl | simp only [all_cons, all_nil, plain_w32, plain_w8, plain_w64, plain_ws, plain_int, plain_bool, plain_slice, plain_ptr, plain_map, plain_iface, Bool.and_self]) only [↓pre, ↓pre2, ↓pre3, ↓look_cons, ↓look_bnd, ↓look_bnd0, ↓opd_tmp, ↓opd_const, ↓ite_f, ↓ite_t, ↓reduceIte, post, post2, decide_true, decide_false, opds, Nat.reduceEqDiff, Nat.reduceAdd, Nat.zero_add, Nat.add_zero, Nat.mul_one, Int.toNat_natCast, Int.reduceToNat]
end Go.Lk
