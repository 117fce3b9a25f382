/- Poly1305: what its functions compute, in natural numbers. No statement of the seat is proved in this text. -/
import Derived.Test.YtofoamkiidkbkaaNum
import Derived.Test.YtofoamkiidkbkaaCha2
import Derived.Test.YtofoamkiidkbkaaFAead
set_option linter.unusedSimpArgs false
set_option linter.unusedVariables false
set_option linter.unusedSectionVars false
set_option linter.unnecessarySimpa false
set_option maxRecDepth 10000
set_option maxHeartbeats 1000000
namespace Go.Lk

theorem add64_find : Extern.find Go.Proofs.Try.f151 = some add64Entry := by kernel_rfl
theorem add64_next : (Extern.findNext Go.Proofs.Try.f151).isNone = true := by kernel_rfl

theorem add64_rule {K : Env → World → Prop} {d t : Nat} {xs : Array Operand} {ts : Array TypeId} {e : Env} {w : World} {g : Tg K} {g' : Tg (Op.call ⟨.value (.func 151), xs, ts⟩)} (x y c : Nat) (hx : x < 18446744073709551616) (hy : y < 18446744073709551616) (hc : c ≤ 1)
    (hop : opds e xs.toList = some [n64 x, n64 y, n64 c]) (h : K ((d, .tuple #[n64 ((x + y + c) % 18446744073709551616), n64 ((x + y + c) / 18446744073709551616)]) :: e) w) :
    RawR K Go.Proofs.Try.prog (some d) (.call ⟨.value (.func 151), xs, ts⟩) t e w g g' := by
  refine ext_rule Go.Proofs.Try.func151 (by kernel_rfl) (by kernel_rfl) (Option.isNone_iff_eq_none.1 add64_next) add64_find hop ?_ h
  have := run_add64 (P := Go.Proofs.Try.prog) x y c (by omega) (by omega) (by omega) (by omega) w
  rw [n64_toNat hx, n64_toNat hy, n64_toNat (show c < 18446744073709551616 by omega), n64_toNat (show (x + y + c) % 18446744073709551616 < _ by omega), n64_toNat (show (x + y + c) / 18446744073709551616 < 18446744073709551616 by omega)]
  rw [this]
  congr 4 <;> simp

/-- a number's word -/
def limb (n : Nat) : Nat → Nat
  | 0 => n % 18446744073709551616
  | 1 => n / 18446744073709551616 % 18446744073709551616
  | 2 => n / 340282366920938463463374607431768211456 % 18446744073709551616
  | 3 => n / 6277101735386680763835789423207666416102355444464034512896 % 18446744073709551616
  | _ => n / 115792089237316195423570985008687907853269984665640564039457584007913129639936 % 18446744073709551616
theorem limb_lt (n k : Nat) : limb n k < 18446744073709551616 := by
  unfold limb; split <;> omega
/-- three words of a number -/
def w3 (n : Nat) : List Value := [n64 (limb n 0), n64 (limb n 1), n64 (limb n 2)]
theorem w3_get (n k : Nat) (hk : k < 3) : (w3 n)[k]? = some (n64 (limb n k)) := by
  match k, hk with
  | 0, _ | 1, _ | 2, _ => rfl
theorem w3_len (n : Nat) : (w3 n).length = 3 := rfl
theorem w3_plain (n : Nat) : (w3 n).all plain = true := rfl

/-- the first k words of a + b, the others of a -/
def addCells (a b k : Nat) : List Value := [n64 (if 0 < k then limb (a + b) 0 else limb a 0), n64 (if 1 < k then limb (a + b) 1 else limb a 1), n64 (if 2 < k then limb (a + b) 2 else limb a 2)]
def addCarry (a b : Nat) : Nat → Nat
  | 0 => 0
  | 1 => (a % 18446744073709551616 + b % 18446744073709551616) / 18446744073709551616
  | 2 => (a % 340282366920938463463374607431768211456 + b % 340282366920938463463374607431768211456) / 340282366920938463463374607431768211456
  | _ => (a % 6277101735386680763835789423207666416102355444464034512896 + b % 6277101735386680763835789423207666416102355444464034512896) / 6277101735386680763835789423207666416102355444464034512896
theorem addCarry_le (a b k : Nat) : addCarry a b k ≤ 1 := by
  unfold addCarry; split <;> omega
theorem addCells_get (a b k : Nat) (hk : k < 3) : (addCells a b k)[k]? = some (n64 (limb a k)) := by
  match k, hk with
  | 0, _ | 1, _ | 2, _ => rfl
theorem addCells_set (a b k : Nat) (hk : k < 3) : (addCells a b k).set k (n64 (limb (a + b) k)) = addCells a b (k + 1) := by
  match k, hk with
  | 0, _ | 1, _ | 2, _ => rfl
theorem addStep (a b k : Nat) (hk : k < 3) : (limb a k + limb b k + addCarry a b k) % 18446744073709551616 = limb (a + b) k ∧ (limb a k + limb b k + addCarry a b k) / 18446744073709551616 = addCarry a b (k + 1) := by
  match k, hk with
  | 0, _ | 1, _ | 2, _ => simp only [limb, addCarry]; omega

theorem k142 {w : World} (a b : Nat) :
    Calls Go.Proofs.Try.prog 142 #[.agg (w3 a).toArray, .agg (w3 b).toArray] w fun e w' => e = .returned (.agg (w3 (a + b)).toArray) ∧ Ex w w' := by
  refine enter mo (args := [.agg (w3 a).toArray, .agg (w3 b).toArray]) Go.Proofs.Try.func142 c142 (by simp [x142]) ?_
  simp only [x142, env0]
  simp -dsimp (disch := first | omega | rfl | simp only [all_cons, all_nil, plain_w32, plain_w8, plain_w64, plain_ws, plain_int, plain_bool, plain_slice, plain_ptr, plain_map, plain_iface, Bool.and_self]) only [↓pre, ↓pre2, ↓pre3, ↓look_cons, ↓look_bnd, ↓look_bnd0, ↓opd_tmp, ↓opd_const, ↓ite_f, ↓ite_t, ↓reduceIte, post, post2, decide_true, decide_false, opds, Nat.reduceEqDiff, Nat.reduceAdd, Nat.zero_add, Nat.add_zero, Nat.mul_one, Int.toNat_natCast, Int.reduceToNat]
  refine box_rule fun b2 w1 hb2 hc2 he1 hs1 => ?_
  simp -dsimp (disch := first | omega | rfl | simp only [all_cons, all_nil, plain_w32, plain_w8, plain_w64, plain_ws, plain_int, plain_bool, plain_slice, plain_ptr, plain_map, plain_iface, Bool.and_self]) only [↓pre, ↓pre2, ↓pre3, ↓look_cons, ↓look_bnd, ↓look_bnd0, ↓opd_tmp, ↓opd_const, ↓ite_f, ↓ite_t, ↓reduceIte, post, post2, decide_true, decide_false, opds, Nat.reduceEqDiff, Nat.reduceAdd, Nat.zero_add, Nat.add_zero, Nat.mul_one, Int.toNat_natCast, Int.reduceToNat]
  refine box_rule fun b3 w2 hb3 hc3 he2 hs2 => ?_
  simp -dsimp (disch := first | omega | rfl | simp only [all_cons, all_nil, plain_w32, plain_w8, plain_w64, plain_ws, plain_int, plain_bool, plain_slice, plain_ptr, plain_map, plain_iface, Bool.and_self]) only [↓pre, ↓pre2, ↓pre3, ↓look_cons, ↓look_bnd, ↓look_bnd0, ↓opd_tmp, ↓opd_const, ↓ite_f, ↓ite_t, ↓reduceIte, post, post2, decide_true, decide_false, opds, Nat.reduceEqDiff, Nat.reduceAdd, Nat.zero_add, Nat.add_zero, Nat.mul_one, Int.toNat_natCast, Int.reduceToNat]
  refine alloc_rule (z := [n64 0, n64 0, n64 0]) (by kernel_rfl) fun b4 w3' hb4 hc4 he3 hs3 => ?_
  have hE3 := (he1.trans he2).trans he3
  have hb2w : w.heap.size ≤ b2 := by omega
  simp -dsimp (disch := first | omega | rfl | simp only [all_cons, all_nil, plain_w32, plain_w8, plain_w64, plain_ws, plain_int, plain_bool, plain_slice, plain_ptr, plain_map, plain_iface, Bool.and_self]) only [↓pre, ↓pre2, ↓pre3, ↓look_cons, ↓look_bnd, ↓look_bnd0, ↓opd_tmp, ↓opd_const, ↓ite_f, ↓ite_t, ↓reduceIte, post, post2, decide_true, decide_false, opds, Nat.reduceEqDiff, Nat.reduceAdd, Nat.zero_add, Nat.add_zero, Nat.mul_one, Int.toNat_natCast, Int.reduceToNat]
  refine loop_rule (fun k : Nat => [(7, vi k), (5, n64 (addCarry a b k)), (2, .pointer (some ⟨b2, 0, none⟩)), (3, .pointer (some ⟨b3, 0, none⟩)), (4, .pointer (some ⟨b4, 0, none⟩))])
    (fun k v => k ≤ 3 ∧ Cw v.heap b2 (addCells a b k) ∧ Cw v.heap b3 (w3 b) ∧ Cw v.heap b4 [n64 0, n64 0, n64 0] ∧ Ex w v) (fun k => 3 - k) 0 (by simp [sub, look, bnd, add_addr, addCarry]) ⟨by omega, (by simpa [Value.cells, w3, addCells] using (hc2.ex he2).ex he3), by simpa [Value.cells] using hc3.ex he3, hc4, hE3⟩ ?_
  rintro k v ⟨hk, h2, h3, h4, hE⟩
  simp -dsimp (disch := first | omega | rfl | simp only [all_cons, all_nil, plain_w32, plain_w8, plain_w64, plain_ws, plain_int, plain_bool, plain_slice, plain_ptr, plain_map, plain_iface, Bool.and_self]) only [↓pre, ↓pre2, ↓pre3, ↓look_cons, ↓look_bnd, ↓look_bnd0, ↓opd_tmp, ↓opd_const, ↓ite_f, ↓ite_t, ↓reduceIte, post, post2, decide_true, decide_false, opds, Nat.reduceEqDiff, Nat.reduceAdd, Nat.zero_add, Nat.add_zero, Nat.mul_one, Int.toNat_natCast, Int.reduceToNat]
  refine cond_dec (fun hlt => ?_) (fun hge => ?_)
  · have hk3 : k < 3 := by omega
    simp -dsimp (disch := first | omega | rfl | simp only [all_cons, all_nil, plain_w32, plain_w8, plain_w64, plain_ws, plain_int, plain_bool, plain_slice, plain_ptr, plain_map, plain_iface, Bool.and_self]) only [↓pre, ↓pre2, ↓pre3, ↓look_cons, ↓look_bnd, ↓look_bnd0, ↓opd_tmp, ↓opd_const, ↓ite_f, ↓ite_t, ↓reduceIte, post, post2, decide_true, decide_false, opds, Nat.reduceEqDiff, Nat.reduceAdd, Nat.zero_add, Nat.add_zero, Nat.mul_one, Int.toNat_natCast, Int.reduceToNat]
    refine par_ex ?_
    have h2' : Cw v.drew.heap b2 _ := h2
    have h3' : Cw v.drew.heap b3 _ := h3
    simp -dsimp (disch := first | omega | rfl | simp only [all_cons, all_nil, plain_w32, plain_w8, plain_w64, plain_ws, plain_int, plain_bool, plain_slice, plain_ptr, plain_map, plain_iface, Bool.and_self]) only [↓pre, ↓pre2, ↓pre3, ↓look_cons, ↓look_bnd, ↓look_bnd0, ↓opd_tmp, ↓opd_const, ↓ite_f, ↓ite_t, ↓reduceIte, post, post2, decide_true, decide_false, opds, Nat.reduceEqDiff, Nat.reduceAdd, Nat.zero_add, Nat.add_zero, Nat.mul_one, Int.toNat_natCast, Int.reduceToNat, h2'.cell, h3'.cell, addCells_get, w3_get]
    refine add64_rule (limb a k) (limb b k) (addCarry a b k) (limb_lt _ _) (limb_lt _ _) (addCarry_le _ _ _) rfl ?_
    rw [(addStep a b k hk3).1, (addStep a b k hk3).2]
    simp -dsimp (disch := first | omega | rfl | simp only [all_cons, all_nil, plain_w32, plain_w8, plain_w64, plain_ws, plain_int, plain_bool, plain_slice, plain_ptr, plain_map, plain_iface, Bool.and_self]) only [↓pre, ↓pre2, ↓pre3, ↓look_cons, ↓look_bnd, ↓look_bnd0, ↓opd_tmp, ↓opd_const, ↓ite_f, ↓ite_t, ↓reduceIte, post, post2, decide_true, decide_false, opds, Nat.reduceEqDiff, Nat.reduceAdd, Nat.zero_add, Nat.add_zero, Nat.mul_one, Int.toNat_natCast, Int.reduceToNat]
    refine store_rule h2' (by simp [addCells]; omega) (plain_w64 _) fun v2 hc hf hs => ?_
    rw [addCells_set a b k hk3] at hc
    simp -dsimp (disch := first | omega | rfl | simp only [all_cons, all_nil, plain_w32, plain_w8, plain_w64, plain_ws, plain_int, plain_bool, plain_slice, plain_ptr, plain_map, plain_iface, Bool.and_self]) only [↓pre, ↓pre2, ↓pre3, ↓look_cons, ↓look_bnd, ↓look_bnd0, ↓opd_tmp, ↓opd_const, ↓ite_f, ↓ite_t, ↓reduceIte, post, post2, decide_true, decide_false, opds, Nat.reduceEqDiff, Nat.reduceAdd, Nat.zero_add, Nat.add_zero, Nat.mul_one, Int.toNat_natCast, Int.reduceToNat]
    exact ⟨k + 1, by simp [sub, look, bnd, add_addr], ⟨by omega, hc, Cw.fr (M := (· = b2)) h3' hf (by omega), Cw.fr (M := (· = b2)) (w := v.drew) h4 hf (by omega), Ex.young hE.drew hf hb2w⟩, by omega⟩
  · have hk3 : k = 3 := by omega
    subst hk3
    have h2' : Cw v.heap b2 (w3 (a + b)) := h2
    simp -dsimp (disch := first | omega | rfl | simp only [all_cons, all_nil, plain_w32, plain_w8, plain_w64, plain_ws, plain_int, plain_bool, plain_slice, plain_ptr, plain_map, plain_iface, Bool.and_self]) only [↓pre, ↓pre2, ↓pre3, ↓look_cons, ↓look_bnd, ↓look_bnd0, ↓opd_tmp, ↓opd_const, ↓ite_f, ↓ite_t, ↓reduceIte, post, post2, decide_true, decide_false, opds, Nat.reduceEqDiff, Nat.reduceAdd, Nat.zero_add, Nat.add_zero, Nat.mul_one, Int.toNat_natCast, Int.reduceToNat]
    refine lda_cw h2' rfl ?_
    simp -dsimp (disch := first | omega | rfl | simp only [all_cons, all_nil, plain_w32, plain_w8, plain_w64, plain_ws, plain_int, plain_bool, plain_slice, plain_ptr, plain_map, plain_iface, Bool.and_self]) only [↓pre, ↓pre2, ↓pre3, ↓look_cons, ↓look_bnd, ↓look_bnd0, ↓opd_tmp, ↓opd_const, ↓ite_f, ↓ite_t, ↓reduceIte, post, post2, decide_true, decide_false, opds, Nat.reduceEqDiff, Nat.reduceAdd, Nat.zero_add, Nat.add_zero, Nat.mul_one, Int.toNat_natCast, Int.reduceToNat]
    refine stores_all (cs := w3 (a + b)) h4 (by simp [Value.cells]) rfl rfl rfl fun v2 hc hf hs => ?_
    simp -dsimp (disch := first | omega | rfl | simp only [all_cons, all_nil, plain_w32, plain_w8, plain_w64, plain_ws, plain_int, plain_bool, plain_slice, plain_ptr, plain_map, plain_iface, Bool.and_self]) only [↓pre, ↓pre2, ↓pre3, ↓look_cons, ↓look_bnd, ↓look_bnd0, ↓opd_tmp, ↓opd_const, ↓ite_f, ↓ite_t, ↓reduceIte, post, post2, decide_true, decide_false, opds, Nat.reduceEqDiff, Nat.reduceAdd, Nat.zero_add, Nat.add_zero, Nat.mul_one, Int.toNat_natCast, Int.reduceToNat]
    exact fin_ca (by simp [look]) hc rfl ⟨rfl, Ex.young hE hf (by omega)⟩

theorem k152 {w : World} (x y : Nat) (hx : x < 18446744073709551616) (hy : y < 18446744073709551616) :
    Calls Go.Proofs.Try.prog 152 #[n64 x, n64 y] w fun e w' => e = .returned (.tuple #[n64 (x * y / 18446744073709551616), n64 (x * y)]) ∧ Ex w w' := by
  obtain ⟨h1, h2, h3, h4⟩ := Go.Lib.mul64_hi x y hx hy
  refine enter mo (args := [n64 x, n64 y]) Go.Proofs.Try.func152 c152 (by simp [x152]) ?_
  simp only [x152, env0]
  have hd : x * y / 18446744073709551616 = x * y / 18446744073709551616 := rfl
  generalize hp : x * y = p at h4 ⊢
  simp -dsimp (disch := first | omega | rfl | simp only [all_cons, all_nil, plain_w32, plain_w8, plain_w64, plain_ws, plain_int, plain_bool, plain_slice, plain_ptr, plain_map, plain_iface, Bool.and_self]) only [↓pre, ↓pre2, ↓pre3, ↓look_cons, ↓look_bnd, ↓look_bnd0, ↓opd_tmp, ↓opd_const, ↓ite_f, ↓ite_t, ↓reduceIte, post, post2, decide_true, decide_false, opds, Nat.reduceEqDiff, Nat.reduceAdd, Nat.zero_add, Nat.add_zero, Nat.mul_one, Int.toNat_natCast, Int.reduceToNat, nums, hp]
  have e32 : (2 : Nat) ^ 32 = 4294967296 := rfl
  simp only [e32, h4]
  exact ⟨trivial, Fr.refl w⟩

/-- bytes as a number, the lowest first -/
def leN : List UInt8 → Nat
  | [] => 0
  | c :: r => c.toNat + 256 * leN r
theorem leN_app (l r : List UInt8) : leN (l ++ r) = leN l + 256 ^ l.length * leN r := by
  induction l with
  | nil => simp [leN]
  | cons c l ih =>
    simp only [List.cons_append, leN, ih, List.length_cons, Nat.pow_succ]
    rw [Nat.mul_add, ← Nat.mul_assoc, Nat.mul_comm 256 (256 ^ l.length)]
    omega
theorem leN_lt (l : List UInt8) : leN l < 256 ^ l.length := by
  induction l with
  | nil => simp [leN]
  | cons c l ih =>
    simp only [leN, List.length_cons, Nat.pow_succ]
    have := c.toNat_lt
    omega
end Go.Lk
