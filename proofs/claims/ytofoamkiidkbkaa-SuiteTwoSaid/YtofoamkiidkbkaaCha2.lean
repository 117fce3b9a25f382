/- ChaCha20: blocks of the stream, and a text xored with it. No statement of the seat is proved in this text. -/
import Derived.Test.YtofoamkiidkbkaaCha
set_option linter.unusedSimpArgs false
set_option linter.unusedVariables false
set_option linter.unusedSectionVars false
set_option linter.unnecessarySimpa false
set_option maxRecDepth 10000
set_option maxHeartbeats 2000000
namespace Go.Lk

def chaCheck (kl : Nat) (c : Int) (nl : Nat) : Int := if kl = 32 ∧ nl = 12 then (if 0 ≤ c ∧ c ≤ 4294967295 then 0 else 12) else 11

theorem k120 {w : World} {ak an : Option Addr} {kl ck nl cn : Nat} (counter : Int) :
    Calls Go.Proofs.Try.prog 120 #[.slice ak kl ck, vi counter, .slice an nl cn] w fun e w' => e = .returned (vi (chaCheck kl counter nl)) ∧ Ex w w' := by
  refine enter mo (args := [.slice ak kl ck, vi counter, .slice an nl cn]) Go.Proofs.Try.func120 c120 (by simp [x120]) ?_
  simp only [x120, env0]
  unfold chaCheck
  by_cases h1 : kl = 32
  · by_cases h2 : nl = 12
    · rw [if_pos ⟨h1, h2⟩]
      by_cases h3 : 0 ≤ counter
      · by_cases h4 : counter ≤ 4294967295
        · rw [if_pos ⟨h3, h4⟩]
          simp -dsimp (disch := first | omega | rfl | simp only [all_cons, all_nil, plain_w32, plain_w8, plain_w64, plain_ws, plain_int, plain_bool, plain_slice, plain_ptr, plain_map, plain_iface, Bool.and_self]) only [↓pre, ↓pre2, ↓pre3, ↓look_cons, ↓look_bnd, ↓look_bnd0, ↓opd_tmp, ↓opd_const, ↓ite_f, ↓ite_t, ↓reduceIte, post, post2, decide_true, decide_false, opds, Nat.reduceEqDiff, Nat.reduceAdd, Nat.zero_add, Nat.add_zero, Nat.mul_one, Int.toNat_natCast, Int.reduceToNat, dec_t, dec_f]
          exact ⟨trivial, Fr.refl w⟩
        · rw [if_neg (fun h => h4 h.2)]
          simp -dsimp (disch := first | omega | rfl | simp only [all_cons, all_nil, plain_w32, plain_w8, plain_w64, plain_ws, plain_int, plain_bool, plain_slice, plain_ptr, plain_map, plain_iface, Bool.and_self]) only [↓pre, ↓pre2, ↓pre3, ↓look_cons, ↓look_bnd, ↓look_bnd0, ↓opd_tmp, ↓opd_const, ↓ite_f, ↓ite_t, ↓reduceIte, post, post2, decide_true, decide_false, opds, Nat.reduceEqDiff, Nat.reduceAdd, Nat.zero_add, Nat.add_zero, Nat.mul_one, Int.toNat_natCast, Int.reduceToNat, dec_t, dec_f]
          exact ⟨trivial, Fr.refl w⟩
      · rw [if_neg (fun h => h3 h.1)]
        simp -dsimp (disch := first | omega | rfl | simp only [all_cons, all_nil, plain_w32, plain_w8, plain_w64, plain_ws, plain_int, plain_bool, plain_slice, plain_ptr, plain_map, plain_iface, Bool.and_self]) only [↓pre, ↓pre2, ↓pre3, ↓look_cons, ↓look_bnd, ↓look_bnd0, ↓opd_tmp, ↓opd_const, ↓ite_f, ↓ite_t, ↓reduceIte, post, post2, decide_true, decide_false, opds, Nat.reduceEqDiff, Nat.reduceAdd, Nat.zero_add, Nat.add_zero, Nat.mul_one, Int.toNat_natCast, Int.reduceToNat, dec_t, dec_f]
        exact ⟨trivial, Fr.refl w⟩
    · rw [if_neg (fun h => h2 h.2)]
      simp -dsimp (disch := first | omega | rfl | simp only [all_cons, all_nil, plain_w32, plain_w8, plain_w64, plain_ws, plain_int, plain_bool, plain_slice, plain_ptr, plain_map, plain_iface, Bool.and_self]) only [↓pre, ↓pre2, ↓pre3, ↓look_cons, ↓look_bnd, ↓look_bnd0, ↓opd_tmp, ↓opd_const, ↓ite_f, ↓ite_t, ↓reduceIte, post, post2, decide_true, decide_false, opds, Nat.reduceEqDiff, Nat.reduceAdd, Nat.zero_add, Nat.add_zero, Nat.mul_one, Int.toNat_natCast, Int.reduceToNat, dec_t, dec_f]
      exact ⟨trivial, Fr.refl w⟩
  · rw [if_neg (fun h => h1 h.1)]
    simp -dsimp (disch := first | omega | rfl | simp only [all_cons, all_nil, plain_w32, plain_w8, plain_w64, plain_ws, plain_int, plain_bool, plain_slice, plain_ptr, plain_map, plain_iface, Bool.and_self]) only [↓pre, ↓pre2, ↓pre3, ↓look_cons, ↓look_bnd, ↓look_bnd0, ↓opd_tmp, ↓opd_const, ↓ite_f, ↓ite_t, ↓reduceIte, post, post2, decide_true, decide_false, opds, Nat.reduceEqDiff, Nat.reduceAdd, Nat.zero_add, Nat.add_zero, Nat.mul_one, Int.toNat_natCast, Int.reduceToNat, dec_t, dec_f]
    exact ⟨trivial, Fr.refl w⟩

/-- a block of the stream -/
def chaB (key : List UInt8) (counter : Int) (nonce : List UInt8) : List UInt8 := chaBlock (chaFirst key counter nonce)

theorem k123 {w : World} {kv nv : Value} {key nonce : List UInt8} (counter : Int) (hk : Bs w.heap kv key) (hn : Bs w.heap nv nonce) :
    Calls Go.Proofs.Try.prog 123 #[kv, vi counter, nv] w fun e w' => ∃ u, e = .returned (.tuple #[u, vi (chaCheck key.length counter nonce.length)]) ∧
      New w.heap.size w'.heap u (if chaCheck key.length counter nonce.length = 0 then chaB key counter nonce else []) ∧ Ex w w' := by
  obtain ⟨ak, ck, rfl, hck, _⟩ := hk.parts
  obtain ⟨an, cn, rfl, hcn, _⟩ := hn.parts
  refine enter mo (args := [.slice ak key.length ck, vi counter, .slice an nonce.length cn]) Go.Proofs.Try.func123 c123 (by simp [x123]) ?_
  simp only [x123, env0]
  simp -dsimp (disch := first | omega | rfl | simp only [all_cons, all_nil, plain_w32, plain_w8, plain_w64, plain_ws, plain_int, plain_bool, plain_slice, plain_ptr, plain_map, plain_iface, Bool.and_self]) only [↓pre, ↓pre2, ↓pre3, ↓look_cons, ↓look_bnd, ↓look_bnd0, ↓opd_tmp, ↓opd_const, ↓ite_f, ↓ite_t, ↓reduceIte, post, post2, decide_true, decide_false, opds, Nat.reduceEqDiff, Nat.reduceAdd, Nat.zero_add, Nat.add_zero, Nat.mul_one, Int.toNat_natCast, Int.reduceToNat]
  refine call_rule (k120 counter) ?_
  rintro en w1 ⟨rfl, hx1⟩
  refine ⟨_, rfl, ?_⟩
  simp -dsimp (disch := first | omega | rfl | simp only [all_cons, all_nil, plain_w32, plain_w8, plain_w64, plain_ws, plain_int, plain_bool, plain_slice, plain_ptr, plain_map, plain_iface, Bool.and_self]) only [↓pre, ↓pre2, ↓pre3, ↓look_cons, ↓look_bnd, ↓look_bnd0, ↓opd_tmp, ↓opd_const, ↓ite_f, ↓ite_t, ↓reduceIte, post, post2, decide_true, decide_false, opds, Nat.reduceEqDiff, Nat.reduceAdd, Nat.zero_add, Nat.add_zero, Nat.mul_one, Int.toNat_natCast, Int.reduceToNat]
  refine cond_ndec (fun hlt => ?_) (fun hge => ?_)
  · simp -dsimp (disch := first | omega | rfl | simp only [all_cons, all_nil, plain_w32, plain_w8, plain_w64, plain_ws, plain_int, plain_bool, plain_slice, plain_ptr, plain_map, plain_iface, Bool.and_self]) only [↓pre, ↓pre2, ↓pre3, ↓look_cons, ↓look_bnd, ↓look_bnd0, ↓opd_tmp, ↓opd_const, ↓ite_f, ↓ite_t, ↓reduceIte, post, post2, decide_true, decide_false, opds, Nat.reduceEqDiff, Nat.reduceAdd, Nat.zero_add, Nat.add_zero, Nat.mul_one, Int.toNat_natCast, Int.reduceToNat]
    rw [if_neg hlt]
    exact ⟨_, rfl, New.nil _ _, hx1⟩
  · rw [hge]
    have hc : key.length = 32 ∧ nonce.length = 12 := by
      unfold chaCheck at hge
      by_cases h : key.length = 32 ∧ nonce.length = 12
      · exact h
      · rw [if_neg h] at hge; cases hge
    simp -dsimp (disch := first | omega | rfl | simp only [all_cons, all_nil, plain_w32, plain_w8, plain_w64, plain_ws, plain_int, plain_bool, plain_slice, plain_ptr, plain_map, plain_iface, Bool.and_self]) only [↓pre, ↓pre2, ↓pre3, ↓look_cons, ↓look_bnd, ↓look_bnd0, ↓opd_tmp, ↓opd_const, ↓ite_f, ↓ite_t, ↓reduceIte, post, post2, decide_true, decide_false, opds, Nat.reduceEqDiff, Nat.reduceAdd, Nat.zero_add, Nat.add_zero, Nat.mul_one, Int.toNat_natCast, Int.reduceToNat]
    refine call_rule (k121 counter (hk.ex hx1) (hn.ex hx1) hc.1 hc.2) ?_
    rintro en w2 ⟨rfl, hx2⟩
    refine ⟨_, rfl, ?_⟩
    simp -dsimp (disch := first | omega | rfl | simp only [all_cons, all_nil, plain_w32, plain_w8, plain_w64, plain_ws, plain_int, plain_bool, plain_slice, plain_ptr, plain_map, plain_iface, Bool.and_self]) only [↓pre, ↓pre2, ↓pre3, ↓look_cons, ↓look_bnd, ↓look_bnd0, ↓opd_tmp, ↓opd_const, ↓ite_f, ↓ite_t, ↓reduceIte, post, post2, decide_true, decide_false, opds, Nat.reduceEqDiff, Nat.reduceAdd, Nat.zero_add, Nat.add_zero, Nat.mul_one, Int.toNat_natCast, Int.reduceToNat]
    refine call_rule (k122 (chaFirst_length key counter nonce)) ?_
    rintro en w3 ⟨u, rfl, hn3, hx3⟩
    refine ⟨_, rfl, ?_⟩
    simp -dsimp (disch := first | omega | rfl | simp only [all_cons, all_nil, plain_w32, plain_w8, plain_w64, plain_ws, plain_int, plain_bool, plain_slice, plain_ptr, plain_map, plain_iface, Bool.and_self]) only [↓pre, ↓pre2, ↓pre3, ↓look_cons, ↓look_bnd, ↓look_bnd0, ↓opd_tmp, ↓opd_const, ↓ite_f, ↓ite_t, ↓reduceIte, post, post2, decide_true, decide_false, opds, Nat.reduceEqDiff, Nat.reduceAdd, Nat.zero_add, Nat.add_zero, Nat.mul_one, Int.toNat_natCast, Int.reduceToNat]
    have hE := hx1.trans hx2
    exact ⟨u, rfl, hn3.mono hE.size, hE.trans hx3⟩

/-- the state with its counter n higher -/
def chaUp (s : List (BitVec 32)) (n : Nat) : List (BitVec 32) := s.set 12 (s.getD 12 0 + BitVec.ofNat 32 n)
/-- byte i of the stream -/
def chaByte (s : List (BitVec 32)) (i : Nat) : UInt8 := (chaBlock (chaUp s (i / 64))).getD (i % 64) 0
def xorN (s : List (BitVec 32)) (text : List UInt8) (n : Nat) : List UInt8 := (List.range n).map fun i => text.getD i 0 ^^^ chaByte s i
/-- a text xored with the stream -/
def chaX (key : List UInt8) (counter : Int) (nonce : List UInt8) (text : List UInt8) : List UInt8 := xorN (chaFirst key counter nonce) text text.length

theorem xorN_succ (s : List (BitVec 32)) (text : List UInt8) (n : Nat) : xorN s text (n + 1) = xorN s text n ++ [text.getD n 0 ^^^ chaByte s n] := by simp [xorN, List.range_succ]
theorem xorN_length (s : List (BitVec 32)) (text : List UInt8) (n : Nat) : (xorN s text n).length = n := by simp [xorN]
theorem chaX_length (k : List UInt8) (c : Int) (n t : List UInt8) : (chaX k c n t).length = t.length := xorN_length _ _ _
theorem chaUp_length (s : List (BitVec 32)) (n : Nat) : (chaUp s n).length = s.length := by simp [chaUp]
theorem chaUp_up {s : List (BitVec 32)} (hs : s.length = 16) (n : Nat) : (chaUp s n).set 12 ((chaUp s n).getD 12 0 + 1#32) = chaUp s (n + 1) := by
  unfold chaUp
  rw [List.set_set]
  congr 1
  simp only [List.getD, List.getElem?_set, hs]
  simp only [if_true, show (12 < 16) by omega, Option.getD_some]
  rw [BitVec.add_assoc]
  congr 1
  simp [BitVec.ofNat_add]
theorem chaUp_zero (s : List (BitVec 32)) : chaUp s 0 = s := by
  unfold chaUp
  rw [show BitVec.ofNat 32 0 = 0#32 from rfl, BitVec.add_zero]
  apply List.ext_getElem?
  intro i
  rw [List.getElem?_set]
  split
  · rename_i h; subst h
    split
    · rename_i h; simp [List.getD, h]
    · rename_i h; simp; omega
  · rfl
theorem chaBlock_length {s : List (BitVec 32)} (hs : s.length = 16) : (chaBlock s).length = 64 := by
  unfold chaBlock; rw [flat4']; simp [dbls_length, hs]

theorem k102 {w : World} {kv nv tv : Value} {key nonce text : List UInt8} (counter : Int) (hk : Bs w.heap kv key) (hn : Bs w.heap nv nonce) (ht : Bs w.heap tv text) (htl : text.length ≤ 1099511627776) :
    Calls Go.Proofs.Try.prog 102 #[kv, vi counter, nv, tv] w fun e w' => ∃ u, e = .returned (.tuple #[u, vi (chaCheck key.length counter nonce.length)]) ∧
      New w.heap.size w'.heap u (if chaCheck key.length counter nonce.length = 0 then chaX key counter nonce text else []) ∧ Ex w w' := by
  obtain ⟨ak, ck, rfl, hck, _⟩ := hk.parts
  obtain ⟨an, cn, rfl, hcn, _⟩ := hn.parts
  obtain ⟨at', ct, rfl, hct, hnt⟩ := ht.parts
  refine enter mo (args := [.slice ak key.length ck, vi counter, .slice an nonce.length cn, .slice at' text.length ct]) Go.Proofs.Try.func102 c102 (by simp [x102]) ?_
  simp only [x102, env0]
  simp -dsimp (disch := first | omega | rfl | simp only [all_cons, all_nil, plain_w32, plain_w8, plain_w64, plain_ws, plain_int, plain_bool, plain_slice, plain_ptr, plain_map, plain_iface, Bool.and_self]) only [↓pre, ↓pre2, ↓pre3, ↓look_cons, ↓look_bnd, ↓look_bnd0, ↓opd_tmp, ↓opd_const, ↓ite_f, ↓ite_t, ↓reduceIte, post, post2, decide_true, decide_false, opds, Nat.reduceEqDiff, Nat.reduceAdd, Nat.zero_add, Nat.add_zero, Nat.mul_one, Int.toNat_natCast, Int.reduceToNat]
  refine call_rule (k120 counter) ?_
  rintro en w1 ⟨rfl, hx1⟩
  refine ⟨_, rfl, ?_⟩
  simp -dsimp (disch := first | omega | rfl | simp only [all_cons, all_nil, plain_w32, plain_w8, plain_w64, plain_ws, plain_int, plain_bool, plain_slice, plain_ptr, plain_map, plain_iface, Bool.and_self]) only [↓pre, ↓pre2, ↓pre3, ↓look_cons, ↓look_bnd, ↓look_bnd0, ↓opd_tmp, ↓opd_const, ↓ite_f, ↓ite_t, ↓reduceIte, post, post2, decide_true, decide_false, opds, Nat.reduceEqDiff, Nat.reduceAdd, Nat.zero_add, Nat.add_zero, Nat.mul_one, Int.toNat_natCast, Int.reduceToNat]
  refine cond_ndec (fun hlt => ?_) (fun hge => ?_)
  · simp -dsimp (disch := first | omega | rfl | simp only [all_cons, all_nil, plain_w32, plain_w8, plain_w64, plain_ws, plain_int, plain_bool, plain_slice, plain_ptr, plain_map, plain_iface, Bool.and_self]) only [↓pre, ↓pre2, ↓pre3, ↓look_cons, ↓look_bnd, ↓look_bnd0, ↓opd_tmp, ↓opd_const, ↓ite_f, ↓ite_t, ↓reduceIte, post, post2, decide_true, decide_false, opds, Nat.reduceEqDiff, Nat.reduceAdd, Nat.zero_add, Nat.add_zero, Nat.mul_one, Int.toNat_natCast, Int.reduceToNat]
    rw [if_neg hlt]
    exact ⟨_, rfl, New.nil _ _, hx1⟩
  rw [hge]
  have hc : key.length = 32 ∧ nonce.length = 12 := by
    unfold chaCheck at hge
    by_cases h : key.length = 32 ∧ nonce.length = 12
    · exact h
    · rw [if_neg h] at hge; cases hge
  simp -dsimp (disch := first | omega | rfl | simp only [all_cons, all_nil, plain_w32, plain_w8, plain_w64, plain_ws, plain_int, plain_bool, plain_slice, plain_ptr, plain_map, plain_iface, Bool.and_self]) only [↓pre, ↓pre2, ↓pre3, ↓look_cons, ↓look_bnd, ↓look_bnd0, ↓opd_tmp, ↓opd_const, ↓ite_f, ↓ite_t, ↓reduceIte, post, post2, decide_true, decide_false, opds, Nat.reduceEqDiff, Nat.reduceAdd, Nat.zero_add, Nat.add_zero, Nat.mul_one, Int.toNat_natCast, Int.reduceToNat]
  refine call_rule (k121 counter (hk.ex hx1) (hn.ex hx1) hc.1 hc.2) ?_
  rintro en w2 ⟨rfl, hx2⟩
  refine ⟨_, rfl, ?_⟩
  have hE2 := hx1.trans hx2
  rw [if_pos rfl]
  have hsl := chaFirst_length key counter nonce
  unfold chaX
  generalize chaFirst key counter nonce = s at hsl ⊢
  simp -dsimp (disch := first | omega | rfl | simp only [all_cons, all_nil, plain_w32, plain_w8, plain_w64, plain_ws, plain_int, plain_bool, plain_slice, plain_ptr, plain_map, plain_iface, Bool.and_self]) only [↓pre, ↓pre2, ↓pre3, ↓look_cons, ↓look_bnd, ↓look_bnd0, ↓opd_tmp, ↓opd_const, ↓ite_f, ↓ite_t, ↓reduceIte, post, post2, decide_true, decide_false, opds, Nat.reduceEqDiff, Nat.reduceAdd, Nat.zero_add, Nat.add_zero, Nat.mul_one, Int.toNat_natCast, Int.reduceToNat]
  refine alloc_rule (z := (List.replicate 16 (0#32)).map w32) (by kernel_rfl) fun b3 w3 hb3 hc3 he3 hs3 => ?_
  simp -dsimp (disch := first | omega | rfl | simp only [all_cons, all_nil, plain_w32, plain_w8, plain_w64, plain_ws, plain_int, plain_bool, plain_slice, plain_ptr, plain_map, plain_iface, Bool.and_self]) only [↓pre, ↓pre2, ↓pre3, ↓look_cons, ↓look_bnd, ↓look_bnd0, ↓opd_tmp, ↓opd_const, ↓ite_f, ↓ite_t, ↓reduceIte, post, post2, decide_true, decide_false, opds, Nat.reduceEqDiff, Nat.reduceAdd, Nat.zero_add, Nat.add_zero, Nat.mul_one, Int.toNat_natCast, Int.reduceToNat]
  refine stores_all (cs := s.map w32) hc3 (by simp [Value.cells]) (by simpa using hsl) (by simp) (by simp [plain_w32]) fun w4 hc4 hf4 hs4 => ?_
  have hb3w : w.heap.size ≤ b3 := by have := hE2.size; omega
  have hE4 : Ex w w4 := Ex.young (hE2.trans he3) hf4 hb3w
  simp -dsimp (disch := first | omega | rfl | simp only [all_cons, all_nil, plain_w32, plain_w8, plain_w64, plain_ws, plain_int, plain_bool, plain_slice, plain_ptr, plain_map, plain_iface, Bool.and_self]) only [↓pre, ↓pre2, ↓pre3, ↓look_cons, ↓look_bnd, ↓look_bnd0, ↓opd_tmp, ↓opd_const, ↓ite_f, ↓ite_t, ↓reduceIte, post, post2, decide_true, decide_false, opds, Nat.reduceEqDiff, Nat.reduceAdd, Nat.zero_add, Nat.add_zero, Nat.mul_one, Int.toNat_natCast, Int.reduceToNat]
  refine mks_rule (n := text.length) (c := text.length) el8 rfl rfl (by omega) (by omega) (by omega) fun b5 w5 hb5 hc5 he5 hs5 => ?_
  rw [reps8] at hc5
  have hE5 := hE4.trans he5
  have hb5w : w.heap.size ≤ b5 := by have := hE4.size; omega
  have hlt4 := hc4.lt
  have h35 : b3 ≠ b5 := by omega
  simp -dsimp (disch := first | omega | rfl | simp only [all_cons, all_nil, plain_w32, plain_w8, plain_w64, plain_ws, plain_int, plain_bool, plain_slice, plain_ptr, plain_map, plain_iface, Bool.and_self]) only [↓pre, ↓pre2, ↓pre3, ↓look_cons, ↓look_bnd, ↓look_bnd0, ↓opd_tmp, ↓opd_const, ↓ite_f, ↓ite_t, ↓reduceIte, post, post2, decide_true, decide_false, opds, Nat.reduceEqDiff, Nat.reduceAdd, Nat.zero_add, Nat.add_zero, Nat.mul_one, Int.toNat_natCast, Int.reduceToNat]
  refine loop_rule (fun k : Nat × Value => [(32, vi k.1), (31, vi text.length), (30, .slice at' text.length ct), (11, .pointer (some ⟨b3, 0, none⟩)), (12, .slice (some ⟨b5, 0, none⟩) text.length text.length), (13, k.2)])
    (fun k v => k.1 ≤ text.length ∧ Cw v.heap b3 ((chaUp s ((k.1 + 63) / 64)).map w32) ∧ Cw v.heap b5 ((xorN s text k.1 ++ List.replicate (text.length - k.1) 0).map w8) ∧ (k.1 % 64 ≠ 0 → Bs v.heap k.2 (chaBlock (chaUp s (k.1 / 64)))) ∧ (∀ b, k.2.ownBlock = some b → b ≠ b3 ∧ b ≠ b5) ∧ Ex w v)
    (fun k => text.length - k.1) (0, .slice none 0 0) (by simp [sub, look, bnd, add_addr]) ⟨by simp, by show Cw _ b3 ((chaUp s 0).map w32); rw [chaUp_zero]; exact hc4.ex he5, by simpa [xorN] using hc5, by simp, by simp [Value.ownBlock], hE5⟩ ?_
  rintro ⟨k, bv⟩ v ⟨hkl, h3, h5, hbv, hbo, hE⟩
  simp only at hkl h3 h5 hbv hbo
  simp -dsimp (disch := first | omega | rfl | simp only [all_cons, all_nil, plain_w32, plain_w8, plain_w64, plain_ws, plain_int, plain_bool, plain_slice, plain_ptr, plain_map, plain_iface, Bool.and_self]) only [↓pre, ↓pre2, ↓pre3, ↓look_cons, ↓look_bnd, ↓look_bnd0, ↓opd_tmp, ↓opd_const, ↓ite_f, ↓ite_t, ↓reduceIte, post, post2, decide_true, decide_false, opds, Nat.reduceEqDiff, Nat.reduceAdd, Nat.zero_add, Nat.add_zero, Nat.mul_one, Int.toNat_natCast, Int.reduceToNat]
  refine cond_dec (fun hlt => ?_) (fun hge => ?_)
  · have hk1 : k < text.length := by omega
    obtain ⟨b1, o1, rfl⟩ := hnt (by intro h; subst h; simp at hk1)
    simp -dsimp (disch := first | omega | rfl | simp only [all_cons, all_nil, plain_w32, plain_w8, plain_w64, plain_ws, plain_int, plain_bool, plain_slice, plain_ptr, plain_map, plain_iface, Bool.and_self]) only [↓pre, ↓pre2, ↓pre3, ↓look_cons, ↓look_bnd, ↓look_bnd0, ↓opd_tmp, ↓opd_const, ↓ite_f, ↓ite_t, ↓reduceIte, post, post2, decide_true, decide_false, opds, Nat.reduceEqDiff, Nat.reduceAdd, Nat.zero_add, Nat.add_zero, Nat.mul_one, Int.toNat_natCast, Int.reduceToNat, (ht.ex hE).at]
    have hset : ∀ x : UInt8, ((xorN s text k ++ List.replicate (text.length - k) 0).map w8).set k (w8 x) = (xorN s text k ++ [x] ++ List.replicate (text.length - (k + 1)) 0).map w8 := fun x => by
      rw [← List.map_set, List.set_append_right _ _ (by rw [xorN_length]; omega), xorN_length, Nat.sub_self, show text.length - k = (text.length - (k + 1)) + 1 by omega, List.replicate_succ]
      simp
    have hx5l : (xorN s text k ++ List.replicate (text.length - k) 0).length = text.length := by simp [xorN_length]; omega
    refine cond_dec (fun hz => ?_) (fun hz => ?_)
    · have hkz : k % 64 = 0 := by omega
      simp -dsimp (disch := first | omega | rfl | simp only [all_cons, all_nil, plain_w32, plain_w8, plain_w64, plain_ws, plain_int, plain_bool, plain_slice, plain_ptr, plain_map, plain_iface, Bool.and_self]) only [↓pre, ↓pre2, ↓pre3, ↓look_cons, ↓look_bnd, ↓look_bnd0, ↓opd_tmp, ↓opd_const, ↓ite_f, ↓ite_t, ↓reduceIte, post, post2, decide_true, decide_false, opds, Nat.reduceEqDiff, Nat.reduceAdd, Nat.zero_add, Nat.add_zero, Nat.mul_one, Int.toNat_natCast, Int.reduceToNat]
      refine lda_cw h3 (by simp [chaUp_length, hsl]) ?_
      simp -dsimp (disch := first | omega | rfl | simp only [all_cons, all_nil, plain_w32, plain_w8, plain_w64, plain_ws, plain_int, plain_bool, plain_slice, plain_ptr, plain_map, plain_iface, Bool.and_self]) only [↓pre, ↓pre2, ↓pre3, ↓look_cons, ↓look_bnd, ↓look_bnd0, ↓opd_tmp, ↓opd_const, ↓ite_f, ↓ite_t, ↓reduceIte, post, post2, decide_true, decide_false, opds, Nat.reduceEqDiff, Nat.reduceAdd, Nat.zero_add, Nat.add_zero, Nat.mul_one, Int.toNat_natCast, Int.reduceToNat]
      refine call_rule (k122 (by rw [chaUp_length, hsl])) ?_
      rintro en w6 ⟨u, rfl, hn6, hx6⟩
      refine ⟨_, rfl, ?_⟩
      have h3' := h3.ex hx6
      have g3 := map_get (show (chaUp s ((k + 63) / 64)).length = 16 by rw [chaUp_length, hsl])
      simp -dsimp (disch := first | omega | rfl | simp only [all_cons, all_nil, plain_w32, plain_w8, plain_w64, plain_ws, plain_int, plain_bool, plain_slice, plain_ptr, plain_map, plain_iface, Bool.and_self]) only [↓pre, ↓pre2, ↓pre3, ↓look_cons, ↓look_bnd, ↓look_bnd0, ↓opd_tmp, ↓opd_const, ↓ite_f, ↓ite_t, ↓reduceIte, post, post2, decide_true, decide_false, opds, Nat.reduceEqDiff, Nat.reduceAdd, Nat.zero_add, Nat.add_zero, Nat.mul_one, Int.toNat_natCast, Int.reduceToNat, words, h3'.cell, g3]
      refine store_rule h3' (by simp [chaUp_length, hsl]) rfl fun w7 hc7 hf7 hs7 => ?_
      rw [← List.map_set, chaUp_up hsl] at hc7
      have e1 : (k + 63) / 64 = k / 64 := by omega
      have e2 : (k + 1 + 63) / 64 = k / 64 + 1 := by omega
      rw [e1] at hn6 hc7
      have hub : ∀ b, u.ownBlock = some b → b ≠ b3 ∧ b ≠ b5 := fun b hb => by have := hn6.from' b hb; have := h3.lt; have := h5.lt; omega
      have hn7 : Bs w7.heap u (chaBlock (chaUp s (k / 64))) := hn6.bs.fr hf7 (fun b hb _ e => (hub b hb).1 e)
      obtain ⟨au, cu, rfl, hcu, hnu⟩ := hn7.parts
      have hbl : (chaBlock (chaUp s (k / 64))).length = 64 := chaBlock_length (by rw [chaUp_length, hsl])
      obtain ⟨b8, o8, rfl⟩ := hnu (by intro h; rw [h] at hbl; cases hbl)
      rw [hbl] at hn7 ⊢
      have hn8 := hn7.at (i := k % 64) (by omega)
      have hm : ((k : Int) % 64).toNat = k % 64 := by omega
      simp -dsimp (disch := first | omega | rfl | simp only [all_cons, all_nil, plain_w32, plain_w8, plain_w64, plain_ws, plain_int, plain_bool, plain_slice, plain_ptr, plain_map, plain_iface, Bool.and_self]) only [↓pre, ↓pre2, ↓pre3, ↓look_cons, ↓look_bnd, ↓look_bnd0, ↓opd_tmp, ↓opd_const, ↓ite_f, ↓ite_t, ↓reduceIte, post, post2, decide_true, decide_false, opds, Nat.reduceEqDiff, Nat.reduceAdd, Nat.zero_add, Nat.add_zero, Nat.mul_one, Int.toNat_natCast, Int.reduceToNat, words, hm, hn8]
      refine store_rule (Cw.fr (M := (· = b3)) (h5.ex hx6) hf7 (fun h => h35 h.symm)) (by rw [List.length_map, hx5l]; exact hk1) rfl fun w8 hc8 hf8 hs8 => ?_
      rw [hset] at hc8
      simp -dsimp (disch := first | omega | rfl | simp only [all_cons, all_nil, plain_w32, plain_w8, plain_w64, plain_ws, plain_int, plain_bool, plain_slice, plain_ptr, plain_map, plain_iface, Bool.and_self]) only [↓pre, ↓pre2, ↓pre3, ↓look_cons, ↓look_bnd, ↓look_bnd0, ↓opd_tmp, ↓opd_const, ↓ite_f, ↓ite_t, ↓reduceIte, post, post2, decide_true, decide_false, opds, Nat.reduceEqDiff, Nat.reduceAdd, Nat.zero_add, Nat.add_zero, Nat.mul_one, Int.toNat_natCast, Int.reduceToNat]
      refine ⟨(k + 1, _), by simp [sub, look, bnd, add_addr]; first | rfl | done, ⟨by simp only; omega, ?_, ?_, ?_, ?_, ?_⟩, by simp only; omega⟩
      · simp only
        rw [e2]
        exact Cw.fr (M := (· = b5)) hc7 hf8 h35
      · simp only
        rw [xorN_succ]
        exact hc8
      · intro _
        simp only
        rw [show (k + 1) / 64 = k / 64 by omega]
        have := Bs.fr (M := (· = b5)) (w := w7) (w' := w8) (v := .slice (some ⟨b8, o8, none⟩) 64 cu) hn7 hf8 (fun b hb _ e => (hub b (by simpa [Value.ownBlock] using hb)).2 e)
        exact this
      · intro b hb
        exact hub b (by simpa [Value.ownBlock] using hb)
      · exact Ex.young (Ex.young (hE.trans hx6) hf7 hb3w) hf8 hb5w
    · have hkz : k % 64 ≠ 0 := by omega
      have hbb := hbv hkz
      obtain ⟨au, cu, rfl, hcu, hnu⟩ := hbb.parts
      have hbl : (chaBlock (chaUp s (k / 64))).length = 64 := chaBlock_length (by rw [chaUp_length, hsl])
      obtain ⟨b8, o8, rfl⟩ := hnu (by intro h; rw [h] at hbl; cases hbl)
      rw [hbl] at hbb hbo ⊢
      have hn8 := hbb.at (i := k % 64) (by omega)
      have hm : ((k : Int) % 64).toNat = k % 64 := by omega
      simp -dsimp (disch := first | omega | rfl | simp only [all_cons, all_nil, plain_w32, plain_w8, plain_w64, plain_ws, plain_int, plain_bool, plain_slice, plain_ptr, plain_map, plain_iface, Bool.and_self]) only [↓pre, ↓pre2, ↓pre3, ↓look_cons, ↓look_bnd, ↓look_bnd0, ↓opd_tmp, ↓opd_const, ↓ite_f, ↓ite_t, ↓reduceIte, post, post2, decide_true, decide_false, opds, Nat.reduceEqDiff, Nat.reduceAdd, Nat.zero_add, Nat.add_zero, Nat.mul_one, Int.toNat_natCast, Int.reduceToNat, words, hm, hn8]
      refine store_rule h5 (by rw [List.length_map, hx5l]; exact hk1) rfl fun w8 hc8 hf8 hs8 => ?_
      rw [hset] at hc8
      simp -dsimp (disch := first | omega | rfl | simp only [all_cons, all_nil, plain_w32, plain_w8, plain_w64, plain_ws, plain_int, plain_bool, plain_slice, plain_ptr, plain_map, plain_iface, Bool.and_self]) only [↓pre, ↓pre2, ↓pre3, ↓look_cons, ↓look_bnd, ↓look_bnd0, ↓opd_tmp, ↓opd_const, ↓ite_f, ↓ite_t, ↓reduceIte, post, post2, decide_true, decide_false, opds, Nat.reduceEqDiff, Nat.reduceAdd, Nat.zero_add, Nat.add_zero, Nat.mul_one, Int.toNat_natCast, Int.reduceToNat]
      refine ⟨(k + 1, _), by simp [sub, look, bnd, add_addr]; first | rfl | done, ⟨by simp only; omega, ?_, ?_, ?_, ?_, ?_⟩, by simp only; omega⟩
      · simp only
        rw [show (k + 1 + 63) / 64 = (k + 63) / 64 by omega]
        exact Cw.fr (M := (· = b5)) h3 hf8 h35
      · simp only
        rw [xorN_succ]
        exact hc8
      · intro h
        simp only at h ⊢
        rw [show (k + 1) / 64 = k / 64 by omega]
        exact hbb.fr hf8 (fun b hb _ e => (hbo b hb).2 e)
      · exact hbo
      · exact Ex.young hE hf8 hb5w
  · have hk2 : k = text.length := by omega
    subst hk2
    simp -dsimp (disch := first | omega | rfl | simp only [all_cons, all_nil, plain_w32, plain_w8, plain_w64, plain_ws, plain_int, plain_bool, plain_slice, plain_ptr, plain_map, plain_iface, Bool.and_self]) only [↓pre, ↓pre2, ↓pre3, ↓look_cons, ↓look_bnd, ↓look_bnd0, ↓opd_tmp, ↓opd_const, ↓ite_f, ↓ite_t, ↓reduceIte, post, post2, decide_true, decide_false, opds, Nat.reduceEqDiff, Nat.reduceAdd, Nat.zero_add, Nat.add_zero, Nat.mul_one, Int.toNat_natCast, Int.reduceToNat]
    rw [Nat.sub_self, List.replicate_zero, List.append_nil] at h5
    exact ⟨_, rfl, Cw.new h5 hb5w (xorN_length _ _ _).symm, hE⟩
attribute [irreducible] chaX chaB
end Go.Lk
