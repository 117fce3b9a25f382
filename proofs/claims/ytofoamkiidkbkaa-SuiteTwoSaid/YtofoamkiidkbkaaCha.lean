/- ChaCha20: what its functions compute. No statement of the seat is proved in this text. -/
import Derived.Test.YtofoamkiidkbkaaMac
import Derived.Test.YtofoamkiidkbkaaFCha
set_option linter.unusedSimpArgs false
set_option linter.unusedVariables false
set_option linter.unusedSectionVars false
set_option linter.unnecessarySimpa false
set_option maxRecDepth 10000
namespace Go.Lk

/-- four bytes, the lowest first -/
def le32 (l : List UInt8) : BitVec 32 := bw l 0 ||| bw l 1 <<< 8 ||| bw l 2 <<< 16 ||| bw l 3 <<< 24

theorem k138 {w : World} {v : Value} {l : List UInt8} (hb : Bs w.heap v l) (hl : 4 ≤ l.length) :
    Calls Go.Proofs.Try.prog 138 #[v] w fun e w' => e = .returned (w32 (le32 l)) ∧ Ex w w' := by
  obtain ⟨a, c, rfl, hc, hne⟩ := hb.parts
  obtain ⟨b0, o0, rfl⟩ := hne (by intro h; subst h; simp at hl)
  refine enter mo (args := [.slice (some ⟨b0, o0, none⟩) l.length c]) Go.Proofs.Try.func138 c138 (by simp [x138]) ?_
  simp only [x138, env0]
  simp -dsimp (disch := first | omega | rfl | simp only [all_cons, all_nil, plain_w32, plain_w8, plain_w64, plain_ws, plain_int, plain_bool, plain_slice, plain_ptr, plain_map, plain_iface, Bool.and_self]) only [↓pre, ↓pre2, ↓pre3, ↓look_cons, ↓look_bnd, ↓look_bnd0, ↓opd_tmp, ↓opd_const, ↓ite_f, ↓ite_t, ↓reduceIte, post, post2, decide_true, decide_false, opds, Nat.reduceEqDiff, Nat.reduceAdd, Nat.zero_add, Nat.add_zero, Nat.mul_one, Int.toNat_natCast, Int.reduceToNat]
  refine par_ex ?_
  have hb' : Bs w.drew.heap _ l := hb
  have h0 := hb'.at (i := 0) (by omega)
  rw [Nat.add_zero] at h0
  simp -dsimp (disch := first | omega | rfl | simp only [all_cons, all_nil, plain_w32, plain_w8, plain_w64, plain_ws, plain_int, plain_bool, plain_slice, plain_ptr, plain_map, plain_iface, Bool.and_self]) only [↓pre, ↓pre2, ↓pre3, ↓look_cons, ↓look_bnd, ↓look_bnd0, ↓opd_tmp, ↓opd_const, ↓ite_f, ↓ite_t, ↓reduceIte, post, post2, decide_true, decide_false, opds, Nat.reduceEqDiff, Nat.reduceAdd, Nat.zero_add, Nat.add_zero, Nat.mul_one, Int.toNat_natCast, Int.reduceToNat, words, hb'.at, h0]
  exact ⟨rfl, (Fr.refl w).drew⟩

/-- turned left -/
def rl (x : BitVec 32) (n : Nat) : BitVec 32 := x <<< n ||| x >>> (32 - n)
theorem turn_left : ∀ n : Nat, n < 32 → (BitVec.ofInt 64 (n : Int) &&& 31#64).toNat = n ∧ (32#64 - (BitVec.ofInt 64 (n : Int) &&& 31#64)).toNat = 32 - n := by decide
theorem l150 {w : World} (x : BitVec 32) (n : Nat) (hn : n < 32) :
    Calls Go.Proofs.Try.prog 150 #[w32 x, vi n] w fun e w' => e = .returned (w32 (rl x n)) ∧ Ex w w' := by
  refine enter mo (args := [w32 x, vi n]) Go.Proofs.Try.func150 c150 (by simp [x150]) ?_
  simp only [x150, env0]
  simp -dsimp (disch := first | omega | rfl | simp only [all_cons, all_nil, plain_w32, plain_w8, plain_w64, plain_ws, plain_int, plain_bool, plain_slice, plain_ptr, plain_map, plain_iface, Bool.and_self]) only [↓pre, ↓pre2, ↓pre3, ↓look_cons, ↓look_bnd, ↓look_bnd0, ↓opd_tmp, ↓opd_const, ↓ite_f, ↓ite_t, ↓reduceIte, post, post2, decide_true, decide_false, opds, Nat.reduceEqDiff, Nat.reduceAdd, Nat.zero_add, Nat.add_zero, Nat.mul_one, Int.toNat_natCast, Int.reduceToNat, words]
  obtain ⟨h1, h2⟩ := turn_left n hn
  rw [h1, h2]
  exact ⟨rfl, Fr.refl w⟩

def qAdd (s : List (BitVec 32)) (a b : Nat) : List (BitVec 32) := s.set a (s.getD a 0 + s.getD b 0)
def qRot (s : List (BitVec 32)) (d a n : Nat) : List (BitVec 32) := s.set d (rl (s.getD d 0 ^^^ s.getD a 0) n)
/-- a quarter round -/
def quarter (s : List (BitVec 32)) (a b c d : Nat) : List (BitVec 32) :=
  qRot (qAdd (qRot (qAdd (qRot (qAdd (qRot (qAdd s a b) d a 16) c d) b c 12) a b) d a 8) c d) b c 7
theorem quarter_length (s : List (BitVec 32)) (a b c d : Nat) : (quarter s a b c d).length = s.length := by simp [quarter, qAdd, qRot]

theorem k139 {w : World} {b0 : Nat} {s : List (BitVec 32)} (a b c d : Nat) (hc : Cw w.heap b0 (s.map w32)) (hs : s.length = 16) (ha : a < 16) (hb : b < 16) (hcc : c < 16) (hd : d < 16)
    {za zb zc zd : Int} (ea : za = a) (eb : zb = b) (ec : zc = c) (ed : zd = d) :
    Calls Go.Proofs.Try.prog 139 #[.pointer (some ⟨b0, 0, none⟩), vi za, vi zb, vi zc, vi zd] w fun e w' => e = .returned (.tuple #[]) ∧ Cw w'.heap b0 ((quarter s a b c d).map w32) ∧ Fr (· = b0) w w' := by
  subst ea eb ec ed
  refine enter mo (args := [.pointer (some ⟨b0, 0, none⟩), vi a, vi b, vi c, vi d]) Go.Proofs.Try.func139 c139 (by simp [x139]) ?_
  simp only [x139, env0]
  obtain ⟨v0, hv0⟩ : ∃ v0, v0 = w := ⟨w, rfl⟩
  let s0 := s
  have C0 : Cw v0.heap b0 (s0.map w32) := by rw [hv0]; exact hc
  have hE0 : Fr (· = b0) w v0 := by rw [hv0]; exact Fr.refl w
  rw [← hv0]
  simp -dsimp (disch := first | omega | rfl | simp only [all_cons, all_nil, plain_w32, plain_w8, plain_w64, plain_ws, plain_int, plain_bool, plain_slice, plain_ptr, plain_map, plain_iface, Bool.and_self]) only [↓pre, ↓pre2, ↓pre3, ↓look_cons, ↓look_bnd, ↓look_bnd0, ↓opd_tmp, ↓opd_const, ↓ite_f, ↓ite_t, ↓reduceIte, post, post2, decide_true, decide_false, opds, Nat.reduceEqDiff, Nat.reduceAdd, Nat.zero_add, Nat.add_zero, Nat.mul_one, Int.toNat_natCast, Int.reduceToNat]
  refine par_ex ?_
  have C0' : Cw v0.drew.heap b0 _ := C0
  have hl0 : s0.length = 16 := by first | exact hs | (show (List.set _ _ _).length = 16; rw [List.length_set]; assumption)
  have g0 := map_get hl0
  simp -dsimp (disch := first | omega | rfl | simp only [all_cons, all_nil, plain_w32, plain_w8, plain_w64, plain_ws, plain_int, plain_bool, plain_slice, plain_ptr, plain_map, plain_iface, Bool.and_self]) only [↓pre, ↓pre2, ↓pre3, ↓look_cons, ↓look_bnd, ↓look_bnd0, ↓opd_tmp, ↓opd_const, ↓ite_f, ↓ite_t, ↓reduceIte, post, post2, decide_true, decide_false, opds, Nat.reduceEqDiff, Nat.reduceAdd, Nat.zero_add, Nat.add_zero, Nat.mul_one, Int.toNat_natCast, Int.reduceToNat, words, C0'.cell, g0]
  refine store_rule C0' (by simp [hl0]; omega) rfl fun v1 C1 hf1 hs1 => ?_
  rw [← List.map_set] at C1
  let s1 := qAdd s0 a b
  have C1 : Cw v1.heap b0 (s1.map w32) := C1
  have hE1 : Fr (· = b0) w v1 := (hE0.drew).trans hf1
  simp -dsimp (disch := first | omega | rfl | simp only [all_cons, all_nil, plain_w32, plain_w8, plain_w64, plain_ws, plain_int, plain_bool, plain_slice, plain_ptr, plain_map, plain_iface, Bool.and_self]) only [↓pre, ↓pre2, ↓pre3, ↓look_cons, ↓look_bnd, ↓look_bnd0, ↓opd_tmp, ↓opd_const, ↓ite_f, ↓ite_t, ↓reduceIte, post, post2, decide_true, decide_false, opds, Nat.reduceEqDiff, Nat.reduceAdd, Nat.zero_add, Nat.add_zero, Nat.mul_one, Int.toNat_natCast, Int.reduceToNat]
  refine par_ex ?_
  have C1' : Cw v1.drew.heap b0 _ := C1
  have hl1 : s1.length = 16 := by first | exact hs | (show (List.set _ _ _).length = 16; rw [List.length_set]; assumption)
  have g1 := map_get hl1
  simp -dsimp (disch := first | omega | rfl | simp only [all_cons, all_nil, plain_w32, plain_w8, plain_w64, plain_ws, plain_int, plain_bool, plain_slice, plain_ptr, plain_map, plain_iface, Bool.and_self]) only [↓pre, ↓pre2, ↓pre3, ↓look_cons, ↓look_bnd, ↓look_bnd0, ↓opd_tmp, ↓opd_const, ↓ite_f, ↓ite_t, ↓reduceIte, post, post2, decide_true, decide_false, opds, Nat.reduceEqDiff, Nat.reduceAdd, Nat.zero_add, Nat.add_zero, Nat.mul_one, Int.toNat_natCast, Int.reduceToNat, words, C1'.cell, g1]
  refine call_rule (l150 _ 16 (by omega)) ?_
  rintro en u1 ⟨rfl, hx1⟩
  refine ⟨_, rfl, ?_⟩
  simp -dsimp (disch := first | omega | rfl | simp only [all_cons, all_nil, plain_w32, plain_w8, plain_w64, plain_ws, plain_int, plain_bool, plain_slice, plain_ptr, plain_map, plain_iface, Bool.and_self]) only [↓pre, ↓pre2, ↓pre3, ↓look_cons, ↓look_bnd, ↓look_bnd0, ↓opd_tmp, ↓opd_const, ↓ite_f, ↓ite_t, ↓reduceIte, post, post2, decide_true, decide_false, opds, Nat.reduceEqDiff, Nat.reduceAdd, Nat.zero_add, Nat.add_zero, Nat.mul_one, Int.toNat_natCast, Int.reduceToNat]
  refine store_rule (C1'.ex hx1) (by simp [hl1]; omega) rfl fun v2 C2 hf2 hs2 => ?_
  rw [← List.map_set] at C2
  let s2 := qRot s1 d a 16
  have C2 : Cw v2.heap b0 (s2.map w32) := C2
  have hE2 : Fr (· = b0) w v2 := ((hE1.drew).trans hx1.to).trans hf2
  simp -dsimp (disch := first | omega | rfl | simp only [all_cons, all_nil, plain_w32, plain_w8, plain_w64, plain_ws, plain_int, plain_bool, plain_slice, plain_ptr, plain_map, plain_iface, Bool.and_self]) only [↓pre, ↓pre2, ↓pre3, ↓look_cons, ↓look_bnd, ↓look_bnd0, ↓opd_tmp, ↓opd_const, ↓ite_f, ↓ite_t, ↓reduceIte, post, post2, decide_true, decide_false, opds, Nat.reduceEqDiff, Nat.reduceAdd, Nat.zero_add, Nat.add_zero, Nat.mul_one, Int.toNat_natCast, Int.reduceToNat]
  refine par_ex ?_
  have C2' : Cw v2.drew.heap b0 _ := C2
  have hl2 : s2.length = 16 := by first | exact hs | (show (List.set _ _ _).length = 16; rw [List.length_set]; assumption)
  have g2 := map_get hl2
  simp -dsimp (disch := first | omega | rfl | simp only [all_cons, all_nil, plain_w32, plain_w8, plain_w64, plain_ws, plain_int, plain_bool, plain_slice, plain_ptr, plain_map, plain_iface, Bool.and_self]) only [↓pre, ↓pre2, ↓pre3, ↓look_cons, ↓look_bnd, ↓look_bnd0, ↓opd_tmp, ↓opd_const, ↓ite_f, ↓ite_t, ↓reduceIte, post, post2, decide_true, decide_false, opds, Nat.reduceEqDiff, Nat.reduceAdd, Nat.zero_add, Nat.add_zero, Nat.mul_one, Int.toNat_natCast, Int.reduceToNat, words, C2'.cell, g2]
  refine store_rule C2' (by simp [hl2]; omega) rfl fun v3 C3 hf3 hs3 => ?_
  rw [← List.map_set] at C3
  let s3 := qAdd s2 c d
  have C3 : Cw v3.heap b0 (s3.map w32) := C3
  have hE3 : Fr (· = b0) w v3 := (hE2.drew).trans hf3
  simp -dsimp (disch := first | omega | rfl | simp only [all_cons, all_nil, plain_w32, plain_w8, plain_w64, plain_ws, plain_int, plain_bool, plain_slice, plain_ptr, plain_map, plain_iface, Bool.and_self]) only [↓pre, ↓pre2, ↓pre3, ↓look_cons, ↓look_bnd, ↓look_bnd0, ↓opd_tmp, ↓opd_const, ↓ite_f, ↓ite_t, ↓reduceIte, post, post2, decide_true, decide_false, opds, Nat.reduceEqDiff, Nat.reduceAdd, Nat.zero_add, Nat.add_zero, Nat.mul_one, Int.toNat_natCast, Int.reduceToNat]
  refine par_ex ?_
  have C3' : Cw v3.drew.heap b0 _ := C3
  have hl3 : s3.length = 16 := by first | exact hs | (show (List.set _ _ _).length = 16; rw [List.length_set]; assumption)
  have g3 := map_get hl3
  simp -dsimp (disch := first | omega | rfl | simp only [all_cons, all_nil, plain_w32, plain_w8, plain_w64, plain_ws, plain_int, plain_bool, plain_slice, plain_ptr, plain_map, plain_iface, Bool.and_self]) only [↓pre, ↓pre2, ↓pre3, ↓look_cons, ↓look_bnd, ↓look_bnd0, ↓opd_tmp, ↓opd_const, ↓ite_f, ↓ite_t, ↓reduceIte, post, post2, decide_true, decide_false, opds, Nat.reduceEqDiff, Nat.reduceAdd, Nat.zero_add, Nat.add_zero, Nat.mul_one, Int.toNat_natCast, Int.reduceToNat, words, C3'.cell, g3]
  refine call_rule (l150 _ 12 (by omega)) ?_
  rintro en u3 ⟨rfl, hx3⟩
  refine ⟨_, rfl, ?_⟩
  simp -dsimp (disch := first | omega | rfl | simp only [all_cons, all_nil, plain_w32, plain_w8, plain_w64, plain_ws, plain_int, plain_bool, plain_slice, plain_ptr, plain_map, plain_iface, Bool.and_self]) only [↓pre, ↓pre2, ↓pre3, ↓look_cons, ↓look_bnd, ↓look_bnd0, ↓opd_tmp, ↓opd_const, ↓ite_f, ↓ite_t, ↓reduceIte, post, post2, decide_true, decide_false, opds, Nat.reduceEqDiff, Nat.reduceAdd, Nat.zero_add, Nat.add_zero, Nat.mul_one, Int.toNat_natCast, Int.reduceToNat]
  refine store_rule (C3'.ex hx3) (by simp [hl3]; omega) rfl fun v4 C4 hf4 hs4 => ?_
  rw [← List.map_set] at C4
  let s4 := qRot s3 b c 12
  have C4 : Cw v4.heap b0 (s4.map w32) := C4
  have hE4 : Fr (· = b0) w v4 := ((hE3.drew).trans hx3.to).trans hf4
  simp -dsimp (disch := first | omega | rfl | simp only [all_cons, all_nil, plain_w32, plain_w8, plain_w64, plain_ws, plain_int, plain_bool, plain_slice, plain_ptr, plain_map, plain_iface, Bool.and_self]) only [↓pre, ↓pre2, ↓pre3, ↓look_cons, ↓look_bnd, ↓look_bnd0, ↓opd_tmp, ↓opd_const, ↓ite_f, ↓ite_t, ↓reduceIte, post, post2, decide_true, decide_false, opds, Nat.reduceEqDiff, Nat.reduceAdd, Nat.zero_add, Nat.add_zero, Nat.mul_one, Int.toNat_natCast, Int.reduceToNat]
  refine par_ex ?_
  have C4' : Cw v4.drew.heap b0 _ := C4
  have hl4 : s4.length = 16 := by first | exact hs | (show (List.set _ _ _).length = 16; rw [List.length_set]; assumption)
  have g4 := map_get hl4
  simp -dsimp (disch := first | omega | rfl | simp only [all_cons, all_nil, plain_w32, plain_w8, plain_w64, plain_ws, plain_int, plain_bool, plain_slice, plain_ptr, plain_map, plain_iface, Bool.and_self]) only [↓pre, ↓pre2, ↓pre3, ↓look_cons, ↓look_bnd, ↓look_bnd0, ↓opd_tmp, ↓opd_const, ↓ite_f, ↓ite_t, ↓reduceIte, post, post2, decide_true, decide_false, opds, Nat.reduceEqDiff, Nat.reduceAdd, Nat.zero_add, Nat.add_zero, Nat.mul_one, Int.toNat_natCast, Int.reduceToNat, words, C4'.cell, g4]
  refine store_rule C4' (by simp [hl4]; omega) rfl fun v5 C5 hf5 hs5 => ?_
  rw [← List.map_set] at C5
  let s5 := qAdd s4 a b
  have C5 : Cw v5.heap b0 (s5.map w32) := C5
  have hE5 : Fr (· = b0) w v5 := (hE4.drew).trans hf5
  simp -dsimp (disch := first | omega | rfl | simp only [all_cons, all_nil, plain_w32, plain_w8, plain_w64, plain_ws, plain_int, plain_bool, plain_slice, plain_ptr, plain_map, plain_iface, Bool.and_self]) only [↓pre, ↓pre2, ↓pre3, ↓look_cons, ↓look_bnd, ↓look_bnd0, ↓opd_tmp, ↓opd_const, ↓ite_f, ↓ite_t, ↓reduceIte, post, post2, decide_true, decide_false, opds, Nat.reduceEqDiff, Nat.reduceAdd, Nat.zero_add, Nat.add_zero, Nat.mul_one, Int.toNat_natCast, Int.reduceToNat]
  refine par_ex ?_
  have C5' : Cw v5.drew.heap b0 _ := C5
  have hl5 : s5.length = 16 := by first | exact hs | (show (List.set _ _ _).length = 16; rw [List.length_set]; assumption)
  have g5 := map_get hl5
  simp -dsimp (disch := first | omega | rfl | simp only [all_cons, all_nil, plain_w32, plain_w8, plain_w64, plain_ws, plain_int, plain_bool, plain_slice, plain_ptr, plain_map, plain_iface, Bool.and_self]) only [↓pre, ↓pre2, ↓pre3, ↓look_cons, ↓look_bnd, ↓look_bnd0, ↓opd_tmp, ↓opd_const, ↓ite_f, ↓ite_t, ↓reduceIte, post, post2, decide_true, decide_false, opds, Nat.reduceEqDiff, Nat.reduceAdd, Nat.zero_add, Nat.add_zero, Nat.mul_one, Int.toNat_natCast, Int.reduceToNat, words, C5'.cell, g5]
  refine call_rule (l150 _ 8 (by omega)) ?_
  rintro en u5 ⟨rfl, hx5⟩
  refine ⟨_, rfl, ?_⟩
  simp -dsimp (disch := first | omega | rfl | simp only [all_cons, all_nil, plain_w32, plain_w8, plain_w64, plain_ws, plain_int, plain_bool, plain_slice, plain_ptr, plain_map, plain_iface, Bool.and_self]) only [↓pre, ↓pre2, ↓pre3, ↓look_cons, ↓look_bnd, ↓look_bnd0, ↓opd_tmp, ↓opd_const, ↓ite_f, ↓ite_t, ↓reduceIte, post, post2, decide_true, decide_false, opds, Nat.reduceEqDiff, Nat.reduceAdd, Nat.zero_add, Nat.add_zero, Nat.mul_one, Int.toNat_natCast, Int.reduceToNat]
  refine store_rule (C5'.ex hx5) (by simp [hl5]; omega) rfl fun v6 C6 hf6 hs6 => ?_
  rw [← List.map_set] at C6
  let s6 := qRot s5 d a 8
  have C6 : Cw v6.heap b0 (s6.map w32) := C6
  have hE6 : Fr (· = b0) w v6 := ((hE5.drew).trans hx5.to).trans hf6
  simp -dsimp (disch := first | omega | rfl | simp only [all_cons, all_nil, plain_w32, plain_w8, plain_w64, plain_ws, plain_int, plain_bool, plain_slice, plain_ptr, plain_map, plain_iface, Bool.and_self]) only [↓pre, ↓pre2, ↓pre3, ↓look_cons, ↓look_bnd, ↓look_bnd0, ↓opd_tmp, ↓opd_const, ↓ite_f, ↓ite_t, ↓reduceIte, post, post2, decide_true, decide_false, opds, Nat.reduceEqDiff, Nat.reduceAdd, Nat.zero_add, Nat.add_zero, Nat.mul_one, Int.toNat_natCast, Int.reduceToNat]
  refine par_ex ?_
  have C6' : Cw v6.drew.heap b0 _ := C6
  have hl6 : s6.length = 16 := by first | exact hs | (show (List.set _ _ _).length = 16; rw [List.length_set]; assumption)
  have g6 := map_get hl6
  simp -dsimp (disch := first | omega | rfl | simp only [all_cons, all_nil, plain_w32, plain_w8, plain_w64, plain_ws, plain_int, plain_bool, plain_slice, plain_ptr, plain_map, plain_iface, Bool.and_self]) only [↓pre, ↓pre2, ↓pre3, ↓look_cons, ↓look_bnd, ↓look_bnd0, ↓opd_tmp, ↓opd_const, ↓ite_f, ↓ite_t, ↓reduceIte, post, post2, decide_true, decide_false, opds, Nat.reduceEqDiff, Nat.reduceAdd, Nat.zero_add, Nat.add_zero, Nat.mul_one, Int.toNat_natCast, Int.reduceToNat, words, C6'.cell, g6]
  refine store_rule C6' (by simp [hl6]; omega) rfl fun v7 C7 hf7 hs7 => ?_
  rw [← List.map_set] at C7
  let s7 := qAdd s6 c d
  have C7 : Cw v7.heap b0 (s7.map w32) := C7
  have hE7 : Fr (· = b0) w v7 := (hE6.drew).trans hf7
  simp -dsimp (disch := first | omega | rfl | simp only [all_cons, all_nil, plain_w32, plain_w8, plain_w64, plain_ws, plain_int, plain_bool, plain_slice, plain_ptr, plain_map, plain_iface, Bool.and_self]) only [↓pre, ↓pre2, ↓pre3, ↓look_cons, ↓look_bnd, ↓look_bnd0, ↓opd_tmp, ↓opd_const, ↓ite_f, ↓ite_t, ↓reduceIte, post, post2, decide_true, decide_false, opds, Nat.reduceEqDiff, Nat.reduceAdd, Nat.zero_add, Nat.add_zero, Nat.mul_one, Int.toNat_natCast, Int.reduceToNat]
  refine par_ex ?_
  have C7' : Cw v7.drew.heap b0 _ := C7
  have hl7 : s7.length = 16 := by first | exact hs | (show (List.set _ _ _).length = 16; rw [List.length_set]; assumption)
  have g7 := map_get hl7
  simp -dsimp (disch := first | omega | rfl | simp only [all_cons, all_nil, plain_w32, plain_w8, plain_w64, plain_ws, plain_int, plain_bool, plain_slice, plain_ptr, plain_map, plain_iface, Bool.and_self]) only [↓pre, ↓pre2, ↓pre3, ↓look_cons, ↓look_bnd, ↓look_bnd0, ↓opd_tmp, ↓opd_const, ↓ite_f, ↓ite_t, ↓reduceIte, post, post2, decide_true, decide_false, opds, Nat.reduceEqDiff, Nat.reduceAdd, Nat.zero_add, Nat.add_zero, Nat.mul_one, Int.toNat_natCast, Int.reduceToNat, words, C7'.cell, g7]
  refine call_rule (l150 _ 7 (by omega)) ?_
  rintro en u7 ⟨rfl, hx7⟩
  refine ⟨_, rfl, ?_⟩
  simp -dsimp (disch := first | omega | rfl | simp only [all_cons, all_nil, plain_w32, plain_w8, plain_w64, plain_ws, plain_int, plain_bool, plain_slice, plain_ptr, plain_map, plain_iface, Bool.and_self]) only [↓pre, ↓pre2, ↓pre3, ↓look_cons, ↓look_bnd, ↓look_bnd0, ↓opd_tmp, ↓opd_const, ↓ite_f, ↓ite_t, ↓reduceIte, post, post2, decide_true, decide_false, opds, Nat.reduceEqDiff, Nat.reduceAdd, Nat.zero_add, Nat.add_zero, Nat.mul_one, Int.toNat_natCast, Int.reduceToNat]
  refine store_rule (C7'.ex hx7) (by simp [hl7]; omega) rfl fun v8 C8 hf8 hs8 => ?_
  rw [← List.map_set] at C8
  let s8 := qRot s7 b c 7
  have C8 : Cw v8.heap b0 (s8.map w32) := C8
  have hE8 : Fr (· = b0) w v8 := ((hE7.drew).trans hx7.to).trans hf8
  simp -dsimp (disch := first | omega | rfl | simp only [all_cons, all_nil, plain_w32, plain_w8, plain_w64, plain_ws, plain_int, plain_bool, plain_slice, plain_ptr, plain_map, plain_iface, Bool.and_self]) only [↓pre, ↓pre2, ↓pre3, ↓look_cons, ↓look_bnd, ↓look_bnd0, ↓opd_tmp, ↓opd_const, ↓ite_f, ↓ite_t, ↓reduceIte, post, post2, decide_true, decide_false, opds, Nat.reduceEqDiff, Nat.reduceAdd, Nat.zero_add, Nat.add_zero, Nat.mul_one, Int.toNat_natCast, Int.reduceToNat]
  subst hv0
  exact ⟨trivial, C8, hE8⟩

/-- the words of some bytes, from word i on n of them -/
def words4 (l : List UInt8) (n : Nat) : List (BitVec 32) := (List.range n).map fun i => le32 (l.drop (4 * i))
theorem words4_length (l : List UInt8) (n : Nat) : (words4 l n).length = n := by simp [words4]
theorem words4_succ (l : List UInt8) (n : Nat) : words4 l (n + 1) = words4 l n ++ [le32 (l.drop (4 * n))] := by simp [words4, List.range_succ]
def chaConst : List (BitVec 32) := [1634760805#32, 857760878#32, 2036477234#32, 1797285236#32]
/-- the state at first -/
def chaFirst (key : List UInt8) (counter : Int) (nonce : List UInt8) : List (BitVec 32) := chaConst ++ words4 key 8 ++ [BitVec.ofInt 32 counter] ++ words4 nonce 3
theorem chaFirst_length (k : List UInt8) (c : Int) (n : List UInt8) : (chaFirst k c n).length = 16 := by simp [chaFirst, chaConst, words4_length]

/-- in a row of words, one word more is set -/
theorem set_more {p : List (BitVec 32)} {x : BitVec 32} {n i : Nat} (hi : p.length = i) (hn : i < n) : (p ++ List.replicate (n - i) 0#32).set i x = p ++ [x] ++ List.replicate (n - (i + 1)) 0#32 := by
  rw [List.set_append_right _ _ (by omega), hi, Nat.sub_self, show n - i = (n - (i + 1)) + 1 by omega, List.replicate_succ, List.set_cons_zero]
  simp

theorem k121 {w : World} {kv nv : Value} {key nonce : List UInt8} (counter : Int) (hk : Bs w.heap kv key) (hn : Bs w.heap nv nonce) (hkl : key.length = 32) (hnl : nonce.length = 12) :
    Calls Go.Proofs.Try.prog 121 #[kv, vi counter, nv] w fun e w' => e = .returned (.agg ((chaFirst key counter nonce).map w32).toArray) ∧ Ex w w' := by
  obtain ⟨ak, ck, rfl, hck, _⟩ := hk.parts
  obtain ⟨an, cn, rfl, hcn, _⟩ := hn.parts
  rw [hkl] at hk hck ⊢
  rw [hnl] at hn hcn ⊢
  refine enter mo (args := [.slice ak 32 ck, vi counter, .slice an 12 cn]) Go.Proofs.Try.func121 c121 (by simp [x121]) ?_
  simp only [x121, env0]
  simp -dsimp (disch := first | omega | rfl | simp only [all_cons, all_nil, plain_w32, plain_w8, plain_w64, plain_ws, plain_int, plain_bool, plain_slice, plain_ptr, plain_map, plain_iface, Bool.and_self]) only [↓pre, ↓pre2, ↓pre3, ↓look_cons, ↓look_bnd, ↓look_bnd0, ↓opd_tmp, ↓opd_const, ↓ite_f, ↓ite_t, ↓reduceIte, post, post2, decide_true, decide_false, opds, Nat.reduceEqDiff, Nat.reduceAdd, Nat.zero_add, Nat.add_zero, Nat.mul_one, Int.toNat_natCast, Int.reduceToNat]
  refine alloc_rule (z := (List.replicate 16 (0#32)).map w32) (by kernel_rfl) fun b6 w1 hb6 hc6 he1 hs1 => ?_
  simp -dsimp (disch := first | omega | rfl | simp only [all_cons, all_nil, plain_w32, plain_w8, plain_w64, plain_ws, plain_int, plain_bool, plain_slice, plain_ptr, plain_map, plain_iface, Bool.and_self]) only [↓pre, ↓pre2, ↓pre3, ↓look_cons, ↓look_bnd, ↓look_bnd0, ↓opd_tmp, ↓opd_const, ↓ite_f, ↓ite_t, ↓reduceIte, post, post2, decide_true, decide_false, opds, Nat.reduceEqDiff, Nat.reduceAdd, Nat.zero_add, Nat.add_zero, Nat.mul_one, Int.toNat_natCast, Int.reduceToNat]
  refine alloc_rule (z := (List.replicate 16 (0#32)).map w32) (by kernel_rfl) fun b7 w2 hb7 hc7 he2 hs2 => ?_
  simp -dsimp (disch := first | omega | rfl | simp only [all_cons, all_nil, plain_w32, plain_w8, plain_w64, plain_ws, plain_int, plain_bool, plain_slice, plain_ptr, plain_map, plain_iface, Bool.and_self]) only [↓pre, ↓pre2, ↓pre3, ↓look_cons, ↓look_bnd, ↓look_bnd0, ↓opd_tmp, ↓opd_const, ↓ite_f, ↓ite_t, ↓reduceIte, post, post2, decide_true, decide_false, opds, Nat.reduceEqDiff, Nat.reduceAdd, Nat.zero_add, Nat.add_zero, Nat.mul_one, Int.toNat_natCast, Int.reduceToNat]
  refine stores_all (cs := (chaConst ++ words4 key 0 ++ List.replicate (16 - 4) (0#32)).map w32) hc7 rfl rfl rfl (by simp [plain_w32]) fun w3 hc3 hf3 hs3 => ?_
  have hE3 : Ex w w3 := Ex.young (he1.trans he2) hf3 (by have := he1.size; omega)
  have h67 : b6 ≠ b7 := by omega
  have hC6 : Cw w3.heap b6 _ := Cw.fr (M := (· = b7)) (hc6.ex he2) hf3 h67
  have hb6w : w.heap.size ≤ b6 := by omega
  have hb7w : w.heap.size ≤ b7 := by have := he1.size; omega
  simp -dsimp (disch := first | omega | rfl | simp only [all_cons, all_nil, plain_w32, plain_w8, plain_w64, plain_ws, plain_int, plain_bool, plain_slice, plain_ptr, plain_map, plain_iface, Bool.and_self]) only [↓pre, ↓pre2, ↓pre3, ↓look_cons, ↓look_bnd, ↓look_bnd0, ↓opd_tmp, ↓opd_const, ↓ite_f, ↓ite_t, ↓reduceIte, post, post2, decide_true, decide_false, opds, Nat.reduceEqDiff, Nat.reduceAdd, Nat.zero_add, Nat.add_zero, Nat.mul_one, Int.toNat_natCast, Int.reduceToNat]
  refine loop_rule (fun k : Nat => [(11, vi k), (7, .pointer (some ⟨b7, 0, none⟩)), (6, .pointer (some ⟨b6, 0, none⟩)), (0, .slice ak 32 ck), (1, vi counter), (2, .slice an 12 cn)])
    (fun k v => k ≤ 8 ∧ Cw v.heap b7 ((chaConst ++ words4 key k ++ List.replicate (16 - (4 + k)) (0#32)).map w32) ∧ Cw v.heap b6 ((List.replicate 16 (0#32)).map w32) ∧ Ex w v) (fun k => 8 - k) 0 (by simp [sub, look, bnd, add_addr]) ⟨by omega, hc3, hC6, hE3⟩ ?_
  rintro k v ⟨hk8, h7, h6, hE⟩
  simp -dsimp (disch := first | omega | rfl | simp only [all_cons, all_nil, plain_w32, plain_w8, plain_w64, plain_ws, plain_int, plain_bool, plain_slice, plain_ptr, plain_map, plain_iface, Bool.and_self]) only [↓pre, ↓pre2, ↓pre3, ↓look_cons, ↓look_bnd, ↓look_bnd0, ↓opd_tmp, ↓opd_const, ↓ite_f, ↓ite_t, ↓reduceIte, post, post2, decide_true, decide_false, opds, Nat.reduceEqDiff, Nat.reduceAdd, Nat.zero_add, Nat.add_zero, Nat.mul_one, Int.toNat_natCast, Int.reduceToNat]
  refine cond_dec (fun hlt => ?_) (fun hge => ?_)
  · simp -dsimp (disch := first | omega | rfl | simp only [all_cons, all_nil, plain_w32, plain_w8, plain_w64, plain_ws, plain_int, plain_bool, plain_slice, plain_ptr, plain_map, plain_iface, Bool.and_self]) only [↓pre, ↓pre2, ↓pre3, ↓look_cons, ↓look_bnd, ↓look_bnd0, ↓opd_tmp, ↓opd_const, ↓ite_f, ↓ite_t, ↓reduceIte, post, post2, decide_true, decide_false, opds, Nat.reduceEqDiff, Nat.reduceAdd, Nat.zero_add, Nat.add_zero, Nat.mul_one, Int.toNat_natCast, Int.reduceToNat]
    refine sl_rule (m := ck) (h := 32) (l := 4 * k) rfl rfl (by rw [bnd_ok (i := 4 * (k : Int)) rfl (by omega) (by omega)]; first | rfl | (congr 1; done) | (congr 1; omega)) ?_
    simp -dsimp (disch := first | omega | rfl | simp only [all_cons, all_nil, plain_w32, plain_w8, plain_w64, plain_ws, plain_int, plain_bool, plain_slice, plain_ptr, plain_map, plain_iface, Bool.and_self]) only [↓pre, ↓pre2, ↓pre3, ↓look_cons, ↓look_bnd, ↓look_bnd0, ↓opd_tmp, ↓opd_const, ↓ite_f, ↓ite_t, ↓reduceIte, post, post2, decide_true, decide_false, opds, Nat.reduceEqDiff, Nat.reduceAdd, Nat.zero_add, Nat.add_zero, Nat.mul_one, Int.toNat_natCast, Int.reduceToNat]
    have hcut := hk.cut (lo := 4 * k) (hi := 32) (m := ck) (by omega) (by omega) hck
    rw [List.take_of_length_le (by omega)] at hcut
    refine call_rule (k138 (hcut.ex hE) (by simp; omega)) ?_
    rintro en w4 ⟨rfl, hx4⟩
    refine ⟨_, rfl, ?_⟩
    simp -dsimp (disch := first | omega | rfl | simp only [all_cons, all_nil, plain_w32, plain_w8, plain_w64, plain_ws, plain_int, plain_bool, plain_slice, plain_ptr, plain_map, plain_iface, Bool.and_self]) only [↓pre, ↓pre2, ↓pre3, ↓look_cons, ↓look_bnd, ↓look_bnd0, ↓opd_tmp, ↓opd_const, ↓ite_f, ↓ite_t, ↓reduceIte, post, post2, decide_true, decide_false, opds, Nat.reduceEqDiff, Nat.reduceAdd, Nat.zero_add, Nat.add_zero, Nat.mul_one, Int.toNat_natCast, Int.reduceToNat]
    rw [show (4 + (k : Int)).toNat = 4 + k by omega]
    refine store_rule (h7.ex hx4) (by simp [chaConst, words4_length]; omega) rfl fun w5 hc5 hf5 hs5 => ?_
    rw [← List.map_set, set_more (by simp [chaConst, words4_length]; omega) (by omega)] at hc5
    simp -dsimp (disch := first | omega | rfl | simp only [all_cons, all_nil, plain_w32, plain_w8, plain_w64, plain_ws, plain_int, plain_bool, plain_slice, plain_ptr, plain_map, plain_iface, Bool.and_self]) only [↓pre, ↓pre2, ↓pre3, ↓look_cons, ↓look_bnd, ↓look_bnd0, ↓opd_tmp, ↓opd_const, ↓ite_f, ↓ite_t, ↓reduceIte, post, post2, decide_true, decide_false, opds, Nat.reduceEqDiff, Nat.reduceAdd, Nat.zero_add, Nat.add_zero, Nat.mul_one, Int.toNat_natCast, Int.reduceToNat]
    refine ⟨k + 1, by simp [sub, look, bnd, add_addr], ⟨by omega, ?_, Cw.fr (M := (· = b7)) (h6.ex hx4) hf5 h67, Ex.young (hE.trans hx4) hf5 hb7w⟩, by omega⟩
    rw [words4_succ key k, ← List.append_assoc, show 4 + (k + 1) = 4 + k + 1 by omega]
    exact hc5
  · have hk9 : k = 8 := by omega
    subst hk9
    simp -dsimp (disch := first | omega | rfl | simp only [all_cons, all_nil, plain_w32, plain_w8, plain_w64, plain_ws, plain_int, plain_bool, plain_slice, plain_ptr, plain_map, plain_iface, Bool.and_self]) only [↓pre, ↓pre2, ↓pre3, ↓look_cons, ↓look_bnd, ↓look_bnd0, ↓opd_tmp, ↓opd_const, ↓ite_f, ↓ite_t, ↓reduceIte, post, post2, decide_true, decide_false, opds, Nat.reduceEqDiff, Nat.reduceAdd, Nat.zero_add, Nat.add_zero, Nat.mul_one, Int.toNat_natCast, Int.reduceToNat, words]
    refine store_rule h7 (by simp [chaConst, words4_length]) rfl fun w5 hc5 hf5 hs5 => ?_
    rw [← List.map_set] at hc5
    have e12 : (chaConst ++ words4 key 8 ++ List.replicate (16 - (4 + 8)) 0#32).set 12 (BitVec.ofInt 32 counter) = chaConst ++ words4 key 8 ++ [BitVec.ofInt 32 counter] ++ words4 nonce 0 ++ List.replicate (16 - (13 + 0)) 0#32 := by
      rw [show 16 - (4 + 8) = 16 - 12 by omega, set_more (by simp [chaConst, words4_length]) (by omega)]; simp [words4]
    rw [e12] at hc5
    simp -dsimp (disch := first | omega | rfl | simp only [all_cons, all_nil, plain_w32, plain_w8, plain_w64, plain_ws, plain_int, plain_bool, plain_slice, plain_ptr, plain_map, plain_iface, Bool.and_self]) only [↓pre, ↓pre2, ↓pre3, ↓look_cons, ↓look_bnd, ↓look_bnd0, ↓opd_tmp, ↓opd_const, ↓ite_f, ↓ite_t, ↓reduceIte, post, post2, decide_true, decide_false, opds, Nat.reduceEqDiff, Nat.reduceAdd, Nat.zero_add, Nat.add_zero, Nat.mul_one, Int.toNat_natCast, Int.reduceToNat]
    refine loop_rule (fun k : Nat => [(26, vi k), (7, .pointer (some ⟨b7, 0, none⟩)), (6, .pointer (some ⟨b6, 0, none⟩)), (2, .slice an 12 cn)])
      (fun k v => k ≤ 3 ∧ Cw v.heap b7 ((chaConst ++ words4 key 8 ++ [BitVec.ofInt 32 counter] ++ words4 nonce k ++ List.replicate (16 - (13 + k)) (0#32)).map w32) ∧ Cw v.heap b6 ((List.replicate 16 (0#32)).map w32) ∧ Ex w v) (fun k => 3 - k) 0 (by simp [sub, look, bnd, add_addr])
      ⟨by omega, hc5, Cw.fr (M := (· = b7)) h6 hf5 h67, Ex.young hE hf5 hb7w⟩ ?_
    rintro k v ⟨hk8, h7, h6, hE⟩
    simp -dsimp (disch := first | omega | rfl | simp only [all_cons, all_nil, plain_w32, plain_w8, plain_w64, plain_ws, plain_int, plain_bool, plain_slice, plain_ptr, plain_map, plain_iface, Bool.and_self]) only [↓pre, ↓pre2, ↓pre3, ↓look_cons, ↓look_bnd, ↓look_bnd0, ↓opd_tmp, ↓opd_const, ↓ite_f, ↓ite_t, ↓reduceIte, post, post2, decide_true, decide_false, opds, Nat.reduceEqDiff, Nat.reduceAdd, Nat.zero_add, Nat.add_zero, Nat.mul_one, Int.toNat_natCast, Int.reduceToNat]
    refine cond_dec (fun hlt => ?_) (fun hge => ?_)
    · simp -dsimp (disch := first | omega | rfl | simp only [all_cons, all_nil, plain_w32, plain_w8, plain_w64, plain_ws, plain_int, plain_bool, plain_slice, plain_ptr, plain_map, plain_iface, Bool.and_self]) only [↓pre, ↓pre2, ↓pre3, ↓look_cons, ↓look_bnd, ↓look_bnd0, ↓opd_tmp, ↓opd_const, ↓ite_f, ↓ite_t, ↓reduceIte, post, post2, decide_true, decide_false, opds, Nat.reduceEqDiff, Nat.reduceAdd, Nat.zero_add, Nat.add_zero, Nat.mul_one, Int.toNat_natCast, Int.reduceToNat]
      refine sl_rule (m := cn) (h := 12) (l := 4 * k) rfl rfl (by rw [bnd_ok (i := 4 * (k : Int)) rfl (by omega) (by omega)]; first | rfl | (congr 1; done) | (congr 1; omega)) ?_
      simp -dsimp (disch := first | omega | rfl | simp only [all_cons, all_nil, plain_w32, plain_w8, plain_w64, plain_ws, plain_int, plain_bool, plain_slice, plain_ptr, plain_map, plain_iface, Bool.and_self]) only [↓pre, ↓pre2, ↓pre3, ↓look_cons, ↓look_bnd, ↓look_bnd0, ↓opd_tmp, ↓opd_const, ↓ite_f, ↓ite_t, ↓reduceIte, post, post2, decide_true, decide_false, opds, Nat.reduceEqDiff, Nat.reduceAdd, Nat.zero_add, Nat.add_zero, Nat.mul_one, Int.toNat_natCast, Int.reduceToNat]
      have hcut := hn.cut (lo := 4 * k) (hi := 12) (m := cn) (by omega) (by omega) hcn
      rw [List.take_of_length_le (by omega)] at hcut
      refine call_rule (k138 (hcut.ex hE) (by simp; omega)) ?_
      rintro en w4 ⟨rfl, hx4⟩
      refine ⟨_, rfl, ?_⟩
      simp -dsimp (disch := first | omega | rfl | simp only [all_cons, all_nil, plain_w32, plain_w8, plain_w64, plain_ws, plain_int, plain_bool, plain_slice, plain_ptr, plain_map, plain_iface, Bool.and_self]) only [↓pre, ↓pre2, ↓pre3, ↓look_cons, ↓look_bnd, ↓look_bnd0, ↓opd_tmp, ↓opd_const, ↓ite_f, ↓ite_t, ↓reduceIte, post, post2, decide_true, decide_false, opds, Nat.reduceEqDiff, Nat.reduceAdd, Nat.zero_add, Nat.add_zero, Nat.mul_one, Int.toNat_natCast, Int.reduceToNat]
      rw [show (13 + (k : Int)).toNat = 13 + k by omega]
      refine store_rule (h7.ex hx4) (by simp [chaConst, words4_length]; omega) rfl fun w5 hc5 hf5 hs5 => ?_
      rw [← List.map_set, set_more (by simp [chaConst, words4_length]; omega) (by omega)] at hc5
      simp -dsimp (disch := first | omega | rfl | simp only [all_cons, all_nil, plain_w32, plain_w8, plain_w64, plain_ws, plain_int, plain_bool, plain_slice, plain_ptr, plain_map, plain_iface, Bool.and_self]) only [↓pre, ↓pre2, ↓pre3, ↓look_cons, ↓look_bnd, ↓look_bnd0, ↓opd_tmp, ↓opd_const, ↓ite_f, ↓ite_t, ↓reduceIte, post, post2, decide_true, decide_false, opds, Nat.reduceEqDiff, Nat.reduceAdd, Nat.zero_add, Nat.add_zero, Nat.mul_one, Int.toNat_natCast, Int.reduceToNat]
      refine ⟨k + 1, by simp [sub, look, bnd, add_addr], ⟨by omega, ?_, Cw.fr (M := (· = b7)) (h6.ex hx4) hf5 h67, Ex.young (hE.trans hx4) hf5 hb7w⟩, by omega⟩
      rw [words4_succ nonce k, show 13 + (k + 1) = 13 + k + 1 by omega]
      simpa only [List.append_assoc] using hc5
    · have hk9 : k = 3 := by omega
      subst hk9
      simp -dsimp (disch := first | omega | rfl | simp only [all_cons, all_nil, plain_w32, plain_w8, plain_w64, plain_ws, plain_int, plain_bool, plain_slice, plain_ptr, plain_map, plain_iface, Bool.and_self]) only [↓pre, ↓pre2, ↓pre3, ↓look_cons, ↓look_bnd, ↓look_bnd0, ↓opd_tmp, ↓opd_const, ↓ite_f, ↓ite_t, ↓reduceIte, post, post2, decide_true, decide_false, opds, Nat.reduceEqDiff, Nat.reduceAdd, Nat.zero_add, Nat.add_zero, Nat.mul_one, Int.toNat_natCast, Int.reduceToNat]
      have h7' : Cw v.heap b7 ((chaFirst key counter nonce).map w32) := by simpa [chaFirst] using h7
      refine lda_cw h7' (by simp [chaFirst_length]) ?_
      simp -dsimp (disch := first | omega | rfl | simp only [all_cons, all_nil, plain_w32, plain_w8, plain_w64, plain_ws, plain_int, plain_bool, plain_slice, plain_ptr, plain_map, plain_iface, Bool.and_self]) only [↓pre, ↓pre2, ↓pre3, ↓look_cons, ↓look_bnd, ↓look_bnd0, ↓opd_tmp, ↓opd_const, ↓ite_f, ↓ite_t, ↓reduceIte, post, post2, decide_true, decide_false, opds, Nat.reduceEqDiff, Nat.reduceAdd, Nat.zero_add, Nat.add_zero, Nat.mul_one, Int.toNat_natCast, Int.reduceToNat]
      refine stores_all (cs := (chaFirst key counter nonce).map w32) h6 (by simp [Value.cells]) (by simp [chaFirst_length]) (by simp) (by simp [plain_w32]) fun w' h4 h5 h6 => ?_
      simp -dsimp (disch := first | omega | rfl | simp only [all_cons, all_nil, plain_w32, plain_w8, plain_w64, plain_ws, plain_int, plain_bool, plain_slice, plain_ptr, plain_map, plain_iface, Bool.and_self]) only [↓pre, ↓pre2, ↓pre3, ↓look_cons, ↓look_bnd, ↓look_bnd0, ↓opd_tmp, ↓opd_const, ↓ite_f, ↓ite_t, ↓reduceIte, post, post2, decide_true, decide_false, opds, Nat.reduceEqDiff, Nat.reduceAdd, Nat.zero_add, Nat.add_zero, Nat.mul_one, Int.toNat_natCast, Int.reduceToNat]
      exact fin_ca (by simp [look]) h4 (by simp [chaFirst_length]) ⟨rfl, Ex.young hE h5 hb6w⟩

def colN (s : List (BitVec 32)) : Nat → List (BitVec 32)
  | 0 => s
  | k + 1 => quarter (colN s k) k (4 + k) (8 + k) (12 + k)
def diagN (s : List (BitVec 32)) : Nat → List (BitVec 32)
  | 0 => s
  | k + 1 => quarter (diagN s k) k (4 + (k + 1) % 4) (8 + (k + 2) % 4) (12 + (k + 3) % 4)
/-- n double rounds -/
def dbls (s : List (BitVec 32)) : Nat → List (BitVec 32)
  | 0 => s
  | n + 1 => diagN (colN (dbls s n) 4) 4
theorem colN_length (s : List (BitVec 32)) (k : Nat) : (colN s k).length = s.length := by
  induction k with
  | zero => rfl
  | succ k ih => rw [colN, quarter_length, ih]
theorem diagN_length (s : List (BitVec 32)) (k : Nat) : (diagN s k).length = s.length := by
  induction k with
  | zero => rfl
  | succ k ih => rw [diagN, quarter_length, ih]
theorem dbls_length (s : List (BitVec 32)) (k : Nat) : (dbls s k).length = s.length := by
  induction k with
  | zero => rfl
  | succ k ih => rw [dbls, diagN_length, colN_length, ih]
def leBytes (x : BitVec 32) : List UInt8 := [⟨x.setWidth 8⟩, ⟨(x >>> 8).setWidth 8⟩, ⟨(x >>> 16).setWidth 8⟩, ⟨(x >>> 24).setWidth 8⟩]
/-- the block of a state -/
def chaBlock (s : List (BitVec 32)) : List UInt8 := (List.zipWith (· + ·) (dbls s 10) s).flatMap leBytes
theorem flat4' (l : List (BitVec 32)) : (l.flatMap leBytes).length = 4 * l.length := by
  induction l with
  | nil => rfl
  | cons x r ih => simp [ih, leBytes]; omega

theorem k122 {w : World} {s : List (BitVec 32)} (hs : s.length = 16) :
    Calls Go.Proofs.Try.prog 122 #[.agg (s.map w32).toArray] w fun e w' => ∃ u, e = .returned u ∧ New w.heap.size w'.heap u (chaBlock s) ∧ Ex w w' := by
  refine enter mo (args := [.agg (s.map w32).toArray]) Go.Proofs.Try.func122 c122 (by simp [x122]) ?_
  simp only [x122, env0]
  simp -dsimp (disch := first | omega | rfl | simp only [all_cons, all_nil, plain_w32, plain_w8, plain_w64, plain_ws, plain_int, plain_bool, plain_slice, plain_ptr, plain_map, plain_iface, Bool.and_self]) only [↓pre, ↓pre2, ↓pre3, ↓look_cons, ↓look_bnd, ↓look_bnd0, ↓opd_tmp, ↓opd_const, ↓ite_f, ↓ite_t, ↓reduceIte, post, post2, decide_true, decide_false, opds, Nat.reduceEqDiff, Nat.reduceAdd, Nat.zero_add, Nat.add_zero, Nat.mul_one, Int.toNat_natCast, Int.reduceToNat]
  refine box_rule fun b1 w1 hb1 hc1 he1 hs1 => ?_
  have C1 : Cw w1.heap b1 (s.map w32) := by simpa [Value.cells] using hc1
  have hb1w : w.heap.size ≤ b1 := by omega
  simp -dsimp (disch := first | omega | rfl | simp only [all_cons, all_nil, plain_w32, plain_w8, plain_w64, plain_ws, plain_int, plain_bool, plain_slice, plain_ptr, plain_map, plain_iface, Bool.and_self]) only [↓pre, ↓pre2, ↓pre3, ↓look_cons, ↓look_bnd, ↓look_bnd0, ↓opd_tmp, ↓opd_const, ↓ite_f, ↓ite_t, ↓reduceIte, post, post2, decide_true, decide_false, opds, Nat.reduceEqDiff, Nat.reduceAdd, Nat.zero_add, Nat.add_zero, Nat.mul_one, Int.toNat_natCast, Int.reduceToNat]
  refine scope1_rule (fun k : Nat × Nat => [(4, vi k.1), (3, .pointer (some ⟨k.2, 0, none⟩)), (1, .pointer (some ⟨b1, 0, none⟩))])
    (fun k v => k.1 < 10 ∧ b1 ≠ k.2 ∧ w.heap.size ≤ k.2 ∧ Cw v.heap k.2 ((dbls s k.1).map w32) ∧ Cw v.heap b1 (s.map w32) ∧ Ex w v) (fun k => 10 - k.1) ?_ ?_
  · simp -dsimp (disch := first | omega | rfl | simp only [all_cons, all_nil, plain_w32, plain_w8, plain_w64, plain_ws, plain_int, plain_bool, plain_slice, plain_ptr, plain_map, plain_iface, Bool.and_self]) only [↓pre, ↓pre2, ↓pre3, ↓look_cons, ↓look_bnd, ↓look_bnd0, ↓opd_tmp, ↓opd_const, ↓ite_f, ↓ite_t, ↓reduceIte, post, post2, decide_true, decide_false, opds, Nat.reduceEqDiff, Nat.reduceAdd, Nat.zero_add, Nat.add_zero, Nat.mul_one, Int.toNat_natCast, Int.reduceToNat]
    refine lda_cw C1 (by simpa using hs) ?_
    simp -dsimp (disch := first | omega | rfl | simp only [all_cons, all_nil, plain_w32, plain_w8, plain_w64, plain_ws, plain_int, plain_bool, plain_slice, plain_ptr, plain_map, plain_iface, Bool.and_self]) only [↓pre, ↓pre2, ↓pre3, ↓look_cons, ↓look_bnd, ↓look_bnd0, ↓opd_tmp, ↓opd_const, ↓ite_f, ↓ite_t, ↓reduceIte, post, post2, decide_true, decide_false, opds, Nat.reduceEqDiff, Nat.reduceAdd, Nat.zero_add, Nat.add_zero, Nat.mul_one, Int.toNat_natCast, Int.reduceToNat]
    refine alloc_rule (z := (List.replicate 16 (0#32)).map w32) (by kernel_rfl) fun b3 w2 hb3 hc3 he2 hs2 => ?_
    simp -dsimp (disch := first | omega | rfl | simp only [all_cons, all_nil, plain_w32, plain_w8, plain_w64, plain_ws, plain_int, plain_bool, plain_slice, plain_ptr, plain_map, plain_iface, Bool.and_self]) only [↓pre, ↓pre2, ↓pre3, ↓look_cons, ↓look_bnd, ↓look_bnd0, ↓opd_tmp, ↓opd_const, ↓ite_f, ↓ite_t, ↓reduceIte, post, post2, decide_true, decide_false, opds, Nat.reduceEqDiff, Nat.reduceAdd, Nat.zero_add, Nat.add_zero, Nat.mul_one, Int.toNat_natCast, Int.reduceToNat]
    refine stores_all (cs := s.map w32) hc3 (by simp [Value.cells]) (by simpa using hs) (by simp) (by simp [plain_w32]) fun v C3 hf3 hs3 => ?_
    have hb3w : w.heap.size ≤ b3 := by omega
    have hb13 : b1 ≠ b3 := by omega
    have hE : Ex w v := Ex.young (he1.trans he2) hf3 hb3w
    have C1 : Cw v.heap b1 (s.map w32) := Cw.fr (M := (· = b3)) (C1.ex he2) hf3 hb13
    obtain ⟨n, hn⟩ : ∃ n : Nat, n = 0 := ⟨0, rfl⟩
    have C3 : Cw v.heap b3 ((dbls s n).map w32) := by rw [hn]; exact C3
    have l1 : (0 : Int) = n := by rw [hn]; rfl
    have l3 : True := trivial
    have l4 : True := trivial
    simp -dsimp (disch := first | omega | rfl | simp only [all_cons, all_nil, plain_w32, plain_w8, plain_w64, plain_ws, plain_int, plain_bool, plain_slice, plain_ptr, plain_map, plain_iface, Bool.and_self]) only [↓pre, ↓pre2, ↓pre3, ↓look_cons, ↓look_bnd, ↓look_bnd0, ↓opd_tmp, ↓opd_const, ↓ite_f, ↓ite_t, ↓reduceIte, post, post2, decide_true, decide_false, opds, Nat.reduceEqDiff, Nat.reduceAdd, Nat.zero_add, Nat.add_zero, Nat.mul_one, Int.toNat_natCast, Int.reduceToNat]
    refine loop_rule (fun k : Nat => [(11, vi k), (3, .pointer (some ⟨b3, 0, none⟩)), (4, vi n), (1, .pointer (some ⟨b1, 0, none⟩))])
      (fun k v => k ≤ 4 ∧ Cw v.heap b3 ((colN (dbls s n) k).map w32) ∧ Cw v.heap b1 (s.map w32) ∧ Ex w v) (fun k => 4 - k) 0 (by simp [sub, look, bnd, add_addr, l1, l3, l4]) ⟨by omega, C3, C1, hE⟩ ?_
    rintro k v2 ⟨hk, D3, D1, hE2⟩
    simp -dsimp (disch := first | omega | rfl | simp only [all_cons, all_nil, plain_w32, plain_w8, plain_w64, plain_ws, plain_int, plain_bool, plain_slice, plain_ptr, plain_map, plain_iface, Bool.and_self]) only [↓pre, ↓pre2, ↓pre3, ↓look_cons, ↓look_bnd, ↓look_bnd0, ↓opd_tmp, ↓opd_const, ↓ite_f, ↓ite_t, ↓reduceIte, post, post2, decide_true, decide_false, opds, Nat.reduceEqDiff, Nat.reduceAdd, Nat.zero_add, Nat.add_zero, Nat.mul_one, Int.toNat_natCast, Int.reduceToNat]
    refine cond_dec (fun hlt => ?_) (fun hge => ?_)
    · simp -dsimp (disch := first | omega | rfl | simp only [all_cons, all_nil, plain_w32, plain_w8, plain_w64, plain_ws, plain_int, plain_bool, plain_slice, plain_ptr, plain_map, plain_iface, Bool.and_self]) only [↓pre, ↓pre2, ↓pre3, ↓look_cons, ↓look_bnd, ↓look_bnd0, ↓opd_tmp, ↓opd_const, ↓ite_f, ↓ite_t, ↓reduceIte, post, post2, decide_true, decide_false, opds, Nat.reduceEqDiff, Nat.reduceAdd, Nat.zero_add, Nat.add_zero, Nat.mul_one, Int.toNat_natCast, Int.reduceToNat]
      refine call_rule (k139 k (4 + k) (8 + k) (12 + k) D3 (by rw [colN_length, dbls_length, hs]) (by omega) (by omega) (by omega) (by omega) rfl (by omega) (by omega) (by omega)) ?_
      rintro en v3 ⟨rfl, G3, hg⟩
      refine ⟨_, rfl, ?_⟩
      simp -dsimp (disch := first | omega | rfl | simp only [all_cons, all_nil, plain_w32, plain_w8, plain_w64, plain_ws, plain_int, plain_bool, plain_slice, plain_ptr, plain_map, plain_iface, Bool.and_self]) only [↓pre, ↓pre2, ↓pre3, ↓look_cons, ↓look_bnd, ↓look_bnd0, ↓opd_tmp, ↓opd_const, ↓ite_f, ↓ite_t, ↓reduceIte, post, post2, decide_true, decide_false, opds, Nat.reduceEqDiff, Nat.reduceAdd, Nat.zero_add, Nat.add_zero, Nat.mul_one, Int.toNat_natCast, Int.reduceToNat]
      exact ⟨k + 1, by simp [sub, look, bnd, add_addr, bnd], ⟨by omega, G3, Cw.fr (M := (· = b3)) D1 hg hb13, Ex.young hE2 hg hb3w⟩, by omega⟩
    have hk4 : k = 4 := by omega
    subst hk4
    simp -dsimp (disch := first | omega | rfl | simp only [all_cons, all_nil, plain_w32, plain_w8, plain_w64, plain_ws, plain_int, plain_bool, plain_slice, plain_ptr, plain_map, plain_iface, Bool.and_self]) only [↓pre, ↓pre2, ↓pre3, ↓look_cons, ↓look_bnd, ↓look_bnd0, ↓opd_tmp, ↓opd_const, ↓ite_f, ↓ite_t, ↓reduceIte, post, post2, decide_true, decide_false, opds, Nat.reduceEqDiff, Nat.reduceAdd, Nat.zero_add, Nat.add_zero, Nat.mul_one, Int.toNat_natCast, Int.reduceToNat]
    refine loop_rule (fun k : Nat => [(23, vi k), (3, .pointer (some ⟨b3, 0, none⟩)), (4, vi n), (1, .pointer (some ⟨b1, 0, none⟩))])
      (fun k v => k ≤ 4 ∧ Cw v.heap b3 ((diagN (colN (dbls s n) 4) k).map w32) ∧ Cw v.heap b1 (s.map w32) ∧ Ex w v) (fun k => 4 - k) 0 (by simp [sub, look, bnd, add_addr]) ⟨by omega, D3, D1, hE2⟩ ?_
    rintro k v4 ⟨hk, D3, D1, hE2⟩
    simp -dsimp (disch := first | omega | rfl | simp only [all_cons, all_nil, plain_w32, plain_w8, plain_w64, plain_ws, plain_int, plain_bool, plain_slice, plain_ptr, plain_map, plain_iface, Bool.and_self]) only [↓pre, ↓pre2, ↓pre3, ↓look_cons, ↓look_bnd, ↓look_bnd0, ↓opd_tmp, ↓opd_const, ↓ite_f, ↓ite_t, ↓reduceIte, post, post2, decide_true, decide_false, opds, Nat.reduceEqDiff, Nat.reduceAdd, Nat.zero_add, Nat.add_zero, Nat.mul_one, Int.toNat_natCast, Int.reduceToNat]
    refine cond_dec (fun hlt => ?_) (fun hge => ?_)
    · simp -dsimp (disch := first | omega | rfl | simp only [all_cons, all_nil, plain_w32, plain_w8, plain_w64, plain_ws, plain_int, plain_bool, plain_slice, plain_ptr, plain_map, plain_iface, Bool.and_self]) only [↓pre, ↓pre2, ↓pre3, ↓look_cons, ↓look_bnd, ↓look_bnd0, ↓opd_tmp, ↓opd_const, ↓ite_f, ↓ite_t, ↓reduceIte, post, post2, decide_true, decide_false, opds, Nat.reduceEqDiff, Nat.reduceAdd, Nat.zero_add, Nat.add_zero, Nat.mul_one, Int.toNat_natCast, Int.reduceToNat]
      refine call_rule (k139 k (4 + (k + 1) % 4) (8 + (k + 2) % 4) (12 + (k + 3) % 4) D3 (by rw [diagN_length, colN_length, dbls_length, hs]) (by omega) (by omega) (by omega) (by omega) rfl (by omega) (by omega) (by omega)) ?_
      rintro en v3 ⟨rfl, G3, hg⟩
      refine ⟨_, rfl, ?_⟩
      simp -dsimp (disch := first | omega | rfl | simp only [all_cons, all_nil, plain_w32, plain_w8, plain_w64, plain_ws, plain_int, plain_bool, plain_slice, plain_ptr, plain_map, plain_iface, Bool.and_self]) only [↓pre, ↓pre2, ↓pre3, ↓look_cons, ↓look_bnd, ↓look_bnd0, ↓opd_tmp, ↓opd_const, ↓ite_f, ↓ite_t, ↓reduceIte, post, post2, decide_true, decide_false, opds, Nat.reduceEqDiff, Nat.reduceAdd, Nat.zero_add, Nat.add_zero, Nat.mul_one, Int.toNat_natCast, Int.reduceToNat]
      exact ⟨k + 1, by simp [sub, look, bnd, add_addr, bnd], ⟨by omega, G3, Cw.fr (M := (· = b3)) D1 hg hb13, Ex.young hE2 hg hb3w⟩, by omega⟩
    have hk4 : k = 4 := by omega
    subst hk4
    simp -dsimp (disch := first | omega | rfl | simp only [all_cons, all_nil, plain_w32, plain_w8, plain_w64, plain_ws, plain_int, plain_bool, plain_slice, plain_ptr, plain_map, plain_iface, Bool.and_self]) only [↓pre, ↓pre2, ↓pre3, ↓look_cons, ↓look_bnd, ↓look_bnd0, ↓opd_tmp, ↓opd_const, ↓ite_f, ↓ite_t, ↓reduceIte, post, post2, decide_true, decide_false, opds, Nat.reduceEqDiff, Nat.reduceAdd, Nat.zero_add, Nat.add_zero, Nat.mul_one, Int.toNat_natCast, Int.reduceToNat]
    refine cond_dec (fun hlt => ?_) (fun hge => absurd hge (by omega))
    simp -dsimp (disch := first | omega | rfl | simp only [all_cons, all_nil, plain_w32, plain_w8, plain_w64, plain_ws, plain_int, plain_bool, plain_slice, plain_ptr, plain_map, plain_iface, Bool.and_self]) only [↓pre, ↓pre2, ↓pre3, ↓look_cons, ↓look_bnd, ↓look_bnd0, ↓opd_tmp, ↓opd_const, ↓ite_f, ↓ite_t, ↓reduceIte, post, post2, decide_true, decide_false, opds, Nat.reduceEqDiff, Nat.reduceAdd, Nat.zero_add, Nat.add_zero, Nat.mul_one, Int.toNat_natCast, Int.reduceToNat]
    exact ⟨trivial, (n + 1, b3), by simp [sub, look, bnd, add_addr], by simp only; omega, hb13, hb3w, D3, D1, hE2⟩
  · rintro ⟨n, b3⟩ v ⟨hn10, hb13, hb3w, C3, C1, hE⟩
    simp only at hn10 hb13 hb3w C3
    have l1 : True := trivial
    have l3 : True := trivial
    have l4 : True := trivial
    simp -dsimp (disch := first | omega | rfl | simp only [all_cons, all_nil, plain_w32, plain_w8, plain_w64, plain_ws, plain_int, plain_bool, plain_slice, plain_ptr, plain_map, plain_iface, Bool.and_self]) only [↓pre, ↓pre2, ↓pre3, ↓look_cons, ↓look_bnd, ↓look_bnd0, ↓opd_tmp, ↓opd_const, ↓ite_f, ↓ite_t, ↓reduceIte, post, post2, decide_true, decide_false, opds, Nat.reduceEqDiff, Nat.reduceAdd, Nat.zero_add, Nat.add_zero, Nat.mul_one, Int.toNat_natCast, Int.reduceToNat]
    refine loop_rule (fun k : Nat => [(11, vi k), (3, .pointer (some ⟨b3, 0, none⟩)), (4, vi n), (1, .pointer (some ⟨b1, 0, none⟩))])
      (fun k v => k ≤ 4 ∧ Cw v.heap b3 ((colN (dbls s n) k).map w32) ∧ Cw v.heap b1 (s.map w32) ∧ Ex w v) (fun k => 4 - k) 0 (by simp [sub, look, bnd, add_addr, l1, l3, l4]) ⟨by omega, C3, C1, hE⟩ ?_
    rintro k v2 ⟨hk, D3, D1, hE2⟩
    simp -dsimp (disch := first | omega | rfl | simp only [all_cons, all_nil, plain_w32, plain_w8, plain_w64, plain_ws, plain_int, plain_bool, plain_slice, plain_ptr, plain_map, plain_iface, Bool.and_self]) only [↓pre, ↓pre2, ↓pre3, ↓look_cons, ↓look_bnd, ↓look_bnd0, ↓opd_tmp, ↓opd_const, ↓ite_f, ↓ite_t, ↓reduceIte, post, post2, decide_true, decide_false, opds, Nat.reduceEqDiff, Nat.reduceAdd, Nat.zero_add, Nat.add_zero, Nat.mul_one, Int.toNat_natCast, Int.reduceToNat]
    refine cond_dec (fun hlt => ?_) (fun hge => ?_)
    · simp -dsimp (disch := first | omega | rfl | simp only [all_cons, all_nil, plain_w32, plain_w8, plain_w64, plain_ws, plain_int, plain_bool, plain_slice, plain_ptr, plain_map, plain_iface, Bool.and_self]) only [↓pre, ↓pre2, ↓pre3, ↓look_cons, ↓look_bnd, ↓look_bnd0, ↓opd_tmp, ↓opd_const, ↓ite_f, ↓ite_t, ↓reduceIte, post, post2, decide_true, decide_false, opds, Nat.reduceEqDiff, Nat.reduceAdd, Nat.zero_add, Nat.add_zero, Nat.mul_one, Int.toNat_natCast, Int.reduceToNat]
      refine call_rule (k139 k (4 + k) (8 + k) (12 + k) D3 (by rw [colN_length, dbls_length, hs]) (by omega) (by omega) (by omega) (by omega) rfl (by omega) (by omega) (by omega)) ?_
      rintro en v3 ⟨rfl, G3, hg⟩
      refine ⟨_, rfl, ?_⟩
      simp -dsimp (disch := first | omega | rfl | simp only [all_cons, all_nil, plain_w32, plain_w8, plain_w64, plain_ws, plain_int, plain_bool, plain_slice, plain_ptr, plain_map, plain_iface, Bool.and_self]) only [↓pre, ↓pre2, ↓pre3, ↓look_cons, ↓look_bnd, ↓look_bnd0, ↓opd_tmp, ↓opd_const, ↓ite_f, ↓ite_t, ↓reduceIte, post, post2, decide_true, decide_false, opds, Nat.reduceEqDiff, Nat.reduceAdd, Nat.zero_add, Nat.add_zero, Nat.mul_one, Int.toNat_natCast, Int.reduceToNat]
      exact ⟨k + 1, by simp [sub, look, bnd, add_addr, bnd], ⟨by omega, G3, Cw.fr (M := (· = b3)) D1 hg hb13, Ex.young hE2 hg hb3w⟩, by omega⟩
    have hk4 : k = 4 := by omega
    subst hk4
    simp -dsimp (disch := first | omega | rfl | simp only [all_cons, all_nil, plain_w32, plain_w8, plain_w64, plain_ws, plain_int, plain_bool, plain_slice, plain_ptr, plain_map, plain_iface, Bool.and_self]) only [↓pre, ↓pre2, ↓pre3, ↓look_cons, ↓look_bnd, ↓look_bnd0, ↓opd_tmp, ↓opd_const, ↓ite_f, ↓ite_t, ↓reduceIte, post, post2, decide_true, decide_false, opds, Nat.reduceEqDiff, Nat.reduceAdd, Nat.zero_add, Nat.add_zero, Nat.mul_one, Int.toNat_natCast, Int.reduceToNat]
    refine loop_rule (fun k : Nat => [(23, vi k), (3, .pointer (some ⟨b3, 0, none⟩)), (4, vi n), (1, .pointer (some ⟨b1, 0, none⟩))])
      (fun k v => k ≤ 4 ∧ Cw v.heap b3 ((diagN (colN (dbls s n) 4) k).map w32) ∧ Cw v.heap b1 (s.map w32) ∧ Ex w v) (fun k => 4 - k) 0 (by simp [sub, look, bnd, add_addr]) ⟨by omega, D3, D1, hE2⟩ ?_
    rintro k v4 ⟨hk, D3, D1, hE2⟩
    simp -dsimp (disch := first | omega | rfl | simp only [all_cons, all_nil, plain_w32, plain_w8, plain_w64, plain_ws, plain_int, plain_bool, plain_slice, plain_ptr, plain_map, plain_iface, Bool.and_self]) only [↓pre, ↓pre2, ↓pre3, ↓look_cons, ↓look_bnd, ↓look_bnd0, ↓opd_tmp, ↓opd_const, ↓ite_f, ↓ite_t, ↓reduceIte, post, post2, decide_true, decide_false, opds, Nat.reduceEqDiff, Nat.reduceAdd, Nat.zero_add, Nat.add_zero, Nat.mul_one, Int.toNat_natCast, Int.reduceToNat]
    refine cond_dec (fun hlt => ?_) (fun hge => ?_)
    · simp -dsimp (disch := first | omega | rfl | simp only [all_cons, all_nil, plain_w32, plain_w8, plain_w64, plain_ws, plain_int, plain_bool, plain_slice, plain_ptr, plain_map, plain_iface, Bool.and_self]) only [↓pre, ↓pre2, ↓pre3, ↓look_cons, ↓look_bnd, ↓look_bnd0, ↓opd_tmp, ↓opd_const, ↓ite_f, ↓ite_t, ↓reduceIte, post, post2, decide_true, decide_false, opds, Nat.reduceEqDiff, Nat.reduceAdd, Nat.zero_add, Nat.add_zero, Nat.mul_one, Int.toNat_natCast, Int.reduceToNat]
      refine call_rule (k139 k (4 + (k + 1) % 4) (8 + (k + 2) % 4) (12 + (k + 3) % 4) D3 (by rw [diagN_length, colN_length, dbls_length, hs]) (by omega) (by omega) (by omega) (by omega) rfl (by omega) (by omega) (by omega)) ?_
      rintro en v3 ⟨rfl, G3, hg⟩
      refine ⟨_, rfl, ?_⟩
      simp -dsimp (disch := first | omega | rfl | simp only [all_cons, all_nil, plain_w32, plain_w8, plain_w64, plain_ws, plain_int, plain_bool, plain_slice, plain_ptr, plain_map, plain_iface, Bool.and_self]) only [↓pre, ↓pre2, ↓pre3, ↓look_cons, ↓look_bnd, ↓look_bnd0, ↓opd_tmp, ↓opd_const, ↓ite_f, ↓ite_t, ↓reduceIte, post, post2, decide_true, decide_false, opds, Nat.reduceEqDiff, Nat.reduceAdd, Nat.zero_add, Nat.add_zero, Nat.mul_one, Int.toNat_natCast, Int.reduceToNat]
      exact ⟨k + 1, by simp [sub, look, bnd, add_addr, bnd], ⟨by omega, G3, Cw.fr (M := (· = b3)) D1 hg hb13, Ex.young hE2 hg hb3w⟩, by omega⟩
    have hk4 : k = 4 := by omega
    subst hk4
    simp -dsimp (disch := first | omega | rfl | simp only [all_cons, all_nil, plain_w32, plain_w8, plain_w64, plain_ws, plain_int, plain_bool, plain_slice, plain_ptr, plain_map, plain_iface, Bool.and_self]) only [↓pre, ↓pre2, ↓pre3, ↓look_cons, ↓look_bnd, ↓look_bnd0, ↓opd_tmp, ↓opd_const, ↓ite_f, ↓ite_t, ↓reduceIte, post, post2, decide_true, decide_false, opds, Nat.reduceEqDiff, Nat.reduceAdd, Nat.zero_add, Nat.add_zero, Nat.mul_one, Int.toNat_natCast, Int.reduceToNat]
    refine cond_dec (fun hlt => ?_) (fun hge => ?_)
    · simp -dsimp (disch := first | omega | rfl | simp only [all_cons, all_nil, plain_w32, plain_w8, plain_w64, plain_ws, plain_int, plain_bool, plain_slice, plain_ptr, plain_map, plain_iface, Bool.and_self]) only [↓pre, ↓pre2, ↓pre3, ↓look_cons, ↓look_bnd, ↓look_bnd0, ↓opd_tmp, ↓opd_const, ↓ite_f, ↓ite_t, ↓reduceIte, post, post2, decide_true, decide_false, opds, Nat.reduceEqDiff, Nat.reduceAdd, Nat.zero_add, Nat.add_zero, Nat.mul_one, Int.toNat_natCast, Int.reduceToNat]
      exact ⟨trivial, (n + 1, b3), by simp [sub, look, bnd, add_addr], ⟨by simp only; omega, hb13, hb3w, D3, D1, hE2⟩, by simp only; omega⟩
    · have hn9 : n = 9 := by omega
      subst hn9
      have hd : diagN (colN (dbls s 9) 4) 4 = dbls s 10 := rfl
      rw [hd] at D3
      have hdl : (dbls s 10).length = 16 := by rw [dbls_length, hs]
      simp -dsimp (disch := first | omega | rfl | simp only [all_cons, all_nil, plain_w32, plain_w8, plain_w64, plain_ws, plain_int, plain_bool, plain_slice, plain_ptr, plain_map, plain_iface, Bool.and_self]) only [↓pre, ↓pre2, ↓pre3, ↓look_cons, ↓look_bnd, ↓look_bnd0, ↓opd_tmp, ↓opd_const, ↓ite_f, ↓ite_t, ↓reduceIte, post, post2, decide_true, decide_false, opds, Nat.reduceEqDiff, Nat.reduceAdd, Nat.zero_add, Nat.add_zero, Nat.mul_one, Int.toNat_natCast, Int.reduceToNat]
      refine lda_cw D3 (by simpa using hdl) ?_
      simp -dsimp (disch := first | omega | rfl | simp only [all_cons, all_nil, plain_w32, plain_w8, plain_w64, plain_ws, plain_int, plain_bool, plain_slice, plain_ptr, plain_map, plain_iface, Bool.and_self]) only [↓pre, ↓pre2, ↓pre3, ↓look_cons, ↓look_bnd, ↓look_bnd0, ↓opd_tmp, ↓opd_const, ↓ite_f, ↓ite_t, ↓reduceIte, post, post2, decide_true, decide_false, opds, Nat.reduceEqDiff, Nat.reduceAdd, Nat.zero_add, Nat.add_zero, Nat.mul_one, Int.toNat_natCast, Int.reduceToNat]
      refine loop_rule (fun k : Nat × Value => [(46, vi k.1), (45, .agg ((dbls s 10).map w32).toArray), (7, k.2), (1, .pointer (some ⟨b1, 0, none⟩))])
        (fun k v => k.1 ≤ 16 ∧ New w1.heap.size v.heap k.2 (((List.zipWith (· + ·) (dbls s 10) s).take k.1).flatMap leBytes) ∧ Cw v.heap b1 (s.map w32) ∧ Ex w v) (fun k => 16 - k.1) (0, .slice none 0 0) (by simp [sub, look, bnd, add_addr]) ⟨by simp, by simpa using New.nil _ _, D1, hE2⟩ ?_
      rintro ⟨k, s12⟩ w12 ⟨hk, hn12, hc12, hE12⟩
      simp only at hk hn12
      have hzl : (List.zipWith (· + ·) (dbls s 10) s).length = 16 := by simp [hdl, hs]
      simp -dsimp (disch := first | omega | rfl | simp only [all_cons, all_nil, plain_w32, plain_w8, plain_w64, plain_ws, plain_int, plain_bool, plain_slice, plain_ptr, plain_map, plain_iface, Bool.and_self]) only [↓pre, ↓pre2, ↓pre3, ↓look_cons, ↓look_bnd, ↓look_bnd0, ↓opd_tmp, ↓opd_const, ↓ite_f, ↓ite_t, ↓reduceIte, post, post2, decide_true, decide_false, opds, Nat.reduceEqDiff, Nat.reduceAdd, Nat.zero_add, Nat.add_zero, Nat.mul_one, Int.toNat_natCast, Int.reduceToNat]
      refine cond_dec (fun hlt => ?_) (fun hge => ?_)
      · have hg := map_get hdl
        have hg2 := map_get hs
        simp -dsimp (disch := first | omega | rfl | simp only [all_cons, all_nil, plain_w32, plain_w8, plain_w64, plain_ws, plain_int, plain_bool, plain_slice, plain_ptr, plain_map, plain_iface, Bool.and_self]) only [↓pre, ↓pre2, ↓pre3, ↓look_cons, ↓look_bnd, ↓look_bnd0, ↓opd_tmp, ↓opd_const, ↓ite_f, ↓ite_t, ↓reduceIte, post, post2, decide_true, decide_false, opds, Nat.reduceEqDiff, Nat.reduceAdd, Nat.zero_add, Nat.add_zero, Nat.mul_one, Int.toNat_natCast, Int.reduceToNat, ind_ok, hg, hg2, words, hc12.cell]
        have hk9 : k < (List.zipWith (· + ·) (dbls s 10) s).length := by omega
        refine lit_rule (xs := [.tmp 57, .tmp 60, .tmp 63, .tmp 66]) (vs := (leBytes ((dbls s 10).getD k 0 + s.getD k 0)).map Go.Lk.w8) el8 rfl rfl rfl rfl (by omega) fun b13 w13 hb13 hc13 he13 hs13 => ?_
        simp -dsimp (disch := first | omega | rfl | simp only [all_cons, all_nil, plain_w32, plain_w8, plain_w64, plain_ws, plain_int, plain_bool, plain_slice, plain_ptr, plain_map, plain_iface, Bool.and_self]) only [↓pre, ↓pre2, ↓pre3, ↓look_cons, ↓look_bnd, ↓look_bnd0, ↓opd_tmp, ↓opd_const, ↓ite_f, ↓ite_t, ↓reduceIte, post, post2, decide_true, decide_false, opds, Nat.reduceEqDiff, Nat.reduceAdd, Nat.zero_add, Nat.add_zero, Nat.mul_one, Int.toNat_natCast, Int.reduceToNat]
        have hE13 := hE12.trans he13
        refine app_bytes el8 rfl rfl (hn12.ex he13) (by have := hc12.lt; have := he13.size; omega) (r := leBytes ((dbls s 10).getD k 0 + s.getD k 0)) (Cw.bs hc13 (by simp [leBytes])) rfl (by rw [flat4']; simp [leBytes]; omega) fun s14 w14 hn14 hf14 ho14 => ?_
        have hE14 : Ex w w14 := Fr.young hE13 hf14 (fun k hk => by have := hk.2; omega)
        have hc14 : Cw w14.heap b1 (s.map w32) := Cw.fr (hc12.ex he13) hf14 (fun h => by have := h.2; omega)
        simp -dsimp (disch := first | omega | rfl | simp only [all_cons, all_nil, plain_w32, plain_w8, plain_w64, plain_ws, plain_int, plain_bool, plain_slice, plain_ptr, plain_map, plain_iface, Bool.and_self]) only [↓pre, ↓pre2, ↓pre3, ↓look_cons, ↓look_bnd, ↓look_bnd0, ↓opd_tmp, ↓opd_const, ↓ite_f, ↓ite_t, ↓reduceIte, post, post2, decide_true, decide_false, opds, Nat.reduceEqDiff, Nat.reduceAdd, Nat.zero_add, Nat.add_zero, Nat.mul_one, Int.toNat_natCast, Int.reduceToNat]
        refine ⟨(k + 1, s14), by simp [sub, look, bnd, add_addr], ⟨by simp only; omega, ?_, hc14, hE14⟩, by simp only; omega⟩
        simp only
        rw [List.take_succ_eq_append_getElem hk9, List.flatMap_append]
        simpa [List.getD, hdl, hs, show k < 16 by omega] using hn14
      · have hk8 : k = 16 := by omega
        subst hk8
        rw [List.take_of_length_le (by omega)] at hn12
        simp -dsimp (disch := first | omega | rfl | simp only [all_cons, all_nil, plain_w32, plain_w8, plain_w64, plain_ws, plain_int, plain_bool, plain_slice, plain_ptr, plain_map, plain_iface, Bool.and_self]) only [↓pre, ↓pre2, ↓pre3, ↓look_cons, ↓look_bnd, ↓look_bnd0, ↓opd_tmp, ↓opd_const, ↓ite_f, ↓ite_t, ↓reduceIte, post, post2, decide_true, decide_false, opds, Nat.reduceEqDiff, Nat.reduceAdd, Nat.zero_add, Nat.add_zero, Nat.mul_one, Int.toNat_natCast, Int.reduceToNat]
        exact ⟨_, rfl, hn12.mono (by omega), hE12⟩
attribute [irreducible] chaBlock chaFirst
end Go.Lk
