/- ChaCha20-Poly1305: boxes. No statement of the seat is proved in this text. -/
import Derived.Test.YtofoamkiidkbkaaPoly5
set_option linter.unusedSimpArgs false
set_option linter.unusedVariables false
set_option linter.unusedSectionVars false
set_option linter.unnecessarySimpa false
set_option maxRecDepth 10000
set_option maxHeartbeats 1000000
namespace Go.Lk

theorem Fr.step {M M2 : Nat → Prop} {w w1 w2 : World} (h1 : Fr M w w1) (h2 : Fr M2 w1 w2) (h : ∀ k, k < w.heap.size → M2 k → M k) : Fr M w w2 :=
  ⟨h2.os.trans h1.os, h2.tape.trans h1.tape, h2.output.trans h1.output, Nat.le_trans h1.size h2.size,
    fun k hk hn => (h2.block k (Nat.lt_of_lt_of_le hk h1.size) (fun hm => hn (h k hk hm))).trans (h1.block k hk hn)⟩

def filld (b : List UInt8) : List UInt8 := b ++ List.replicate ((16 - b.length % 16) % 16) 0
theorem filld_length (b : List UInt8) : (filld b).length ≤ b.length + 15 := by simp [filld]; omega

theorem und3 : Go.Proofs.Try.prog.underlying 3 = some (.int .i64) := by kernel_rfl

theorem k124 {w : World} {B : Nat} {ov bv : Value} {l b : List UInt8} (ho : New B w.heap ov l) (hB : B ≤ w.heap.size) (hb : Bs w.heap bv b) (hob : b ≠ [] → ∀ k, bv.ownBlock = some k → k < B) (hll : l.length ≤ 17592186044416) (hbl : b.length ≤ 1099511627776) :
    Calls Go.Proofs.Try.prog 124 #[ov, bv] w fun e w' => ∃ u, e = .returned u ∧ New B w'.heap u (l ++ filld b) ∧ Fr (fun k => B ≤ k) w w' := by
  obtain ⟨a2, c2, rfl, hc2, hn2⟩ := hb.parts
  refine enter mo (args := [ov, .slice a2 b.length c2]) Go.Proofs.Try.func124 c124 (by simp [x124]) ?_
  simp only [x124, env0]
  simp -dsimp (disch := first | omega | rfl | simp only [all_cons, all_nil, plain_w32, plain_w8, plain_w64, plain_ws, plain_int, plain_bool, plain_slice, plain_ptr, plain_map, plain_iface, Bool.and_self]) only [↓pre, ↓pre2, ↓pre3, ↓look_cons, ↓look_bnd, ↓look_bnd0, ↓opd_tmp, ↓opd_const, ↓ite_f, ↓ite_t, ↓reduceIte, post, post2, decide_true, decide_false, opds, Nat.reduceEqDiff, Nat.reduceAdd, Nat.zero_add, Nat.add_zero, Nat.mul_one, Int.toNat_natCast, Int.reduceToNat]
  refine app_bytes el8 rfl rfl ho hB hb rfl (by omega) fun s1 w1 hn1 hf1 ho1 => ?_
  simp -dsimp (disch := first | omega | rfl | simp only [all_cons, all_nil, plain_w32, plain_w8, plain_w64, plain_ws, plain_int, plain_bool, plain_slice, plain_ptr, plain_map, plain_iface, Bool.and_self]) only [↓pre, ↓pre2, ↓pre3, ↓look_cons, ↓look_bnd, ↓look_bnd0, ↓opd_tmp, ↓opd_const, ↓ite_f, ↓ite_t, ↓reduceIte, post, post2, decide_true, decide_false, opds, Nat.reduceEqDiff, Nat.reduceAdd, Nat.zero_add, Nat.add_zero, Nat.mul_one, Int.toNat_natCast, Int.reduceToNat]
  obtain ⟨m, hm⟩ : ∃ m : Nat, m = (16 - b.length % 16) % 16 := ⟨_, rfl⟩
  have e : (16 - (b.length : Int) % 16) % 16 = (m : Int) := by omega
  rw [e]
  refine appz_bytes el8 und3 rfl rfl hn1 (by have := hf1.size; omega) (by simp; omega) fun s2 w2 hn2 hf2 ho2 => ?_
  simp -dsimp (disch := first | omega | rfl | simp only [all_cons, all_nil, plain_w32, plain_w8, plain_w64, plain_ws, plain_int, plain_bool, plain_slice, plain_ptr, plain_map, plain_iface, Bool.and_self]) only [↓pre, ↓pre2, ↓pre3, ↓look_cons, ↓look_bnd, ↓look_bnd0, ↓opd_tmp, ↓opd_const, ↓ite_f, ↓ite_t, ↓reduceIte, post, post2, decide_true, decide_false, opds, Nat.reduceEqDiff, Nat.reduceAdd, Nat.zero_add, Nat.add_zero, Nat.mul_one, Int.toNat_natCast, Int.reduceToNat]
  refine ⟨_, rfl, ?_, Fr.step (hf1.mono fun k _ h => h.2) hf2 (fun k _ h => h.2)⟩
  unfold filld
  rw [← hm, ← List.append_assoc]
  exact hn2

/-- a number in eight bytes, the lowest first -/
def le8 (n : Int) (k : Nat) : List UInt8 := (List.range k).map fun i => UInt8.ofNat (n / 2 ^ (8 * i) % 256).toNat

theorem k126 {w : World} {B : Nat} {ov : Value} {l : List UInt8} (n : Int) (ho : New B w.heap ov l) (hB : B ≤ w.heap.size) (hll : l.length ≤ 17592186044416) :
    Calls Go.Proofs.Try.prog 126 #[ov, vi n] w fun e w' => ∃ u, e = .returned u ∧ New B w'.heap u (l ++ le8 n 8) ∧ Fr (fun k => B ≤ k) w w' := by
  refine enter mo (args := [ov, vi n]) Go.Proofs.Try.func126 c126 (by simp [x126]) ?_
  simp only [x126, env0]
  simp -dsimp (disch := first | omega | rfl | simp only [all_cons, all_nil, plain_w32, plain_w8, plain_w64, plain_ws, plain_int, plain_bool, plain_slice, plain_ptr, plain_map, plain_iface, Bool.and_self]) only [↓pre, ↓pre2, ↓pre3, ↓look_cons, ↓look_bnd, ↓look_bnd0, ↓opd_tmp, ↓opd_const, ↓ite_f, ↓ite_t, ↓reduceIte, post, post2, decide_true, decide_false, opds, Nat.reduceEqDiff, Nat.reduceAdd, Nat.zero_add, Nat.add_zero, Nat.mul_one, Int.toNat_natCast, Int.reduceToNat]
  refine loop_rule (fun k : Nat × Value => [(6, vi k.1), (0, k.2), (1, vi n)])
    (fun k v => k.1 ≤ 8 ∧ New B v.heap k.2 (l ++ le8 n k.1) ∧ Fr (fun k => B ≤ k) w v) (fun k => 8 - k.1) (0, ov) (by simp [sub, look, bnd, add_addr]) ⟨by simp, by simpa [le8] using ho, Fr.refl w⟩ ?_
  rintro ⟨k, s⟩ v ⟨hk, hn, hf⟩
  simp only at hk hn
  simp -dsimp (disch := first | omega | rfl | simp only [all_cons, all_nil, plain_w32, plain_w8, plain_w64, plain_ws, plain_int, plain_bool, plain_slice, plain_ptr, plain_map, plain_iface, Bool.and_self]) only [↓pre, ↓pre2, ↓pre3, ↓look_cons, ↓look_bnd, ↓look_bnd0, ↓opd_tmp, ↓opd_const, ↓ite_f, ↓ite_t, ↓reduceIte, post, post2, decide_true, decide_false, opds, Nat.reduceEqDiff, Nat.reduceAdd, Nat.zero_add, Nat.add_zero, Nat.mul_one, Int.toNat_natCast, Int.reduceToNat]
  refine cond_dec (fun hlt => ?_) (fun hge => ?_)
  · simp -dsimp (disch := first | omega | rfl | simp only [all_cons, all_nil, plain_w32, plain_w8, plain_w64, plain_ws, plain_int, plain_bool, plain_slice, plain_ptr, plain_map, plain_iface, Bool.and_self]) only [↓pre, ↓pre2, ↓pre3, ↓look_cons, ↓look_bnd, ↓look_bnd0, ↓opd_tmp, ↓opd_const, ↓ite_f, ↓ite_t, ↓reduceIte, post, post2, decide_true, decide_false, opds, Nat.reduceEqDiff, Nat.reduceAdd, Nat.zero_add, Nat.add_zero, Nat.mul_one, Int.toNat_natCast, Int.reduceToNat]
    have e2 : (8 * (k : Int)).toNat = 8 * k := by omega
    rw [e2]
    refine lit_rule (xs := [.tmp 14]) (vs := [w8 (UInt8.ofNat (n / 2 ^ (8 * k) % 256).toNat)]) el8 rfl rfl rfl rfl (by omega) fun b1 v1 hb1 hc1 he1 hs1 => ?_
    simp -dsimp (disch := first | omega | rfl | simp only [all_cons, all_nil, plain_w32, plain_w8, plain_w64, plain_ws, plain_int, plain_bool, plain_slice, plain_ptr, plain_map, plain_iface, Bool.and_self]) only [↓pre, ↓pre2, ↓pre3, ↓look_cons, ↓look_bnd, ↓look_bnd0, ↓opd_tmp, ↓opd_const, ↓ite_f, ↓ite_t, ↓reduceIte, post, post2, decide_true, decide_false, opds, Nat.reduceEqDiff, Nat.reduceAdd, Nat.zero_add, Nat.add_zero, Nat.mul_one, Int.toNat_natCast, Int.reduceToNat]
    refine app_bytes el8 rfl rfl (hn.ex he1) (by have := hf.size; have := he1.size; omega) (Cw.bs (l := [UInt8.ofNat (n / 2 ^ (8 * k) % 256).toNat]) hc1 (by simp)) rfl (by simp [le8]; omega) fun s2 v2 hn2 hf2 ho2 => ?_
    simp -dsimp (disch := first | omega | rfl | simp only [all_cons, all_nil, plain_w32, plain_w8, plain_w64, plain_ws, plain_int, plain_bool, plain_slice, plain_ptr, plain_map, plain_iface, Bool.and_self]) only [↓pre, ↓pre2, ↓pre3, ↓look_cons, ↓look_bnd, ↓look_bnd0, ↓opd_tmp, ↓opd_const, ↓ite_f, ↓ite_t, ↓reduceIte, post, post2, decide_true, decide_false, opds, Nat.reduceEqDiff, Nat.reduceAdd, Nat.zero_add, Nat.add_zero, Nat.mul_one, Int.toNat_natCast, Int.reduceToNat]
    refine ⟨(k + 1, s2), by simp [sub, look, bnd, add_addr], ⟨by simp only; omega, ?_, (hf.trans he1.to).step hf2 (fun k _ h => h.2)⟩, by simp only; omega⟩
    simp only
    unfold le8
    rw [List.range_succ, List.map_append, ← List.append_assoc]
    exact hn2
  · have hk8 : k = 8 := by omega
    subst hk8
    simp -dsimp (disch := first | omega | rfl | simp only [all_cons, all_nil, plain_w32, plain_w8, plain_w64, plain_ws, plain_int, plain_bool, plain_slice, plain_ptr, plain_map, plain_iface, Bool.and_self]) only [↓pre, ↓pre2, ↓pre3, ↓look_cons, ↓look_bnd, ↓look_bnd0, ↓opd_tmp, ↓opd_const, ↓ite_f, ↓ite_t, ↓reduceIte, post, post2, decide_true, decide_false, opds, Nat.reduceEqDiff, Nat.reduceAdd, Nat.zero_add, Nat.add_zero, Nat.mul_one, Int.toNat_natCast, Int.reduceToNat]
    exact ⟨_, rfl, hn, hf⟩

def aeadTag (key nonce other secret : List UInt8) : List UInt8 := polyTag ((chaB key 0 nonce).take 32) (filld other ++ filld secret ++ le8 other.length 8 ++ le8 secret.length 8)
def sized (key nonce : List UInt8) : Bool := decide (key.length = 32 ∧ nonce.length = 12)

theorem chaCheck_ok (key nonce : List UInt8) (n : Int) (h0 : 0 ≤ n) (h1 : n ≤ 4294967295) : chaCheck key.length n nonce.length = if sized key nonce then 0 else 11 := by
  unfold chaCheck sized
  by_cases h : key.length = 32 ∧ nonce.length = 12
  · rw [if_pos h, if_pos ⟨h0, h1⟩]; simp [h]
  · rw [if_neg h]; simp [h]
theorem chaB_length (k : List UInt8) (c : Int) (n : List UInt8) : (chaB k c n).length = 64 := by
  unfold chaB; exact chaBlock_length (chaFirst_length _ _ _)

theorem k103 {w : World} {kv nv ov sv : Value} {key nonce other secret : List UInt8} (hk : Bs w.heap kv key) (hn : Bs w.heap nv nonce) (ho : Bs w.heap ov other) (hs : Bs w.heap sv secret) (hol : other.length ≤ 1073741824) (hsl : secret.length ≤ 1073741824) :
    Calls Go.Proofs.Try.prog 103 #[kv, nv, ov, sv] w fun e w' => ∃ u, e = .returned (.tuple #[u, vi (if sized key nonce then 0 else 11)]) ∧
      New w.heap.size w'.heap u (if sized key nonce then aeadTag key nonce other secret else []) ∧ Ex w w' := by
  refine enter mo (args := [kv, nv, ov, sv]) Go.Proofs.Try.func103 c103 (by simp [x103]) ?_
  simp only [x103, env0]
  simp -dsimp (disch := first | omega | rfl | simp only [all_cons, all_nil, plain_w32, plain_w8, plain_w64, plain_ws, plain_int, plain_bool, plain_slice, plain_ptr, plain_map, plain_iface, Bool.and_self]) only [↓pre, ↓pre2, ↓pre3, ↓look_cons, ↓look_bnd, ↓look_bnd0, ↓opd_tmp, ↓opd_const, ↓ite_f, ↓ite_t, ↓reduceIte, post, post2, decide_true, decide_false, opds, Nat.reduceEqDiff, Nat.reduceAdd, Nat.zero_add, Nat.add_zero, Nat.mul_one, Int.toNat_natCast, Int.reduceToNat]
  refine call_rule (k123 0 hk hn) ?_
  rw [chaCheck_ok _ _ _ (by omega) (by omega)]
  rintro en w1 ⟨u1, rfl, hn1, hx1⟩
  refine ⟨_, rfl, ?_⟩
  by_cases hz : sized key nonce = true
  · simp only [hz, if_true] at hn1 ⊢
    simp -dsimp (disch := first | omega | rfl | simp only [all_cons, all_nil, plain_w32, plain_w8, plain_w64, plain_ws, plain_int, plain_bool, plain_slice, plain_ptr, plain_map, plain_iface, Bool.and_self]) only [↓pre, ↓pre2, ↓pre3, ↓look_cons, ↓look_bnd, ↓look_bnd0, ↓opd_tmp, ↓opd_const, ↓ite_f, ↓ite_t, ↓reduceIte, post, post2, decide_true, decide_false, opds, Nat.reduceEqDiff, Nat.reduceAdd, Nat.zero_add, Nat.add_zero, Nat.mul_one, Int.toNat_natCast, Int.reduceToNat]
    refine call_rule (k124 (New.nil w1.heap.size _) (Nat.le_refl _) (ho.ex hx1) (fun h0 k hk => (ho.ex hx1).lt h0 hk) (by simp) (by omega)) ?_
    rintro en w2 ⟨u2, rfl, hn2, hf2⟩
    refine ⟨_, rfl, ?_⟩
    rw [List.nil_append] at hn2
    have hx2 : Ex w1 w2 := Fr.young (Fr.refl w1) hf2 (fun k h => h)
    have hE2 := hx1.trans hx2
    simp -dsimp (disch := first | omega | rfl | simp only [all_cons, all_nil, plain_w32, plain_w8, plain_w64, plain_ws, plain_int, plain_bool, plain_slice, plain_ptr, plain_map, plain_iface, Bool.and_self]) only [↓pre, ↓pre2, ↓pre3, ↓look_cons, ↓look_bnd, ↓look_bnd0, ↓opd_tmp, ↓opd_const, ↓ite_f, ↓ite_t, ↓reduceIte, post, post2, decide_true, decide_false, opds, Nat.reduceEqDiff, Nat.reduceAdd, Nat.zero_add, Nat.add_zero, Nat.mul_one, Int.toNat_natCast, Int.reduceToNat]
    refine call_rule (k124 hn2 hx2.size (hs.ex hE2) (fun h0 k hk => by have := hs.lt h0 hk; have := hx1.size; omega) (by have := filld_length other; omega) (by omega)) ?_
    rintro en w3 ⟨u3, rfl, hn3, hf3⟩
    refine ⟨_, rfl, ?_⟩
    have hx3 : Ex w1 w3 := Fr.young hx2 hf3 (fun k h => h)
    obtain ⟨a1, c1, rfl, hc1, hne1⟩ := hn1.bs.parts
    obtain ⟨ao, co, rfl, hco, hneo⟩ := ho.parts
    obtain ⟨asx, cs, rfl, hcs, hnes⟩ := hs.parts
    simp -dsimp (disch := first | omega | rfl | simp only [all_cons, all_nil, plain_w32, plain_w8, plain_w64, plain_ws, plain_int, plain_bool, plain_slice, plain_ptr, plain_map, plain_iface, Bool.and_self]) only [↓pre, ↓pre2, ↓pre3, ↓look_cons, ↓look_bnd, ↓look_bnd0, ↓opd_tmp, ↓opd_const, ↓ite_f, ↓ite_t, ↓reduceIte, post, post2, decide_true, decide_false, opds, Nat.reduceEqDiff, Nat.reduceAdd, Nat.zero_add, Nat.add_zero, Nat.mul_one, Int.toNat_natCast, Int.reduceToNat]
    refine par_ex ?_
    simp -dsimp (disch := first | omega | rfl | simp only [all_cons, all_nil, plain_w32, plain_w8, plain_w64, plain_ws, plain_int, plain_bool, plain_slice, plain_ptr, plain_map, plain_iface, Bool.and_self]) only [↓pre, ↓pre2, ↓pre3, ↓look_cons, ↓look_bnd, ↓look_bnd0, ↓opd_tmp, ↓opd_const, ↓ite_f, ↓ite_t, ↓reduceIte, post, post2, decide_true, decide_false, opds, Nat.reduceEqDiff, Nat.reduceAdd, Nat.zero_add, Nat.add_zero, Nat.mul_one, Int.toNat_natCast, Int.reduceToNat]
    have hb64 := chaB_length key 0 nonce
    refine sl_rule (m := c1) (h := 32) (l := 0) rfl (bnd_ok (i := 32) rfl (by omega) (by omega)) rfl ?_
    simp -dsimp (disch := first | omega | rfl | simp only [all_cons, all_nil, plain_w32, plain_w8, plain_w64, plain_ws, plain_int, plain_bool, plain_slice, plain_ptr, plain_map, plain_iface, Bool.and_self]) only [↓pre, ↓pre2, ↓pre3, ↓look_cons, ↓look_bnd, ↓look_bnd0, ↓opd_tmp, ↓opd_const, ↓ite_f, ↓ite_t, ↓reduceIte, post, post2, decide_true, decide_false, opds, Nat.reduceEqDiff, Nat.reduceAdd, Nat.zero_add, Nat.add_zero, Nat.mul_one, Int.toNat_natCast, Int.reduceToNat]
    have hfl := filld_length other
    have hfs := filld_length secret
    refine call_rule (k126 (w := w3.drew) (other.length : Int) hn3 hx3.size (by simp; omega)) ?_
    rintro en w4 ⟨u4, rfl, hn4, hf4⟩
    refine ⟨_, rfl, ?_⟩
    have hx4 : Ex w1 w4 := Fr.young hx3.drew hf4 (fun k h => h)
    simp -dsimp (disch := first | omega | rfl | simp only [all_cons, all_nil, plain_w32, plain_w8, plain_w64, plain_ws, plain_int, plain_bool, plain_slice, plain_ptr, plain_map, plain_iface, Bool.and_self]) only [↓pre, ↓pre2, ↓pre3, ↓look_cons, ↓look_bnd, ↓look_bnd0, ↓opd_tmp, ↓opd_const, ↓ite_f, ↓ite_t, ↓reduceIte, post, post2, decide_true, decide_false, opds, Nat.reduceEqDiff, Nat.reduceAdd, Nat.zero_add, Nat.add_zero, Nat.mul_one, Int.toNat_natCast, Int.reduceToNat]
    refine call_rule (k126 (secret.length : Int) hn4 hx4.size (by simp [le8]; omega)) ?_
    rintro en w5 ⟨u5, rfl, hn5, hf5⟩
    refine ⟨_, rfl, ?_⟩
    have hx5 : Ex w1 w5 := Fr.young hx4 hf5 (fun k h => h)
    simp -dsimp (disch := first | omega | rfl | simp only [all_cons, all_nil, plain_w32, plain_w8, plain_w64, plain_ws, plain_int, plain_bool, plain_slice, plain_ptr, plain_map, plain_iface, Bool.and_self]) only [↓pre, ↓pre2, ↓pre3, ↓look_cons, ↓look_bnd, ↓look_bnd0, ↓opd_tmp, ↓opd_const, ↓ite_f, ↓ite_t, ↓reduceIte, post, post2, decide_true, decide_false, opds, Nat.reduceEqDiff, Nat.reduceAdd, Nat.zero_add, Nat.add_zero, Nat.mul_one, Int.toNat_natCast, Int.reduceToNat]
    have hcut := (hn1.bs.ex hx5).cut (lo := 0) (hi := 32) (m := c1) (by omega) (by omega) (by omega)
    rw [List.drop_zero] at hcut
    refine call_rule (k125 hcut hn5.bs (by simp [hb64]) (by simp [le8]; omega)) ?_
    rintro en w6 ⟨u6, rfl, hn6, hx6⟩
    refine ⟨_, rfl, ?_⟩
    simp -dsimp (disch := first | omega | rfl | simp only [all_cons, all_nil, plain_w32, plain_w8, plain_w64, plain_ws, plain_int, plain_bool, plain_slice, plain_ptr, plain_map, plain_iface, Bool.and_self]) only [↓pre, ↓pre2, ↓pre3, ↓look_cons, ↓look_bnd, ↓look_bnd0, ↓opd_tmp, ↓opd_const, ↓ite_f, ↓ite_t, ↓reduceIte, post, post2, decide_true, decide_false, opds, Nat.reduceEqDiff, Nat.reduceAdd, Nat.zero_add, Nat.add_zero, Nat.mul_one, Int.toNat_natCast, Int.reduceToNat]
    have hE5 := hx1.trans hx5
    exact ⟨_, rfl, hn6.mono hE5.size, hE5.trans hx6⟩
  · simp only [hz, Bool.false_eq_true, if_false] at hn1 ⊢
    simp -dsimp (disch := first | omega | rfl | simp only [all_cons, all_nil, plain_w32, plain_w8, plain_w64, plain_ws, plain_int, plain_bool, plain_slice, plain_ptr, plain_map, plain_iface, Bool.and_self]) only [↓pre, ↓pre2, ↓pre3, ↓look_cons, ↓look_bnd, ↓look_bnd0, ↓opd_tmp, ↓opd_const, ↓ite_f, ↓ite_t, ↓reduceIte, post, post2, decide_true, decide_false, opds, Nat.reduceEqDiff, Nat.reduceAdd, Nat.zero_add, Nat.add_zero, Nat.mul_one, Int.toNat_natCast, Int.reduceToNat, dec_t, dec_f]
    exact ⟨_, rfl, New.nil _ _, hx1⟩

def aeadSeal (key nonce other text : List UInt8) : List UInt8 := chaX key 1 nonce text ++ aeadTag key nonce other (chaX key 1 nonce text)

theorem k51 {w : World} {kv nv ov tv : Value} {key nonce other text : List UInt8} (hk : Bs w.heap kv key) (hn : Bs w.heap nv nonce) (ho : Bs w.heap ov other) (ht : Bs w.heap tv text) (hol : other.length ≤ 1073741824) (htl : text.length ≤ 1073741824) :
    Calls Go.Proofs.Try.prog 51 #[kv, nv, ov, tv] w fun e w' => ∃ u, e = .returned (.tuple #[u, vi (if sized key nonce then 0 else 11)]) ∧
      New w.heap.size w'.heap u (if sized key nonce then aeadSeal key nonce other text else []) ∧ Ex w w' := by
  refine enter mo (args := [kv, nv, ov, tv]) Go.Proofs.Try.func51 c51 (by simp [x51]) ?_
  simp only [x51, env0]
  simp -dsimp (disch := first | omega | rfl | simp only [all_cons, all_nil, plain_w32, plain_w8, plain_w64, plain_ws, plain_int, plain_bool, plain_slice, plain_ptr, plain_map, plain_iface, Bool.and_self]) only [↓pre, ↓pre2, ↓pre3, ↓look_cons, ↓look_bnd, ↓look_bnd0, ↓opd_tmp, ↓opd_const, ↓ite_f, ↓ite_t, ↓reduceIte, post, post2, decide_true, decide_false, opds, Nat.reduceEqDiff, Nat.reduceAdd, Nat.zero_add, Nat.add_zero, Nat.mul_one, Int.toNat_natCast, Int.reduceToNat]
  refine call_rule (k102 1 hk hn ht (by omega)) ?_
  rw [chaCheck_ok _ _ _ (by omega) (by omega)]
  rintro en w1 ⟨u1, rfl, hn1, hx1⟩
  refine ⟨_, rfl, ?_⟩
  by_cases hz : sized key nonce = true
  · simp only [hz, if_true] at hn1 ⊢
    simp -dsimp (disch := first | omega | rfl | simp only [all_cons, all_nil, plain_w32, plain_w8, plain_w64, plain_ws, plain_int, plain_bool, plain_slice, plain_ptr, plain_map, plain_iface, Bool.and_self]) only [↓pre, ↓pre2, ↓pre3, ↓look_cons, ↓look_bnd, ↓look_bnd0, ↓opd_tmp, ↓opd_const, ↓ite_f, ↓ite_t, ↓reduceIte, post, post2, decide_true, decide_false, opds, Nat.reduceEqDiff, Nat.reduceAdd, Nat.zero_add, Nat.add_zero, Nat.mul_one, Int.toNat_natCast, Int.reduceToNat]
    refine call_rule (k103 (hk.ex hx1) (hn.ex hx1) (ho.ex hx1) hn1.bs hol (by rw [chaX_length]; exact htl)) ?_
    simp only [hz, if_true]
    rintro en w2 ⟨u2, rfl, hn2, hx2⟩
    refine ⟨_, rfl, ?_⟩
    simp -dsimp (disch := first | omega | rfl | simp only [all_cons, all_nil, plain_w32, plain_w8, plain_w64, plain_ws, plain_int, plain_bool, plain_slice, plain_ptr, plain_map, plain_iface, Bool.and_self]) only [↓pre, ↓pre2, ↓pre3, ↓look_cons, ↓look_bnd, ↓look_bnd0, ↓opd_tmp, ↓opd_const, ↓ite_f, ↓ite_t, ↓reduceIte, post, post2, decide_true, decide_false, opds, Nat.reduceEqDiff, Nat.reduceAdd, Nat.zero_add, Nat.add_zero, Nat.mul_one, Int.toNat_natCast, Int.reduceToNat]
    have htag : (aeadTag key nonce other (chaX key 1 nonce text)).length = 16 := polyTag_length _ _
    refine app_bytes el8 rfl rfl (hn1.ex hx2) (by have := (hx1.trans hx2).size; omega) hn2.bs rfl (by rw [chaX_length, htag]; omega) fun s3 w3 hn3 hf3 ho3 => ?_
    simp -dsimp (disch := first | omega | rfl | simp only [all_cons, all_nil, plain_w32, plain_w8, plain_w64, plain_ws, plain_int, plain_bool, plain_slice, plain_ptr, plain_map, plain_iface, Bool.and_self]) only [↓pre, ↓pre2, ↓pre3, ↓look_cons, ↓look_bnd, ↓look_bnd0, ↓opd_tmp, ↓opd_const, ↓ite_f, ↓ite_t, ↓reduceIte, post, post2, decide_true, decide_false, opds, Nat.reduceEqDiff, Nat.reduceAdd, Nat.zero_add, Nat.add_zero, Nat.mul_one, Int.toNat_natCast, Int.reduceToNat]
    exact ⟨_, rfl, hn3, Fr.young (hx1.trans hx2) hf3 (fun k h => h.2)⟩
  · simp only [hz, Bool.false_eq_true, if_false] at hn1 ⊢
    simp -dsimp (disch := first | omega | rfl | simp only [all_cons, all_nil, plain_w32, plain_w8, plain_w64, plain_ws, plain_int, plain_bool, plain_slice, plain_ptr, plain_map, plain_iface, Bool.and_self]) only [↓pre, ↓pre2, ↓pre3, ↓look_cons, ↓look_bnd, ↓look_bnd0, ↓opd_tmp, ↓opd_const, ↓ite_f, ↓ite_t, ↓reduceIte, post, post2, decide_true, decide_false, opds, Nat.reduceEqDiff, Nat.reduceAdd, Nat.zero_add, Nat.add_zero, Nat.mul_one, Int.toNat_natCast, Int.reduceToNat, dec_t, dec_f]
    exact ⟨_, rfl, New.nil _ _, hx1⟩

/-- what a box is opened to: none: it can't be -/
def aeadOpen (key nonce other box : List UInt8) : Option (List UInt8) :=
  let n := box.length - 16
  if aeadTag key nonce other (box.take n) = box.drop n then some (chaX key 1 nonce (box.take n)) else none
def openErr (z : Bool) (o : Option (List UInt8)) : Int := if z then (if o.isSome then 0 else 20) else 11
def openTxt (z : Bool) (o : Option (List UInt8)) : List UInt8 := if z then o.getD [] else []

theorem k62 {w : World} {kv nv ov bv : Value} {key nonce other box : List UInt8} (hk : Bs w.heap kv key) (hn : Bs w.heap nv nonce) (ho : Bs w.heap ov other) (hb : Bs w.heap bv box) (hol : other.length ≤ 1073741824) (hbl : box.length ≤ 1073741824) :
    Calls Go.Proofs.Try.prog 62 #[kv, nv, ov, bv] w fun e w' => ∃ u, e = .returned (.tuple #[u, vi (openErr (sized key nonce) (aeadOpen key nonce other box))]) ∧
      New w.heap.size w'.heap u (openTxt (sized key nonce) (aeadOpen key nonce other box)) ∧ Ex w w' := by
  obtain ⟨a2, c2, rfl, hc2, hn2⟩ := hb.parts
  refine enter mo (args := [kv, nv, ov, .slice a2 box.length c2]) Go.Proofs.Try.func62 c62 (by simp [x62]) ?_
  simp only [x62, env0]
  simp -dsimp (disch := first | omega | rfl | simp only [all_cons, all_nil, plain_w32, plain_w8, plain_w64, plain_ws, plain_int, plain_bool, plain_slice, plain_ptr, plain_map, plain_iface, Bool.and_self]) only [↓pre, ↓pre2, ↓pre3, ↓look_cons, ↓look_bnd, ↓look_bnd0, ↓opd_tmp, ↓opd_const, ↓ite_f, ↓ite_t, ↓reduceIte, post, post2, decide_true, decide_false, opds, Nat.reduceEqDiff, Nat.reduceAdd, Nat.zero_add, Nat.add_zero, Nat.mul_one, Int.toNat_natCast, Int.reduceToNat]
  refine max_rule rfl rfl ?_
  obtain ⟨n, hn', hnl⟩ : ∃ n : Nat, (if (box.length : Int) - 16 < 0 then 0 else (box.length : Int) - 16) = (n : Int) ∧ n = box.length - 16 := by
    by_cases h : (box.length : Int) - 16 < 0
    · exact ⟨0, by rw [if_pos h]; rfl, by omega⟩
    · exact ⟨box.length - 16, by rw [if_neg h]; omega, rfl⟩
  rw [hn']
  clear hn'
  simp -dsimp (disch := first | omega | rfl | simp only [all_cons, all_nil, plain_w32, plain_w8, plain_w64, plain_ws, plain_int, plain_bool, plain_slice, plain_ptr, plain_map, plain_iface, Bool.and_self]) only [↓pre, ↓pre2, ↓pre3, ↓look_cons, ↓look_bnd, ↓look_bnd0, ↓opd_tmp, ↓opd_const, ↓ite_f, ↓ite_t, ↓reduceIte, post, post2, decide_true, decide_false, opds, Nat.reduceEqDiff, Nat.reduceAdd, Nat.zero_add, Nat.add_zero, Nat.mul_one, Int.toNat_natCast, Int.reduceToNat]
  refine sl_rule (m := c2) (h := n) (l := 0) rfl (bnd_ok (i := (n : Int)) rfl (by omega) (by omega)) rfl ?_
  simp -dsimp (disch := first | omega | rfl | simp only [all_cons, all_nil, plain_w32, plain_w8, plain_w64, plain_ws, plain_int, plain_bool, plain_slice, plain_ptr, plain_map, plain_iface, Bool.and_self]) only [↓pre, ↓pre2, ↓pre3, ↓look_cons, ↓look_bnd, ↓look_bnd0, ↓opd_tmp, ↓opd_const, ↓ite_f, ↓ite_t, ↓reduceIte, post, post2, decide_true, decide_false, opds, Nat.reduceEqDiff, Nat.reduceAdd, Nat.zero_add, Nat.add_zero, Nat.mul_one, Int.toNat_natCast, Int.reduceToNat]
  have hcut := hb.cut (lo := 0) (hi := n) (m := c2) (by omega) (by omega) (by omega)
  rw [List.drop_zero] at hcut
  refine call_rule (k103 hk hn ho hcut hol (by simp; omega)) ?_
  rintro en w1 ⟨u1, rfl, hn1, hx1⟩
  refine ⟨_, rfl, ?_⟩
  unfold aeadOpen
  simp only [← hnl]
  by_cases hz : sized key nonce = true
  · simp only [hz, if_true] at hn1 ⊢
    simp -dsimp (disch := first | omega | rfl | simp only [all_cons, all_nil, plain_w32, plain_w8, plain_w64, plain_ws, plain_int, plain_bool, plain_slice, plain_ptr, plain_map, plain_iface, Bool.and_self]) only [↓pre, ↓pre2, ↓pre3, ↓look_cons, ↓look_bnd, ↓look_bnd0, ↓opd_tmp, ↓opd_const, ↓ite_f, ↓ite_t, ↓reduceIte, post, post2, decide_true, decide_false, opds, Nat.reduceEqDiff, Nat.reduceAdd, Nat.zero_add, Nat.add_zero, Nat.mul_one, Int.toNat_natCast, Int.reduceToNat, dec_t, dec_f]
    refine sl_rule (m := c2) (h := box.length) (l := n) rfl rfl (by rw [bnd_ok (i := (n : Int)) rfl (by omega) (by omega)]; rfl) ?_
    have hdr := hb.cut (lo := n) (hi := box.length) (m := c2) (by omega) (by omega) (by omega)
    rw [List.take_length] at hdr
    simp -dsimp (disch := first | omega | rfl | simp only [all_cons, all_nil, plain_w32, plain_w8, plain_w64, plain_ws, plain_int, plain_bool, plain_slice, plain_ptr, plain_map, plain_iface, Bool.and_self]) only [↓pre, ↓pre2, ↓pre3, ↓look_cons, ↓look_bnd, ↓look_bnd0, ↓opd_tmp, ↓opd_const, ↓ite_f, ↓ite_t, ↓reduceIte, post, post2, decide_true, decide_false, opds, Nat.reduceEqDiff, Nat.reduceAdd, Nat.zero_add, Nat.add_zero, Nat.mul_one, Int.toNat_natCast, Int.reduceToNat]
    refine call_rule (k93 hn1.bs (hdr.ex hx1) (by rw [show (aeadTag key nonce other (box.take n)).length = 16 from polyTag_length _ _]; omega)) ?_
    rintro en w2 ⟨rfl, hx2⟩
    refine ⟨_, rfl, ?_⟩
    have hE2 := hx1.trans hx2
    simp -dsimp (disch := first | omega | rfl | simp only [all_cons, all_nil, plain_w32, plain_w8, plain_w64, plain_ws, plain_int, plain_bool, plain_slice, plain_ptr, plain_map, plain_iface, Bool.and_self]) only [↓pre, ↓pre2, ↓pre3, ↓look_cons, ↓look_bnd, ↓look_bnd0, ↓opd_tmp, ↓opd_const, ↓ite_f, ↓ite_t, ↓reduceIte, post, post2, decide_true, decide_false, opds, Nat.reduceEqDiff, Nat.reduceAdd, Nat.zero_add, Nat.add_zero, Nat.mul_one, Int.toNat_natCast, Int.reduceToNat]
    refine cond_ndec (fun hne => ?_) (fun heq => ?_)
    · rw [if_neg hne]
      simp -dsimp (disch := first | omega | rfl | simp only [all_cons, all_nil, plain_w32, plain_w8, plain_w64, plain_ws, plain_int, plain_bool, plain_slice, plain_ptr, plain_map, plain_iface, Bool.and_self]) only [↓pre, ↓pre2, ↓pre3, ↓look_cons, ↓look_bnd, ↓look_bnd0, ↓opd_tmp, ↓opd_const, ↓ite_f, ↓ite_t, ↓reduceIte, post, post2, decide_true, decide_false, opds, Nat.reduceEqDiff, Nat.reduceAdd, Nat.zero_add, Nat.add_zero, Nat.mul_one, Int.toNat_natCast, Int.reduceToNat]
      exact ⟨_, rfl, New.nil _ _, hE2⟩
    · rw [if_pos heq]
      simp -dsimp (disch := first | omega | rfl | simp only [all_cons, all_nil, plain_w32, plain_w8, plain_w64, plain_ws, plain_int, plain_bool, plain_slice, plain_ptr, plain_map, plain_iface, Bool.and_self]) only [↓pre, ↓pre2, ↓pre3, ↓look_cons, ↓look_bnd, ↓look_bnd0, ↓opd_tmp, ↓opd_const, ↓ite_f, ↓ite_t, ↓reduceIte, post, post2, decide_true, decide_false, opds, Nat.reduceEqDiff, Nat.reduceAdd, Nat.zero_add, Nat.add_zero, Nat.mul_one, Int.toNat_natCast, Int.reduceToNat]
      refine sl_rule (m := c2) (h := n) (l := 0) rfl (bnd_ok (i := (n : Int)) rfl (by omega) (by omega)) rfl ?_
      simp -dsimp (disch := first | omega | rfl | simp only [all_cons, all_nil, plain_w32, plain_w8, plain_w64, plain_ws, plain_int, plain_bool, plain_slice, plain_ptr, plain_map, plain_iface, Bool.and_self]) only [↓pre, ↓pre2, ↓pre3, ↓look_cons, ↓look_bnd, ↓look_bnd0, ↓opd_tmp, ↓opd_const, ↓ite_f, ↓ite_t, ↓reduceIte, post, post2, decide_true, decide_false, opds, Nat.reduceEqDiff, Nat.reduceAdd, Nat.zero_add, Nat.add_zero, Nat.mul_one, Int.toNat_natCast, Int.reduceToNat]
      refine call_rule (k102 1 (hk.ex hE2) (hn.ex hE2) (hcut.ex hE2) (by simp; omega)) ?_
      rw [chaCheck_ok _ _ _ (by omega) (by omega)]
      simp only [hz, if_true]
      rintro en w3 ⟨u3, rfl, hn3, hx3⟩
      refine ⟨_, rfl, ?_⟩
      simp -dsimp (disch := first | omega | rfl | simp only [all_cons, all_nil, plain_w32, plain_w8, plain_w64, plain_ws, plain_int, plain_bool, plain_slice, plain_ptr, plain_map, plain_iface, Bool.and_self]) only [↓pre, ↓pre2, ↓pre3, ↓look_cons, ↓look_bnd, ↓look_bnd0, ↓opd_tmp, ↓opd_const, ↓ite_f, ↓ite_t, ↓reduceIte, post, post2, decide_true, decide_false, opds, Nat.reduceEqDiff, Nat.reduceAdd, Nat.zero_add, Nat.add_zero, Nat.mul_one, Int.toNat_natCast, Int.reduceToNat]
      exact ⟨_, rfl, hn3.mono hE2.size, hE2.trans hx3⟩
  · have hz' : sized key nonce = false := by simpa using hz
    simp only [hz', Bool.false_eq_true, if_false] at hn1 ⊢
    simp -dsimp (disch := first | omega | rfl | simp only [all_cons, all_nil, plain_w32, plain_w8, plain_w64, plain_ws, plain_int, plain_bool, plain_slice, plain_ptr, plain_map, plain_iface, Bool.and_self]) only [↓pre, ↓pre2, ↓pre3, ↓look_cons, ↓look_bnd, ↓look_bnd0, ↓opd_tmp, ↓opd_const, ↓ite_f, ↓ite_t, ↓reduceIte, post, post2, decide_true, decide_false, opds, Nat.reduceEqDiff, Nat.reduceAdd, Nat.zero_add, Nat.add_zero, Nat.mul_one, Int.toNat_natCast, Int.reduceToNat, dec_t, dec_f]
    exact ⟨_, rfl, New.nil _ _, hx1⟩
attribute [irreducible] aeadTag aeadSeal
end Go.Lk
