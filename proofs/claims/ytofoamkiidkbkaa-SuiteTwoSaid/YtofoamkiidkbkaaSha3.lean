/- SHA-256: the sum of a hash, and of parts. No statement of the seat is proved in this text. -/
import Derived.Test.YtofoamkiidkbkaaSha2
import Derived.Test.YtofoamkiidkbkaaSui
set_option linter.unusedSimpArgs false
set_option linter.unusedVariables false
set_option linter.unusedSectionVars false
set_option linter.unnecessarySimpa false
set_option maxRecDepth 10000
namespace Go.Lk

/-- how many zeros fill up -/
def shaFill (n : Nat) : Nat := (120 - n % 64) % 64
def shaTail (r : List UInt8) (n : Nat) : List UInt8 := r ++ [128] ++ List.replicate (shaFill (r.length + 1)) 0 ++ be8 (n * 8)
def wordBytes (x : BitVec 32) : List UInt8 := [⟨(x >>> 24).setWidth 8⟩, ⟨(x >>> 16).setWidth 8⟩, ⟨(x >>> 8).setWidth 8⟩, ⟨x.setWidth 8⟩]
/-- THE SUM of bytes -/
def shaSum (l : List UInt8) : List UInt8 := (takeIn (takeIn shaIv l).1 (shaTail (takeIn shaIv l).2 l.length)).1.flatMap wordBytes

theorem Hs.ex {B b : Nat} {l : List UInt8} {w w' : World} (h : Hs B w.heap b l) (he : Ex w w') : Hs B w'.heap b l := by
  obtain ⟨h0, r, h1, h2, h3⟩ := h
  exact ⟨h0, r, h1.ex he, h2.ex he, h3⟩

theorem takeIn_mul {s : List (BitVec 32)} {l : List UInt8} (h : l.length % 64 = 0) (h0 : ¬ 0 < l.length) : (takeIn s l).1 = s := by
  rw [takeIn_small (by omega)]

theorem be8_take (n : Int) (k : Nat) (hk : k < 8) : (be8 n).take (k + 1) = (be8 n).take k ++ [nb n (7 - k)] := by
  match k, hk with
  | 0, _ | 1, _ | 2, _ | 3, _ | 4, _ | 5, _ | 6, _ | 7, _ => rfl

theorem k107 {w : World} {B b : Nat} {l : List UInt8} (hh : Hs B w.heap b l) (hl : l.length ≤ 1099511627776) :
    Calls Go.Proofs.Try.prog 107 #[.pointer (some ⟨b, 0, none⟩)] w fun e w' => ∃ v, e = .returned v ∧ New w.heap.size w'.heap v (shaSum l) ∧ Ex w w' := by
  obtain ⟨hBb, r, hc, hr, hrb⟩ := hh
  have hst := takeIn_length (s := shaIv) rfl l
  have hrl := takeIn_rest (s := shaIv) l
  unfold shaSum
  generalize hti : takeIn shaIv l = ti at hc hr hst hrl
  obtain ⟨st, rest⟩ := ti
  simp only at hc hr hst hrl ⊢
  refine enter mo (args := [.pointer (some ⟨b, 0, none⟩)]) Go.Proofs.Try.func107 c107 (by simp [x107]) ?_
  simp only [x107, env0]
  simp -dsimp (disch := first | omega | rfl | simp only [all_cons, all_nil, plain_w32, plain_w8, plain_w64, plain_ws, plain_int, plain_bool, plain_slice, plain_ptr, plain_map, plain_iface, Bool.and_self]) only [↓pre, ↓pre2, ↓pre3, ↓look_cons, ↓look_bnd, ↓look_bnd0, ↓opd_tmp, ↓opd_const, ↓ite_f, ↓ite_t, ↓reduceIte, post, post2, decide_true, decide_false, opds, Nat.reduceEqDiff, Nat.reduceAdd, Nat.zero_add, Nat.add_zero, Nat.mul_one, Int.toNat_natCast, Int.reduceToNat]
  refine lit_rule (xs := []) (vs := []) el8 rfl rfl rfl rfl (by omega) fun b0 w1 hb0 hc0 he1 hs1 => ?_
  simp -dsimp (disch := first | omega | rfl | simp only [all_cons, all_nil, plain_w32, plain_w8, plain_w64, plain_ws, plain_int, plain_bool, plain_slice, plain_ptr, plain_map, plain_iface, Bool.and_self]) only [↓pre, ↓pre2, ↓pre3, ↓look_cons, ↓look_bnd, ↓look_bnd0, ↓opd_tmp, ↓opd_const, ↓ite_f, ↓ite_t, ↓reduceIte, post, post2, decide_true, decide_false, opds, Nat.reduceEqDiff, Nat.reduceAdd, Nat.zero_add, Nat.add_zero, Nat.mul_one, Int.toNat_natCast, Int.reduceToNat, (hc.ex he1).cell, hc_8 hst]
  have hn0 : New w.heap.size w1.heap (.slice (some ⟨b0, 0, none⟩) 0 0) [] := Cw.new (l := []) hc0 (by omega) rfl
  refine app_bytes el8 rfl rfl hn0 (by omega) (hr.bs.ex he1) rfl (by simp; omega) fun s2 w2 hn2 hf2 ho2 => ?_
  have hE2 : Ex w w2 := Fr.young he1 hf2 (fun k hk => hk.2)
  simp -dsimp (disch := first | omega | rfl | simp only [all_cons, all_nil, plain_w32, plain_w8, plain_w64, plain_ws, plain_int, plain_bool, plain_slice, plain_ptr, plain_map, plain_iface, Bool.and_self]) only [↓pre, ↓pre2, ↓pre3, ↓look_cons, ↓look_bnd, ↓look_bnd0, ↓opd_tmp, ↓opd_const, ↓ite_f, ↓ite_t, ↓reduceIte, post, post2, decide_true, decide_false, opds, Nat.reduceEqDiff, Nat.reduceAdd, Nat.zero_add, Nat.add_zero, Nat.mul_one, Int.toNat_natCast, Int.reduceToNat]
  refine lit_rule (xs := [.const (w8 128)]) (vs := [w8 (128)]) el8 rfl rfl rfl rfl (by omega) fun b3 w3 hb3 hc3 he3 hs3 => ?_
  simp -dsimp (disch := first | omega | rfl | simp only [all_cons, all_nil, plain_w32, plain_w8, plain_w64, plain_ws, plain_int, plain_bool, plain_slice, plain_ptr, plain_map, plain_iface, Bool.and_self]) only [↓pre, ↓pre2, ↓pre3, ↓look_cons, ↓look_bnd, ↓look_bnd0, ↓opd_tmp, ↓opd_const, ↓ite_f, ↓ite_t, ↓reduceIte, post, post2, decide_true, decide_false, opds, Nat.reduceEqDiff, Nat.reduceAdd, Nat.zero_add, Nat.add_zero, Nat.mul_one, Int.toNat_natCast, Int.reduceToNat]
  have hE3 := hE2.trans he3
  refine app_bytes el8 rfl rfl (hn2.ex he3) (by have := hE3.size; omega) (r := [128]) (Cw.bs (l := [128]) hc3 (by simp)) rfl (by simp; omega) fun s4 w4 hn4 hf4 ho4 => ?_
  have hE4 : Ex w w4 := Fr.young hE3 hf4 (fun k hk => hk.2)
  simp -dsimp (disch := first | omega | rfl | simp only [all_cons, all_nil, plain_w32, plain_w8, plain_w64, plain_ws, plain_int, plain_bool, plain_slice, plain_ptr, plain_map, plain_iface, Bool.and_self]) only [↓pre, ↓pre2, ↓pre3, ↓look_cons, ↓look_bnd, ↓look_bnd0, ↓opd_tmp, ↓opd_const, ↓ite_f, ↓ite_t, ↓reduceIte, post, post2, decide_true, decide_false, opds, Nat.reduceEqDiff, Nat.reduceAdd, Nat.zero_add, Nat.add_zero, Nat.mul_one, Int.toNat_natCast, Int.reduceToNat]
  have ht0 : ([] ++ rest ++ [128] : List UInt8).length = rest.length + 1 := by simp
  generalize ht0e : ([] ++ rest ++ [128] : List UInt8) = t0 at hn4 ht0
  have hK : (rest.length + 1 + shaFill (rest.length + 1)) % 64 = 56 ∧ ∀ j, j < shaFill (rest.length + 1) → (rest.length + 1 + j) % 64 ≠ 56 := by
    unfold shaFill
    refine ⟨by omega, fun j hj => by omega⟩
  have hK64 : shaFill (rest.length + 1) < 64 := Nat.mod_lt _ (by omega)
  refine loop_rule (fun k : Nat × Value => [(3, k.2), (0, .pointer (some ⟨b, 0, none⟩))])
    (fun k v => k.1 ≤ shaFill (rest.length + 1) ∧ New w.heap.size v.heap k.2 (t0 ++ List.replicate k.1 0) ∧ Ex w v) (fun k => shaFill (rest.length + 1) - k.1) (0, s4) (by simp [sub, look, bnd, add_addr]) ⟨by simp, by simpa using hn4, hE4⟩ ?_
  rintro ⟨j, s5⟩ w5 ⟨hj, hn5, hE5⟩
  simp only at hj hn5
  obtain ⟨a5, c5, rfl, hcap5, hne5⟩ := hn5.bs.parts
  simp -dsimp (disch := first | omega | rfl | simp only [all_cons, all_nil, plain_w32, plain_w8, plain_w64, plain_ws, plain_int, plain_bool, plain_slice, plain_ptr, plain_map, plain_iface, Bool.and_self]) only [↓pre, ↓pre2, ↓pre3, ↓look_cons, ↓look_bnd, ↓look_bnd0, ↓opd_tmp, ↓opd_const, ↓ite_f, ↓ite_t, ↓reduceIte, post, post2, decide_true, decide_false, opds, Nat.reduceEqDiff, Nat.reduceAdd, Nat.zero_add, Nat.add_zero, Nat.mul_one, Int.toNat_natCast, Int.reduceToNat]
  refine cond_ndec (fun hlt => ?_) (fun hge => ?_)
  · simp -dsimp (disch := first | omega | rfl | simp only [all_cons, all_nil, plain_w32, plain_w8, plain_w64, plain_ws, plain_int, plain_bool, plain_slice, plain_ptr, plain_map, plain_iface, Bool.and_self]) only [↓pre, ↓pre2, ↓pre3, ↓look_cons, ↓look_bnd, ↓look_bnd0, ↓opd_tmp, ↓opd_const, ↓ite_f, ↓ite_t, ↓reduceIte, post, post2, decide_true, decide_false, opds, Nat.reduceEqDiff, Nat.reduceAdd, Nat.zero_add, Nat.add_zero, Nat.mul_one, Int.toNat_natCast, Int.reduceToNat]
    refine lit_rule (xs := [.const (w8 0)]) (vs := [w8 (0)]) el8 rfl rfl rfl rfl (by omega) fun b6 w6 hb6 hc6 he6 hs6 => ?_
    simp -dsimp (disch := first | omega | rfl | simp only [all_cons, all_nil, plain_w32, plain_w8, plain_w64, plain_ws, plain_int, plain_bool, plain_slice, plain_ptr, plain_map, plain_iface, Bool.and_self]) only [↓pre, ↓pre2, ↓pre3, ↓look_cons, ↓look_bnd, ↓look_bnd0, ↓opd_tmp, ↓opd_const, ↓ite_f, ↓ite_t, ↓reduceIte, post, post2, decide_true, decide_false, opds, Nat.reduceEqDiff, Nat.reduceAdd, Nat.zero_add, Nat.add_zero, Nat.mul_one, Int.toNat_natCast, Int.reduceToNat]
    have hE6 := hE5.trans he6
    refine app_bytes el8 rfl rfl (hn5.ex he6) (by have := hE6.size; omega) (r := [0]) (Cw.bs (l := [0]) hc6 (by simp)) rfl (by simp; omega) fun s7 w7 hn7 hf7 ho7 => ?_
    have hE7 : Ex w w7 := Fr.young hE6 hf7 (fun k hk => hk.2)
    simp -dsimp (disch := first | omega | rfl | simp only [all_cons, all_nil, plain_w32, plain_w8, plain_w64, plain_ws, plain_int, plain_bool, plain_slice, plain_ptr, plain_map, plain_iface, Bool.and_self]) only [↓pre, ↓pre2, ↓pre3, ↓look_cons, ↓look_bnd, ↓look_bnd0, ↓opd_tmp, ↓opd_const, ↓ite_f, ↓ite_t, ↓reduceIte, post, post2, decide_true, decide_false, opds, Nat.reduceEqDiff, Nat.reduceAdd, Nat.zero_add, Nat.add_zero, Nat.mul_one, Int.toNat_natCast, Int.reduceToNat]
    have hj2 : j < shaFill (rest.length + 1) := by
      rcases Nat.lt_or_ge j (shaFill (rest.length + 1)) with h | h
      · exact h
      · exfalso
        have hje : j = shaFill (rest.length + 1) := by omega
        apply hlt
        simp only [List.length_append, List.length_replicate, ht0, hje]
        omega
    refine ⟨(j + 1, s7), by simp [sub, look, bnd, add_addr], ⟨by simp only; omega, ?_, hE7⟩, by simp only; omega⟩
    simp only
    rw [List.replicate_succ']
    simpa using hn7
  · simp -dsimp (disch := first | omega | rfl | simp only [all_cons, all_nil, plain_w32, plain_w8, plain_w64, plain_ws, plain_int, plain_bool, plain_slice, plain_ptr, plain_map, plain_iface, Bool.and_self]) only [↓pre, ↓pre2, ↓pre3, ↓look_cons, ↓look_bnd, ↓look_bnd0, ↓opd_tmp, ↓opd_const, ↓ite_f, ↓ite_t, ↓reduceIte, post, post2, decide_true, decide_false, opds, Nat.reduceEqDiff, Nat.reduceAdd, Nat.zero_add, Nat.add_zero, Nat.mul_one, Int.toNat_natCast, Int.reduceToNat]
    have hje : j = shaFill (rest.length + 1) := by
      rcases Nat.lt_or_ge j (shaFill (rest.length + 1)) with h | h
      · exfalso
        have := hK.2 j h
        simp only [List.length_append, List.length_replicate, ht0] at hge
        omega
      · omega
    subst hje
    have ht1 : (t0 ++ List.replicate (shaFill (rest.length + 1)) 0 : List UInt8).length % 64 = 56 := by
      simp only [List.length_append, List.length_replicate, ht0]
      omega
    have ht1l : (t0 ++ List.replicate (shaFill (rest.length + 1)) 0 : List UInt8).length ≤ rest.length + 65 := by
      simp only [List.length_append, List.length_replicate, ht0]
      omega
    have hT : shaTail rest l.length = (t0 ++ List.replicate (shaFill (rest.length + 1)) 0 : List UInt8) ++ be8 (l.length * 8) := by
      rw [← ht0e]; simp [shaTail]
    rw [hT]
    generalize (t0 ++ List.replicate (shaFill (rest.length + 1)) 0 : List UInt8) = t1 at hn5 ht1 ht1l hcap5 hne5 ⊢
    refine loop_rule (fun k : Nat × Value => [(4, vi (56 - 8 * k.1)), (3, k.2), (0, .pointer (some ⟨b, 0, none⟩))])
      (fun k v => k.1 ≤ 8 ∧ New w.heap.size v.heap k.2 (t1 ++ (be8 (l.length * 8)).take k.1) ∧ Ex w v) (fun k => 8 - k.1) (0, .slice a5 t1.length c5) (by simp [sub, look, bnd, add_addr]) ⟨by simp, by simpa using hn5, hE5⟩ ?_
    rintro ⟨k, s6⟩ w6 ⟨hk, hn6, hE6⟩
    simp only at hk hn6
    simp -dsimp (disch := first | omega | rfl | simp only [all_cons, all_nil, plain_w32, plain_w8, plain_w64, plain_ws, plain_int, plain_bool, plain_slice, plain_ptr, plain_map, plain_iface, Bool.and_self]) only [↓pre, ↓pre2, ↓pre3, ↓look_cons, ↓look_bnd, ↓look_bnd0, ↓opd_tmp, ↓opd_const, ↓ite_f, ↓ite_t, ↓reduceIte, post, post2, decide_true, decide_false, opds, Nat.reduceEqDiff, Nat.reduceAdd, Nat.zero_add, Nat.add_zero, Nat.mul_one, Int.toNat_natCast, Int.reduceToNat]
    refine cond_dec (fun hlt => ?_) (fun hge => ?_)
    · simp -dsimp (disch := first | omega | rfl | simp only [all_cons, all_nil, plain_w32, plain_w8, plain_w64, plain_ws, plain_int, plain_bool, plain_slice, plain_ptr, plain_map, plain_iface, Bool.and_self]) only [↓pre, ↓pre2, ↓pre3, ↓look_cons, ↓look_bnd, ↓look_bnd0, ↓opd_tmp, ↓opd_const, ↓ite_f, ↓ite_t, ↓reduceIte, post, post2, decide_true, decide_false, opds, Nat.reduceEqDiff, Nat.reduceAdd, Nat.zero_add, Nat.add_zero, Nat.mul_one, Int.toNat_natCast, Int.reduceToNat, (hc.ex hE6).cell, hc_9 hst]
      refine lit_rule (xs := [.tmp 36]) (vs := [w8 ((UInt8.ofNat ((l.length : Int) * 8 / 2 ^ (56 - 8 * (k : Int)).toNat % 256).toNat))]) el8 rfl rfl rfl rfl (by omega) fun b7 w7 hb7 hc7 he7 hs7 => ?_
      simp -dsimp (disch := first | omega | rfl | simp only [all_cons, all_nil, plain_w32, plain_w8, plain_w64, plain_ws, plain_int, plain_bool, plain_slice, plain_ptr, plain_map, plain_iface, Bool.and_self]) only [↓pre, ↓pre2, ↓pre3, ↓look_cons, ↓look_bnd, ↓look_bnd0, ↓opd_tmp, ↓opd_const, ↓ite_f, ↓ite_t, ↓reduceIte, post, post2, decide_true, decide_false, opds, Nat.reduceEqDiff, Nat.reduceAdd, Nat.zero_add, Nat.add_zero, Nat.mul_one, Int.toNat_natCast, Int.reduceToNat]
      have hE7 := hE6.trans he7
      refine app_bytes el8 rfl rfl (hn6.ex he7) (by have := hE7.size; omega) (r := [(UInt8.ofNat ((l.length : Int) * 8 / 2 ^ (56 - 8 * (k : Int)).toNat % 256).toNat)]) (Cw.bs (l := [(UInt8.ofNat ((l.length : Int) * 8 / 2 ^ (56 - 8 * (k : Int)).toNat % 256).toNat)]) hc7 (by simp)) rfl (by simp; omega) fun s8 w8 hn8 hf8 ho8 => ?_
      have hE8 : Ex w w8 := Fr.young hE7 hf8 (fun k hk => hk.2)
      simp -dsimp (disch := first | omega | rfl | simp only [all_cons, all_nil, plain_w32, plain_w8, plain_w64, plain_ws, plain_int, plain_bool, plain_slice, plain_ptr, plain_map, plain_iface, Bool.and_self]) only [↓pre, ↓pre2, ↓pre3, ↓look_cons, ↓look_bnd, ↓look_bnd0, ↓opd_tmp, ↓opd_const, ↓ite_f, ↓ite_t, ↓reduceIte, post, post2, decide_true, decide_false, opds, Nat.reduceEqDiff, Nat.reduceAdd, Nat.zero_add, Nat.add_zero, Nat.mul_one, Int.toNat_natCast, Int.reduceToNat]
      refine ⟨(k + 1, s8), by simp [sub, look, bnd, add_addr]; omega, ⟨by simp only; omega, ?_, hE8⟩, by simp only; omega⟩
      simp only
      rw [be8_take _ k (by omega), ← List.append_assoc]
      have : nb ((l.length : Int) * 8) (7 - k) = UInt8.ofNat ((l.length : Int) * 8 / 2 ^ (56 - 8 * (k : Int)).toNat % 256).toNat := by
        rw [nb, show (56 - 8 * (k : Int)).toNat = 8 * (7 - k) by omega]
      rw [this]
      exact hn8
    · have hk8 : k = 8 := by omega
      subst hk8
      simp -dsimp (disch := first | omega | rfl | simp only [all_cons, all_nil, plain_w32, plain_w8, plain_w64, plain_ws, plain_int, plain_bool, plain_slice, plain_ptr, plain_map, plain_iface, Bool.and_self]) only [↓pre, ↓pre2, ↓pre3, ↓look_cons, ↓look_bnd, ↓look_bnd0, ↓opd_tmp, ↓opd_const, ↓ite_f, ↓ite_t, ↓reduceIte, post, post2, decide_true, decide_false, opds, Nat.reduceEqDiff, Nat.reduceAdd, Nat.zero_add, Nat.add_zero, Nat.mul_one, Int.toNat_natCast, Int.reduceToNat]
      refine lda_rule (st.map w32) (by simpa using hst) (fun i hi => by rw [Nat.zero_add, (hc.ex hE6).cell, hc_get hst _ _ i hi]) ?_
      simp -dsimp (disch := first | omega | rfl | simp only [all_cons, all_nil, plain_w32, plain_w8, plain_w64, plain_ws, plain_int, plain_bool, plain_slice, plain_ptr, plain_map, plain_iface, Bool.and_self]) only [↓pre, ↓pre2, ↓pre3, ↓look_cons, ↓look_bnd, ↓look_bnd0, ↓opd_tmp, ↓opd_const, ↓ite_f, ↓ite_t, ↓reduceIte, post, post2, decide_true, decide_false, opds, Nat.reduceEqDiff, Nat.reduceAdd, Nat.zero_add, Nat.add_zero, Nat.mul_one, Int.toNat_natCast, Int.reduceToNat]
      refine alloc_rule (z := (List.replicate 8 (0#32)).map w32) (by kernel_rfl) fun b7 w7 hb7 hc7 he7 hs7 => ?_
      simp -dsimp (disch := first | omega | rfl | simp only [all_cons, all_nil, plain_w32, plain_w8, plain_w64, plain_ws, plain_int, plain_bool, plain_slice, plain_ptr, plain_map, plain_iface, Bool.and_self]) only [↓pre, ↓pre2, ↓pre3, ↓look_cons, ↓look_bnd, ↓look_bnd0, ↓opd_tmp, ↓opd_const, ↓ite_f, ↓ite_t, ↓reduceIte, post, post2, decide_true, decide_false, opds, Nat.reduceEqDiff, Nat.reduceAdd, Nat.zero_add, Nat.add_zero, Nat.mul_one, Int.toNat_natCast, Int.reduceToNat]
      refine stores_all (cs := st.map w32) hc7 (by simp [Value.cells]) (by simpa using hst) (by simp) (by simp [plain_w32]) fun w8 hc8 hf8 hs8 => ?_
      have hE8 : Ex w w8 := Ex.young (hE6.trans he7) hf8 (by have := hE6.size; omega)
      have hb7w : w.heap.size ≤ b7 := by have := hE6.size; omega
      have hnb : s6.ownBlock ≠ some b7 := fun e => by
        obtain ⟨a, c, rfl, h1, h2⟩ := hn6.bs.parts
        obtain ⟨b', o', e'⟩ := h2 (by intro h; have := congrArg List.length h; simp [be8] at this)
        subst e'
        simp only [Value.ownBlock, Option.some.injEq] at e
        obtain ⟨_, _, he, _, _, hx⟩ := hn6.bs
        injection he with h3 h4 h5
        subst h3
        obtain ⟨b2, o2, h6, cs, E, fr, h7, _⟩ := hx (by simp [be8])
        injection h6 with h6
        injection h6 with h6
        have := (Array.getElem?_eq_some_iff.1 h7).1
        omega
      have hn8 : New w.heap.size w8.heap s6 (t1 ++ (be8 (l.length * 8)).take 8) := New.fr (M := (· = b7)) (hn6.ex he7) hf8 (fun k hk _ _ e => hnb (by rw [hk, e]))
      rw [show (be8 ((l.length : Int) * 8)).take 8 = be8 (l.length * 8) from rfl] at hn8
      have hfull : (t1 ++ be8 ((l.length : Int) * 8)).length % 64 = 0 := by simp [be8]; omega
      simp -dsimp (disch := first | omega | rfl | simp only [all_cons, all_nil, plain_w32, plain_w8, plain_w64, plain_ws, plain_int, plain_bool, plain_slice, plain_ptr, plain_map, plain_iface, Bool.and_self]) only [↓pre, ↓pre2, ↓pre3, ↓look_cons, ↓look_bnd, ↓look_bnd0, ↓opd_tmp, ↓opd_const, ↓ite_f, ↓ite_t, ↓reduceIte, post, post2, decide_true, decide_false, opds, Nat.reduceEqDiff, Nat.reduceAdd, Nat.zero_add, Nat.add_zero, Nat.mul_one, Int.toNat_natCast, Int.reduceToNat]
      refine loop_rule (fun k : Value × List (BitVec 32) × List UInt8 => [(3, k.1), (5, .pointer (some ⟨b7, 0, none⟩))])
        (fun k v => k.2.1.length = 8 ∧ k.2.2.length % 64 = 0 ∧ k.2.2.length < 9223372036854775808 ∧ (takeIn k.2.1 k.2.2).1 = (takeIn st (t1 ++ be8 (l.length * 8))).1 ∧ k.1.ownBlock ≠ some b7 ∧ New w.heap.size v.heap k.1 k.2.2 ∧ Cw v.heap b7 (k.2.1.map w32) ∧ Ex w v)
        (fun k => k.2.2.length) (s6, st, t1 ++ be8 (l.length * 8)) (by simp [sub, look, bnd, add_addr]) ⟨hst, hfull, by simp [be8]; omega, rfl, hnb, hn8, hc8, hE8⟩ ?_
      rintro ⟨s9, st9, t9⟩ w9 ⟨hst9, hm9, hl9, hq9, hnb9, hn9, hc9, hE9⟩
      simp only at hst9 hm9 hl9 hq9 hnb9 hn9 hc9
      obtain ⟨a9, c9, rfl, hcap9, hne9⟩ := hn9.bs.parts
      simp -dsimp (disch := first | omega | rfl | simp only [all_cons, all_nil, plain_w32, plain_w8, plain_w64, plain_ws, plain_int, plain_bool, plain_slice, plain_ptr, plain_map, plain_iface, Bool.and_self]) only [↓pre, ↓pre2, ↓pre3, ↓look_cons, ↓look_bnd, ↓look_bnd0, ↓opd_tmp, ↓opd_const, ↓ite_f, ↓ite_t, ↓reduceIte, post, post2, decide_true, decide_false, opds, Nat.reduceEqDiff, Nat.reduceAdd, Nat.zero_add, Nat.add_zero, Nat.mul_one, Int.toNat_natCast, Int.reduceToNat]
      refine cond_dec (fun hlt => ?_) (fun hge => ?_)
      · simp -dsimp (disch := first | omega | rfl | simp only [all_cons, all_nil, plain_w32, plain_w8, plain_w64, plain_ws, plain_int, plain_bool, plain_slice, plain_ptr, plain_map, plain_iface, Bool.and_self]) only [↓pre, ↓pre2, ↓pre3, ↓look_cons, ↓look_bnd, ↓look_bnd0, ↓opd_tmp, ↓opd_const, ↓ite_f, ↓ite_t, ↓reduceIte, post, post2, decide_true, decide_false, opds, Nat.reduceEqDiff, Nat.reduceAdd, Nat.zero_add, Nat.add_zero, Nat.mul_one, Int.toNat_natCast, Int.reduceToNat]
        refine lda_cw hc9 (by simpa using hst9) ?_
        simp -dsimp (disch := first | omega | rfl | simp only [all_cons, all_nil, plain_w32, plain_w8, plain_w64, plain_ws, plain_int, plain_bool, plain_slice, plain_ptr, plain_map, plain_iface, Bool.and_self]) only [↓pre, ↓pre2, ↓pre3, ↓look_cons, ↓look_bnd, ↓look_bnd0, ↓opd_tmp, ↓opd_const, ↓ite_f, ↓ite_t, ↓reduceIte, post, post2, decide_true, decide_false, opds, Nat.reduceEqDiff, Nat.reduceAdd, Nat.zero_add, Nat.add_zero, Nat.mul_one, Int.toNat_natCast, Int.reduceToNat]
        refine call_rule (k127 (l := t9) hn9.bs hst9 (by omega) (by omega)) ?_
        rintro en w10 ⟨rfl, hx10⟩
        refine ⟨_, rfl, ?_⟩
        simp -dsimp (disch := first | omega | rfl | simp only [all_cons, all_nil, plain_w32, plain_w8, plain_w64, plain_ws, plain_int, plain_bool, plain_slice, plain_ptr, plain_map, plain_iface, Bool.and_self]) only [↓pre, ↓pre2, ↓pre3, ↓look_cons, ↓look_bnd, ↓look_bnd0, ↓opd_tmp, ↓opd_const, ↓ite_f, ↓ite_t, ↓reduceIte, post, post2, decide_true, decide_false, opds, Nat.reduceEqDiff, Nat.reduceAdd, Nat.zero_add, Nat.add_zero, Nat.mul_one, Int.toNat_natCast, Int.reduceToNat]
        refine stores_all (cs := (compress st9 t9).map w32) (hc9.ex hx10) (by simp [Value.cells]) (by simpa using compress_length hst9) (by simpa using hst9) (by simp [plain_w32]) fun w11 hc11 hf11 hs11 => ?_
        have hE11 := Ex.young (hE9.trans hx10) hf11 hb7w
        have hn11 := New.fr (M := (· = b7)) (hn9.ex hx10) hf11 (fun k hk _ _ e => hnb9 (by rw [hk, e]))
        simp -dsimp (disch := first | omega | rfl | simp only [all_cons, all_nil, plain_w32, plain_w8, plain_w64, plain_ws, plain_int, plain_bool, plain_slice, plain_ptr, plain_map, plain_iface, Bool.and_self]) only [↓pre, ↓pre2, ↓pre3, ↓look_cons, ↓look_bnd, ↓look_bnd0, ↓opd_tmp, ↓opd_const, ↓ite_f, ↓ite_t, ↓reduceIte, post, post2, decide_true, decide_false, opds, Nat.reduceEqDiff, Nat.reduceAdd, Nat.zero_add, Nat.add_zero, Nat.mul_one, Int.toNat_natCast, Int.reduceToNat]
        refine sl_rule (m := c9) (h := t9.length) (l := 64) rfl rfl (bnd_ok (i := 64) rfl (by omega) (by omega)) ?_
        simp -dsimp (disch := first | omega | rfl | simp only [all_cons, all_nil, plain_w32, plain_w8, plain_w64, plain_ws, plain_int, plain_bool, plain_slice, plain_ptr, plain_map, plain_iface, Bool.and_self]) only [↓pre, ↓pre2, ↓pre3, ↓look_cons, ↓look_bnd, ↓look_bnd0, ↓opd_tmp, ↓opd_const, ↓ite_f, ↓ite_t, ↓reduceIte, post, post2, decide_true, decide_false, opds, Nat.reduceEqDiff, Nat.reduceAdd, Nat.zero_add, Nat.add_zero, Nat.mul_one, Int.toNat_natCast, Int.reduceToNat]
        exact ⟨(_, compress st9 t9, t9.drop 64), by simp [sub, look, bnd, add_addr, cutv], ⟨compress_length hst9, by simp; omega, by simp; omega, by show (takeIn (compress st9 t9) (t9.drop 64)).1 = _; rw [← takeIn_step (by omega), hq9],
          fun e => hnb9 (cutv_own e), hn11.cut (by omega), hc11, hE11⟩, by simp; omega⟩
      · have hz : (takeIn st9 t9).1 = st9 := by rw [takeIn_small (by omega)]
        rw [hz] at hq9
        rw [← hq9]
        simp -dsimp (disch := first | omega | rfl | simp only [all_cons, all_nil, plain_w32, plain_w8, plain_w64, plain_ws, plain_int, plain_bool, plain_slice, plain_ptr, plain_map, plain_iface, Bool.and_self]) only [↓pre, ↓pre2, ↓pre3, ↓look_cons, ↓look_bnd, ↓look_bnd0, ↓opd_tmp, ↓opd_const, ↓ite_f, ↓ite_t, ↓reduceIte, post, post2, decide_true, decide_false, opds, Nat.reduceEqDiff, Nat.reduceAdd, Nat.zero_add, Nat.add_zero, Nat.mul_one, Int.toNat_natCast, Int.reduceToNat]
        refine lda_cw hc9 (by simpa using hst9) ?_
        simp -dsimp (disch := first | omega | rfl | simp only [all_cons, all_nil, plain_w32, plain_w8, plain_w64, plain_ws, plain_int, plain_bool, plain_slice, plain_ptr, plain_map, plain_iface, Bool.and_self]) only [↓pre, ↓pre2, ↓pre3, ↓look_cons, ↓look_bnd, ↓look_bnd0, ↓opd_tmp, ↓opd_const, ↓ite_f, ↓ite_t, ↓reduceIte, post, post2, decide_true, decide_false, opds, Nat.reduceEqDiff, Nat.reduceAdd, Nat.zero_add, Nat.add_zero, Nat.mul_one, Int.toNat_natCast, Int.reduceToNat]
        refine loop_rule (fun k : Nat × Value => [(52, vi k.1), (51, .agg (st9.map w32).toArray), (6, k.2)])
          (fun k v => k.1 ≤ 8 ∧ New w.heap.size v.heap k.2 ((st9.take k.1).flatMap wordBytes) ∧ Ex w v) (fun k => 8 - k.1) (0, .slice none 0 0) (by simp [sub, look, bnd, add_addr]) ⟨by simp, by simpa using New.nil _ _, hE9⟩ ?_
        rintro ⟨k, s12⟩ w12 ⟨hk, hn12, hE12⟩
        simp only at hk hn12
        simp -dsimp (disch := first | omega | rfl | simp only [all_cons, all_nil, plain_w32, plain_w8, plain_w64, plain_ws, plain_int, plain_bool, plain_slice, plain_ptr, plain_map, plain_iface, Bool.and_self]) only [↓pre, ↓pre2, ↓pre3, ↓look_cons, ↓look_bnd, ↓look_bnd0, ↓opd_tmp, ↓opd_const, ↓ite_f, ↓ite_t, ↓reduceIte, post, post2, decide_true, decide_false, opds, Nat.reduceEqDiff, Nat.reduceAdd, Nat.zero_add, Nat.add_zero, Nat.mul_one, Int.toNat_natCast, Int.reduceToNat]
        refine cond_dec (fun hlt => ?_) (fun hge => ?_)
        · have hg := map_get hst9
          simp -dsimp (disch := first | omega | rfl | simp only [all_cons, all_nil, plain_w32, plain_w8, plain_w64, plain_ws, plain_int, plain_bool, plain_slice, plain_ptr, plain_map, plain_iface, Bool.and_self]) only [↓pre, ↓pre2, ↓pre3, ↓look_cons, ↓look_bnd, ↓look_bnd0, ↓opd_tmp, ↓opd_const, ↓ite_f, ↓ite_t, ↓reduceIte, post, post2, decide_true, decide_false, opds, Nat.reduceEqDiff, Nat.reduceAdd, Nat.zero_add, Nat.add_zero, Nat.mul_one, Int.toNat_natCast, Int.reduceToNat, ind_ok, hg, words]
          have hk9 : k < st9.length := by omega
          refine lit_rule (xs := [.tmp 58, .tmp 61, .tmp 64, .tmp 66]) (vs := (wordBytes (st9.getD k 0)).map Go.Lk.w8) el8 rfl rfl rfl rfl (by omega) fun b13 w13 hb13 hc13 he13 hs13 => ?_
          simp -dsimp (disch := first | omega | rfl | simp only [all_cons, all_nil, plain_w32, plain_w8, plain_w64, plain_ws, plain_int, plain_bool, plain_slice, plain_ptr, plain_map, plain_iface, Bool.and_self]) only [↓pre, ↓pre2, ↓pre3, ↓look_cons, ↓look_bnd, ↓look_bnd0, ↓opd_tmp, ↓opd_const, ↓ite_f, ↓ite_t, ↓reduceIte, post, post2, decide_true, decide_false, opds, Nat.reduceEqDiff, Nat.reduceAdd, Nat.zero_add, Nat.add_zero, Nat.mul_one, Int.toNat_natCast, Int.reduceToNat]
          have hE13 := hE12.trans he13
          have hfl : ((st9.take k).flatMap wordBytes).length = 4 * k := by
            have : ∀ l : List (BitVec 32), (l.flatMap wordBytes).length = 4 * l.length := fun l => by
              induction l with
              | nil => rfl
              | cons x r ih => simp [ih, wordBytes]; omega
            rw [this]; simp; omega
          refine app_bytes el8 rfl rfl (hn12.ex he13) (by have := hE13.size; omega) (r := wordBytes (st9.getD k 0)) (Cw.bs hc13 (by simp [wordBytes])) rfl (by rw [hfl]; simp [wordBytes]; omega) fun s14 w14 hn14 hf14 ho14 => ?_
          have hE14 : Ex w w14 := Fr.young hE13 hf14 (fun k hk => hk.2)
          simp -dsimp (disch := first | omega | rfl | simp only [all_cons, all_nil, plain_w32, plain_w8, plain_w64, plain_ws, plain_int, plain_bool, plain_slice, plain_ptr, plain_map, plain_iface, Bool.and_self]) only [↓pre, ↓pre2, ↓pre3, ↓look_cons, ↓look_bnd, ↓look_bnd0, ↓opd_tmp, ↓opd_const, ↓ite_f, ↓ite_t, ↓reduceIte, post, post2, decide_true, decide_false, opds, Nat.reduceEqDiff, Nat.reduceAdd, Nat.zero_add, Nat.add_zero, Nat.mul_one, Int.toNat_natCast, Int.reduceToNat]
          refine ⟨(k + 1, s14), by simp [sub, look, bnd, add_addr], ⟨by simp only; omega, ?_, hE14⟩, by simp only; omega⟩
          simp only
          rw [List.take_succ_eq_append_getElem hk9, List.flatMap_append]
          simpa [List.getD, hk9] using hn14
        · have hk8 : k = 8 := by omega
          subst hk8
          rw [List.take_of_length_le (by omega)] at hn12
          simp -dsimp (disch := first | omega | rfl | simp only [all_cons, all_nil, plain_w32, plain_w8, plain_w64, plain_ws, plain_int, plain_bool, plain_slice, plain_ptr, plain_map, plain_iface, Bool.and_self]) only [↓pre, ↓pre2, ↓pre3, ↓look_cons, ↓look_bnd, ↓look_bnd0, ↓opd_tmp, ↓opd_const, ↓ite_f, ↓ite_t, ↓reduceIte, post, post2, decide_true, decide_false, opds, Nat.reduceEqDiff, Nat.reduceAdd, Nat.zero_add, Nat.add_zero, Nat.mul_one, Int.toNat_natCast, Int.reduceToNat]
          exact ⟨_, rfl, hn12, hE12⟩

theorem k58 {w : World} {v : Value} {ps : List (List UInt8)} (hp : Ps w.heap v ps) (hl : ps.flatten.length ≤ 1099511627776) (hn : ps.length < 9223372036854775807) :
    Calls Go.Proofs.Try.prog 58 #[v] w fun e w' => ∃ u, e = .returned u ∧ New w.heap.size w'.heap u (shaSum ps.flatten) ∧ Ex w w' := by
  obtain ⟨a, c, rfl, hc, ha⟩ := hp.parts
  refine enter mo (args := [.slice a ps.length c]) Go.Proofs.Try.func58 c58 (by simp [x58]) ?_
  simp only [x58, env0]
  simp -dsimp (disch := first | omega | rfl | simp only [all_cons, all_nil, plain_w32, plain_w8, plain_w64, plain_ws, plain_int, plain_bool, plain_slice, plain_ptr, plain_map, plain_iface, Bool.and_self]) only [↓pre, ↓pre2, ↓pre3, ↓look_cons, ↓look_bnd, ↓look_bnd0, ↓opd_tmp, ↓opd_const, ↓ite_f, ↓ite_t, ↓reduceIte, post, post2, decide_true, decide_false, opds, Nat.reduceEqDiff, Nat.reduceAdd, Nat.zero_add, Nat.add_zero, Nat.mul_one, Int.toNat_natCast, Int.reduceToNat]
  refine call_rule k104 ?_
  rintro en w1 ⟨b, rfl, hb, hh, he⟩
  refine ⟨_, rfl, ?_⟩
  simp -dsimp (disch := first | omega | rfl | simp only [all_cons, all_nil, plain_w32, plain_w8, plain_w64, plain_ws, plain_int, plain_bool, plain_slice, plain_ptr, plain_map, plain_iface, Bool.and_self]) only [↓pre, ↓pre2, ↓pre3, ↓look_cons, ↓look_bnd, ↓look_bnd0, ↓opd_tmp, ↓opd_const, ↓ite_f, ↓ite_t, ↓reduceIte, post, post2, decide_true, decide_false, opds, Nat.reduceEqDiff, Nat.reduceAdd, Nat.zero_add, Nat.add_zero, Nat.mul_one, Int.toNat_natCast, Int.reduceToNat]
  refine loop_rule (fun k : Nat => [(9, vi k), (8, vi ps.length), (7, .slice a ps.length c), (3, .pointer (some ⟨b, 0, none⟩))])
    (fun k v => k ≤ ps.length ∧ Hs w.heap.size v.heap b (ps.take k).flatten ∧ Ex w v) (fun k => ps.length - k) 0 (by simp [sub, look, bnd, add_addr, bnd]) ⟨by omega, by simpa using hh, he⟩ ?_
  rintro k v ⟨hk, h1, h2⟩
  simp -dsimp (disch := first | omega | rfl | simp only [all_cons, all_nil, plain_w32, plain_w8, plain_w64, plain_ws, plain_int, plain_bool, plain_slice, plain_ptr, plain_map, plain_iface, Bool.and_self]) only [↓pre, ↓pre2, ↓pre3, ↓look_cons, ↓look_bnd, ↓look_bnd0, ↓opd_tmp, ↓opd_const, ↓ite_f, ↓ite_t, ↓reduceIte, post, post2, decide_true, decide_false, opds, Nat.reduceEqDiff, Nat.reduceAdd, Nat.zero_add, Nat.add_zero, Nat.mul_one, Int.toNat_natCast, Int.reduceToNat]
  refine cond_dec (fun hlt => ?_) (fun hge => ?_)
  · have hk' : k < ps.length := by omega
    obtain ⟨b0, o0, rfl⟩ := ha k hk'
    obtain ⟨u, hu, hbu0⟩ := hp.at2 h2 hk'
    have hbu := hbu0.ex h2
    simp -dsimp (disch := first | omega | rfl | simp only [all_cons, all_nil, plain_w32, plain_w8, plain_w64, plain_ws, plain_int, plain_bool, plain_slice, plain_ptr, plain_map, plain_iface, Bool.and_self]) only [↓pre, ↓pre2, ↓pre3, ↓look_cons, ↓look_bnd, ↓look_bnd0, ↓opd_tmp, ↓opd_const, ↓ite_f, ↓ite_t, ↓reduceIte, post, post2, decide_true, decide_false, opds, Nat.reduceEqDiff, Nat.reduceAdd, Nat.zero_add, Nat.add_zero, Nat.mul_one, Int.toNat_natCast, Int.reduceToNat, hu]
    have hbl : (ps.take k).flatten.length + (ps.getD k []).length ≤ ps.flatten.length := by
      have : ps.flatten = (ps.take k).flatten ++ (ps.drop k).flatten := by rw [← List.flatten_append, List.take_append_drop]
      rw [this, List.drop_eq_getElem_cons hk', List.flatten_cons, List.length_append, List.length_append]
      have e : ps.getD k [] = ps[k] := by simp [List.getD, hk']
      rw [e]
      omega
    refine call_rule (k105 h1 hbu (fun h0 e => by have := hbu0.lt h0 e; omega) (by have := h2.size; omega) (by omega)) ?_
    · rintro en w3 ⟨rfl, h3, h4⟩
      refine ⟨_, rfl, ?_⟩
      simp -dsimp (disch := first | omega | rfl | simp only [all_cons, all_nil, plain_w32, plain_w8, plain_w64, plain_ws, plain_int, plain_bool, plain_slice, plain_ptr, plain_map, plain_iface, Bool.and_self]) only [↓pre, ↓pre2, ↓pre3, ↓look_cons, ↓look_bnd, ↓look_bnd0, ↓opd_tmp, ↓opd_const, ↓ite_f, ↓ite_t, ↓reduceIte, post, post2, decide_true, decide_false, opds, Nat.reduceEqDiff, Nat.reduceAdd, Nat.zero_add, Nat.add_zero, Nat.mul_one, Int.toNat_natCast, Int.reduceToNat]
      refine ⟨k + 1, by simp [sub, look, bnd, add_addr, bnd], ⟨by omega, ?_, Fr.young h2 h4 (fun k hk => hk)⟩, by omega⟩
      rw [List.take_succ_eq_append_getElem hk', List.flatten_append]
      simpa [List.getD, hk'] using h3
  · have hk8 : k = ps.length := by omega
    subst hk8
    rw [List.take_length] at h1
    simp -dsimp (disch := first | omega | rfl | simp only [all_cons, all_nil, plain_w32, plain_w8, plain_w64, plain_ws, plain_int, plain_bool, plain_slice, plain_ptr, plain_map, plain_iface, Bool.and_self]) only [↓pre, ↓pre2, ↓pre3, ↓look_cons, ↓look_bnd, ↓look_bnd0, ↓opd_tmp, ↓opd_const, ↓ite_f, ↓ite_t, ↓reduceIte, post, post2, decide_true, decide_false, opds, Nat.reduceEqDiff, Nat.reduceAdd, Nat.zero_add, Nat.add_zero, Nat.mul_one, Int.toNat_natCast, Int.reduceToNat]
    refine call_rule (k107 h1 hl) ?_
    rintro en w3 ⟨u, rfl, h3, h4⟩
    refine ⟨_, rfl, ?_⟩
    simp -dsimp (disch := first | omega | rfl | simp only [all_cons, all_nil, plain_w32, plain_w8, plain_w64, plain_ws, plain_int, plain_bool, plain_slice, plain_ptr, plain_map, plain_iface, Bool.and_self]) only [↓pre, ↓pre2, ↓pre3, ↓look_cons, ↓look_bnd, ↓look_bnd0, ↓opd_tmp, ↓opd_const, ↓ite_f, ↓ite_t, ↓reduceIte, post, post2, decide_true, decide_false, opds, Nat.reduceEqDiff, Nat.reduceAdd, Nat.zero_add, Nat.add_zero, Nat.mul_one, Int.toNat_natCast, Int.reduceToNat]
    exact ⟨_, rfl, h3.mono h2.size, h2.trans h4⟩
attribute [irreducible] shaSum
end Go.Lk
