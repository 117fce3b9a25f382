/- SHA-256: what its functions compute. No statement of the seat is proved in this text. -/
import Derived.Test.YtofoamkiidkbkaaLoop
import Derived.Test.YtofoamkiidkbkaaWord
import Derived.Test.YtofoamkiidkbkaaFSha
set_option linter.unusedSimpArgs false
set_option linter.unusedVariables false
set_option linter.unusedSectionVars false
set_option linter.unnecessarySimpa false
set_option maxRecDepth 10000
namespace Go.Lk

/-- turned right -/
def rr (x : BitVec 32) (n : Nat) : BitVec 32 := x <<< (32 - n) ||| x >>> n

theorem un_neg (n : Int) : unv .neg (vi n) = some (vi (IntKind.i64.wrap (0 - n))) := rfl

theorem turn_by : ∀ n : Nat, n < 32 → 0 < n → (BitVec.ofInt 64 (-(n : Int)) &&& 31#64).toNat = 32 - n ∧ (32#64 - (BitVec.ofInt 64 (-(n : Int)) &&& 31#64)).toNat = n := by decide

theorem k150 {w : World} (x : BitVec 32) (n : Nat) (h0 : 0 < n) (hn : n < 32) :
    Calls Go.Proofs.Try.prog 150 #[w32 x, vi (-(n : Int))] w fun e w' => e = .returned (w32 (rr x n)) ∧ Ex w w' := by
  refine enter mo (args := [w32 x, vi (-(n : Int))]) Go.Proofs.Try.func150 c150 (by simp [x150]) ?_
  simp only [x150, env0]
  simp -dsimp (disch := first | omega | rfl | simp only [all_cons, all_nil, plain_w32, plain_w8, plain_w64, plain_ws, plain_int, plain_bool, plain_slice, plain_ptr, plain_map, plain_iface, Bool.and_self]) only [↓pre, ↓pre2, ↓pre3, ↓look_cons, ↓look_bnd, ↓look_bnd0, ↓opd_tmp, ↓opd_const, ↓ite_f, ↓ite_t, ↓reduceIte, post, post2, decide_true, decide_false, opds, Nat.reduceEqDiff, Nat.reduceAdd, Nat.zero_add, Nat.add_zero, Nat.mul_one, Int.toNat_natCast, Int.reduceToNat, words]
  obtain ⟨h1, h2⟩ := turn_by n hn h0
  rw [h1, h2]
  exact ⟨rfl, Fr.refl w⟩

theorem k145 {w : World} (x : BitVec 32) (n : Nat) (h0 : 0 < n) (hn : n < 32) :
    Calls Go.Proofs.Try.prog 145 #[w32 x, vi n] w fun e w' => e = .returned (w32 (rr x n)) ∧ Ex w w' := by
  refine enter mo (args := [w32 x, vi n]) Go.Proofs.Try.func145 c145 (by simp [x145]) ?_
  simp only [x145, env0]
  simp -dsimp (disch := first | omega | rfl | simp only [all_cons, all_nil, plain_w32, plain_w8, plain_w64, plain_ws, plain_int, plain_bool, plain_slice, plain_ptr, plain_map, plain_iface, Bool.and_self]) only [↓pre, ↓pre2, ↓pre3, ↓look_cons, ↓look_bnd, ↓look_bnd0, ↓opd_tmp, ↓opd_const, ↓ite_f, ↓ite_t, ↓reduceIte, post, post2, decide_true, decide_false, opds, Nat.reduceEqDiff, Nat.reduceAdd, Nat.zero_add, Nat.add_zero, Nat.mul_one, Int.toNat_natCast, Int.reduceToNat, un_neg]
  rw [show (0 - (n : Int)) = -(n : Int) by omega]
  refine call_rule (k150 x n h0 hn) ?_
  rintro en w' ⟨rfl, h1⟩
  refine ⟨_, rfl, ?_⟩
  simp -dsimp (disch := first | omega | rfl | simp only [all_cons, all_nil, plain_w32, plain_w8, plain_w64, plain_ws, plain_int, plain_bool, plain_slice, plain_ptr, plain_map, plain_iface, Bool.and_self]) only [↓pre, ↓pre2, ↓pre3, ↓look_cons, ↓look_bnd, ↓look_bnd0, ↓opd_tmp, ↓opd_const, ↓ite_f, ↓ite_t, ↓reduceIte, post, post2, decide_true, decide_false, opds, Nat.reduceEqDiff, Nat.reduceAdd, Nat.zero_add, Nat.add_zero, Nat.mul_one, Int.toNat_natCast, Int.reduceToNat]
  exact ⟨trivial, h1⟩

/-- the rounds' numbers -/
def shaK : List (BitVec 32) := [1116352408#32, 1899447441#32, 3049323471#32, 3921009573#32, 961987163#32, 1508970993#32, 2453635748#32, 2870763221#32, 3624381080#32, 310598401#32, 607225278#32, 1426881987#32, 1925078388#32, 2162078206#32, 2614888103#32, 3248222580#32, 3835390401#32, 4022224774#32, 264347078#32, 604807628#32, 770255983#32, 1249150122#32, 1555081692#32, 1996064986#32, 2554220882#32, 2821834349#32, 2952996808#32, 3210313671#32, 3336571891#32, 3584528711#32, 113926993#32, 338241895#32, 666307205#32, 773529912#32, 1294757372#32, 1396182291#32, 1695183700#32, 1986661051#32, 2177026350#32, 2456956037#32, 2730485921#32, 2820302411#32, 3259730800#32, 3345764771#32, 3516065817#32, 3600352804#32, 4094571909#32, 275423344#32, 430227734#32, 506948616#32, 659060556#32, 883997877#32, 958139571#32, 1322822218#32, 1537002063#32, 1747873779#32, 1955562222#32, 2024104815#32, 2227730452#32, 2361852424#32, 2428436474#32, 2756734187#32, 3204031479#32, 3329325298#32]

theorem ind_ok {n : Nat} {cs : List Value} {j : Int} (h1 : 0 ≤ j) (h2 : j < n) : indv n 1 false (.agg cs.toArray) (vi j) = cs[j.toNat]? := by
  simp [indv, fldv, h1, h2]

theorem k146 {w : World} (t : Nat) (ht : t < 64) :
    Calls Go.Proofs.Try.prog 146 #[vi t] w fun e w' => e = .returned (w32 (shaK.getD t 0)) ∧ Ex w w' := by
  refine enter mo (args := [vi t]) Go.Proofs.Try.func146 c146 (by simp [x146]) ?_
  simp only [x146, env0]
  simp -dsimp (disch := first | omega | rfl | simp only [all_cons, all_nil, plain_w32, plain_w8, plain_w64, plain_ws, plain_int, plain_bool, plain_slice, plain_ptr, plain_map, plain_iface, Bool.and_self]) only [↓pre, ↓pre2, ↓pre3, ↓look_cons, ↓look_bnd, ↓look_bnd0, ↓opd_tmp, ↓opd_const, ↓ite_f, ↓ite_t, ↓reduceIte, post, post2, decide_true, decide_false, opds, Nat.reduceEqDiff, Nat.reduceAdd, Nat.zero_add, Nat.add_zero, Nat.mul_one, Int.toNat_natCast, Int.reduceToNat, ind_ok]
  have : ([w32 1116352408#32, w32 1899447441#32, w32 3049323471#32, w32 3921009573#32, w32 961987163#32, w32 1508970993#32, w32 2453635748#32, w32 2870763221#32, w32 3624381080#32, w32 310598401#32, w32 607225278#32, w32 1426881987#32, w32 1925078388#32, w32 2162078206#32, w32 2614888103#32, w32 3248222580#32, w32 3835390401#32, w32 4022224774#32, w32 264347078#32, w32 604807628#32, w32 770255983#32, w32 1249150122#32, w32 1555081692#32, w32 1996064986#32, w32 2554220882#32, w32 2821834349#32, w32 2952996808#32, w32 3210313671#32, w32 3336571891#32, w32 3584528711#32, w32 113926993#32, w32 338241895#32, w32 666307205#32, w32 773529912#32, w32 1294757372#32, w32 1396182291#32, w32 1695183700#32, w32 1986661051#32, w32 2177026350#32, w32 2456956037#32, w32 2730485921#32, w32 2820302411#32, w32 3259730800#32, w32 3345764771#32, w32 3516065817#32, w32 3600352804#32, w32 4094571909#32, w32 275423344#32, w32 430227734#32, w32 506948616#32, w32 659060556#32, w32 883997877#32, w32 958139571#32, w32 1322822218#32, w32 1537002063#32, w32 1747873779#32, w32 1955562222#32, w32 2024104815#32, w32 2227730452#32, w32 2361852424#32, w32 2428436474#32, w32 2756734187#32, w32 3204031479#32, w32 3329325298#32] : List Value) = shaK.map w32 := rfl
  rw [this]
  have hk : (shaK.map w32)[t]? = some (w32 (shaK.getD t 0)) := by
    rw [List.getElem?_map, List.getElem?_eq_getElem (l := shaK) (by simpa [shaK] using ht)]
    simp [List.getD, show t < shaK.length by simpa [shaK] using ht]
  simp -dsimp (disch := first | omega | rfl | simp only [all_cons, all_nil, plain_w32, plain_w8, plain_w64, plain_ws, plain_int, plain_bool, plain_slice, plain_ptr, plain_map, plain_iface, Bool.and_self]) only [↓pre, ↓pre2, ↓pre3, ↓look_cons, ↓look_bnd, ↓look_bnd0, ↓opd_tmp, ↓opd_const, ↓ite_f, ↓ite_t, ↓reduceIte, post, post2, decide_true, decide_false, opds, Nat.reduceEqDiff, Nat.reduceAdd, Nat.zero_add, Nat.add_zero, Nat.mul_one, Int.toNat_natCast, Int.reduceToNat, ind_ok, hk]
  exact ⟨trivial, Fr.refl w⟩

/-- the byte at i as a number -/
def bw (l : List UInt8) (i : Nat) : BitVec 32 := (l.getD i 0).toBitVec.setWidth 32
/-- a block's word -/
def word (l : List UInt8) (t : Nat) : BitVec 32 := bw l (4 * t) <<< 24 ||| bw l (4 * t + 1) <<< 16 ||| bw l (4 * t + 2) <<< 8 ||| bw l (4 * t + 3)
/-- a schedule's word from those before -/
def schedNext (ws : List (BitVec 32)) (t : Nat) : BitVec 32 :=
  let x := ws.getD (t - 15) 0
  let y := ws.getD (t - 2) 0
  (rr y 17 ^^^ rr y 19 ^^^ y >>> 10) + ws.getD (t - 7) 0 + (rr x 7 ^^^ rr x 18 ^^^ x >>> 3) + ws.getD (t - 16) 0
/-- a block's schedule, the first t words -/
def sched (l : List UInt8) : Nat → List (BitVec 32)
  | 0 => []
  | t + 1 => sched l t ++ [if t < 16 then word l t else schedNext (sched l t) t]

theorem sched_length (l : List UInt8) (t : Nat) : (sched l t).length = t := by
  induction t with
  | zero => rfl
  | succ t ih => simp [sched, ih]

theorem k144 {w : World} {v : Value} {l : List UInt8} (hb : Bs w.heap v l) (hl : 64 ≤ l.length) (hl' : l.length < 9223372036854775808) :
    Calls Go.Proofs.Try.prog 144 #[v] w fun e w' => e = .returned (.agg ((sched l 64).map w32).toArray) ∧ Ex w w' := by
  obtain ⟨a, c, rfl, hcap, hne⟩ := hb.parts
  obtain ⟨b0, o0, rfl⟩ := hne (by intro h; subst h; simp at hl)
  refine enter mo (args := [.slice (some ⟨b0, o0, none⟩) l.length c]) Go.Proofs.Try.func144 c144 (by simp [x144]) ?_
  simp only [x144, env0]
  simp -dsimp (disch := first | omega | rfl | simp only [all_cons, all_nil, plain_w32, plain_w8, plain_w64, plain_ws, plain_int, plain_bool, plain_slice, plain_ptr, plain_map, plain_iface, Bool.and_self]) only [↓pre, ↓pre2, ↓pre3, ↓look_cons, ↓look_bnd, ↓look_bnd0, ↓opd_tmp, ↓opd_const, ↓ite_f, ↓ite_t, ↓reduceIte, post, post2, decide_true, decide_false, opds, Nat.reduceEqDiff, Nat.reduceAdd, Nat.zero_add, Nat.add_zero, Nat.mul_one, Int.toNat_natCast, Int.reduceToNat]
  refine alloc_rule (z := (List.replicate 64 (0#32)).map w32) (by kernel_rfl) fun b2 w1 hb1 hc1 he1 hs1 => ?_
  simp -dsimp (disch := first | omega | rfl | simp only [all_cons, all_nil, plain_w32, plain_w8, plain_w64, plain_ws, plain_int, plain_bool, plain_slice, plain_ptr, plain_map, plain_iface, Bool.and_self]) only [↓pre, ↓pre2, ↓pre3, ↓look_cons, ↓look_bnd, ↓look_bnd0, ↓opd_tmp, ↓opd_const, ↓ite_f, ↓ite_t, ↓reduceIte, post, post2, decide_true, decide_false, opds, Nat.reduceEqDiff, Nat.reduceAdd, Nat.zero_add, Nat.add_zero, Nat.mul_one, Int.toNat_natCast, Int.reduceToNat]
  refine alloc_rule (z := (List.replicate 64 (0#32)).map w32) (by kernel_rfl) fun b3 w2 hb2 hc2 he2 hs2 => ?_
  simp -dsimp (disch := first | omega | rfl | simp only [all_cons, all_nil, plain_w32, plain_w8, plain_w64, plain_ws, plain_int, plain_bool, plain_slice, plain_ptr, plain_map, plain_iface, Bool.and_self]) only [↓pre, ↓pre2, ↓pre3, ↓look_cons, ↓look_bnd, ↓look_bnd0, ↓opd_tmp, ↓opd_const, ↓ite_f, ↓ite_t, ↓reduceIte, post, post2, decide_true, decide_false, opds, Nat.reduceEqDiff, Nat.reduceAdd, Nat.zero_add, Nat.add_zero, Nat.mul_one, Int.toNat_natCast, Int.reduceToNat]
  have hlt23 : b2 ≠ b3 := by omega
  refine loop_rule (fun t : Nat => [(7, vi t), (3, .pointer (some ⟨b3, 0, none⟩)), (2, .pointer (some ⟨b2, 0, none⟩)), (0, .slice (some ⟨b0, o0, none⟩) l.length c)])
    (fun t v => t ≤ 64 ∧ Cw v.heap b3 ((sched l t ++ List.replicate (64 - t) (0#32)).map w32) ∧ Cw v.heap b2 ((List.replicate 64 (0#32)).map w32) ∧ Ex w v) (fun t => 64 - t) 0 ?_ ⟨by omega, by simpa [sched] using hc2, hc1.ex he2, he1.trans he2⟩ ?_
  · simp [sub, look, bnd, add_addr]
  · rintro t v ⟨ht, h1, h2, h3⟩
    have hbv : Bs v.drew.heap (.slice (some ⟨b0, o0, none⟩) l.length c) l := hb.ex h3.drew
    have h1' : Cw v.drew.heap b3 ((sched l t ++ List.replicate (64 - t) (0#32)).map w32) := h1
    simp -dsimp (disch := first | omega | rfl | simp only [all_cons, all_nil, plain_w32, plain_w8, plain_w64, plain_ws, plain_int, plain_bool, plain_slice, plain_ptr, plain_map, plain_iface, Bool.and_self]) only [↓pre, ↓pre2, ↓pre3, ↓look_cons, ↓look_bnd, ↓look_bnd0, ↓opd_tmp, ↓opd_const, ↓ite_f, ↓ite_t, ↓reduceIte, post, post2, decide_true, decide_false, opds, Nat.reduceEqDiff, Nat.reduceAdd, Nat.zero_add, Nat.add_zero, Nat.mul_one, Int.toNat_natCast, Int.reduceToNat]
    refine cond_dec (fun hlt => ?_) (fun hge => ?_)
    · simp -dsimp (disch := first | omega | rfl | simp only [all_cons, all_nil, plain_w32, plain_w8, plain_w64, plain_ws, plain_int, plain_bool, plain_slice, plain_ptr, plain_map, plain_iface, Bool.and_self]) only [↓pre, ↓pre2, ↓pre3, ↓look_cons, ↓look_bnd, ↓look_bnd0, ↓opd_tmp, ↓opd_const, ↓ite_f, ↓ite_t, ↓reduceIte, post, post2, decide_true, decide_false, opds, Nat.reduceEqDiff, Nat.reduceAdd, Nat.zero_add, Nat.add_zero, Nat.mul_one, Int.toNat_natCast, Int.reduceToNat]
      have hset : ∀ x, (List.map w32 (sched l t ++ List.replicate (64 - t) (0#32))).set t (w32 x) = List.map w32 (sched l t ++ [x] ++ List.replicate (64 - (t + 1)) (0#32)) := fun x => by
        rw [← List.map_set, List.set_append_right _ _ (by rw [sched_length]; omega), sched_length, show 64 - t = (64 - (t + 1)) + 1 by omega, List.replicate_succ]
        simp
      have hget : ∀ j, j < t → (List.map w32 (sched l t ++ List.replicate (64 - t) (0#32)))[j]? = some (w32 ((sched l t).getD j 0)) := fun j hj => by
        have : j < (sched l t).length := by rw [sched_length]; exact hj
        rw [List.getElem?_map, List.getElem?_append_left this]
        simp [List.getD, this]
      refine cond_dec (fun hlt2 => ?_) (fun hge2 => ?_)
      · simp -dsimp (disch := first | omega | rfl | simp only [all_cons, all_nil, plain_w32, plain_w8, plain_w64, plain_ws, plain_int, plain_bool, plain_slice, plain_ptr, plain_map, plain_iface, Bool.and_self]) only [↓pre, ↓pre2, ↓pre3, ↓look_cons, ↓look_bnd, ↓look_bnd0, ↓opd_tmp, ↓opd_const, ↓ite_f, ↓ite_t, ↓reduceIte, post, post2, decide_true, decide_false, opds, Nat.reduceEqDiff, Nat.reduceAdd, Nat.zero_add, Nat.add_zero, Nat.mul_one, Int.toNat_natCast, Int.reduceToNat]
        refine par_ex ?_
        simp -dsimp (disch := first | omega | rfl | simp only [all_cons, all_nil, plain_w32, plain_w8, plain_w64, plain_ws, plain_int, plain_bool, plain_slice, plain_ptr, plain_map, plain_iface, Bool.and_self]) only [↓pre, ↓pre2, ↓pre3, ↓look_cons, ↓look_bnd, ↓look_bnd0, ↓opd_tmp, ↓opd_const, ↓ite_f, ↓ite_t, ↓reduceIte, post, post2, decide_true, decide_false, opds, Nat.reduceEqDiff, Nat.reduceAdd, Nat.zero_add, Nat.add_zero, Nat.mul_one, Int.toNat_natCast, Int.reduceToNat, words, hbv.at, Nat.mul_one]
        refine store_rule h1' (by simp [sched_length]; omega) rfl fun w' h4 h5 h6 => ?_
        simp -dsimp (disch := first | omega | rfl | simp only [all_cons, all_nil, plain_w32, plain_w8, plain_w64, plain_ws, plain_int, plain_bool, plain_slice, plain_ptr, plain_map, plain_iface, Bool.and_self]) only [↓pre, ↓pre2, ↓pre3, ↓look_cons, ↓look_bnd, ↓look_bnd0, ↓opd_tmp, ↓opd_const, ↓ite_f, ↓ite_t, ↓reduceIte, post, post2, decide_true, decide_false, opds, Nat.reduceEqDiff, Nat.reduceAdd, Nat.zero_add, Nat.add_zero, Nat.mul_one, Int.toNat_natCast, Int.reduceToNat]
        refine ⟨t + 1, by simp [sub, look, bnd, add_addr], ⟨by omega, ?_, ?_, ?_⟩, by omega⟩
        · rw [hset] at h4
          have e : sched l (t + 1) = sched l t ++ [word l t] := by rw [sched, if_pos (by omega)]
          rw [e]
          have e2 : (4 * (t : Int)).toNat = 4 * t ∧ (4 * (t : Int) + 1).toNat = 4 * t + 1 ∧ (4 * (t : Int) + 2).toNat = 4 * t + 2 ∧ (4 * (t : Int) + 3).toNat = 4 * t + 3 := by omega
          rw [e2.1, e2.2.1, e2.2.2.1, e2.2.2.2] at h4
          exact h4
        · exact Cw.fr (w := v.drew) h2 h5 hlt23
        · exact Ex.young h3.drew h5 (by omega)
      · simp -dsimp (disch := first | omega | rfl | simp only [all_cons, all_nil, plain_w32, plain_w8, plain_w64, plain_ws, plain_int, plain_bool, plain_slice, plain_ptr, plain_map, plain_iface, Bool.and_self]) only [↓pre, ↓pre2, ↓pre3, ↓look_cons, ↓look_bnd, ↓look_bnd0, ↓opd_tmp, ↓opd_const, ↓ite_f, ↓ite_t, ↓reduceIte, post, post2, decide_true, decide_false, opds, Nat.reduceEqDiff, Nat.reduceAdd, Nat.zero_add, Nat.add_zero, Nat.mul_one, Int.toNat_natCast, Int.reduceToNat]
        refine par_ex ?_
        simp -dsimp (disch := first | omega | rfl | simp only [all_cons, all_nil, plain_w32, plain_w8, plain_w64, plain_ws, plain_int, plain_bool, plain_slice, plain_ptr, plain_map, plain_iface, Bool.and_self]) only [↓pre, ↓pre2, ↓pre3, ↓look_cons, ↓look_bnd, ↓look_bnd0, ↓opd_tmp, ↓opd_const, ↓ite_f, ↓ite_t, ↓reduceIte, post, post2, decide_true, decide_false, opds, Nat.reduceEqDiff, Nat.reduceAdd, Nat.zero_add, Nat.add_zero, Nat.mul_one, Int.toNat_natCast, Int.reduceToNat, words, h1'.cell, hget, Nat.mul_one]
        refine par_ex ?_
        have h1'' : Cw v.drew.drew.heap b3 ((sched l t ++ List.replicate (64 - t) (0#32)).map w32) := h1
        simp -dsimp (disch := first | omega | rfl | simp only [all_cons, all_nil, plain_w32, plain_w8, plain_w64, plain_ws, plain_int, plain_bool, plain_slice, plain_ptr, plain_map, plain_iface, Bool.and_self]) only [↓pre, ↓pre2, ↓pre3, ↓look_cons, ↓look_bnd, ↓look_bnd0, ↓opd_tmp, ↓opd_const, ↓ite_f, ↓ite_t, ↓reduceIte, post, post2, decide_true, decide_false, opds, Nat.reduceEqDiff, Nat.reduceAdd, Nat.zero_add, Nat.add_zero, Nat.mul_one, Int.toNat_natCast, Int.reduceToNat, words, h1''.cell, hget, Nat.mul_one]
        refine call_rule (k145 _ 17 (by omega) (by omega)) ?_
        rintro en w3 ⟨rfl, hx3⟩
        refine ⟨_, rfl, keep_yes hx3 ?_⟩
        simp -dsimp (disch := first | omega | rfl | simp only [all_cons, all_nil, plain_w32, plain_w8, plain_w64, plain_ws, plain_int, plain_bool, plain_slice, plain_ptr, plain_map, plain_iface, Bool.and_self]) only [↓pre, ↓pre2, ↓pre3, ↓look_cons, ↓look_bnd, ↓look_bnd0, ↓opd_tmp, ↓opd_const, ↓ite_f, ↓ite_t, ↓reduceIte, post, post2, decide_true, decide_false, opds, Nat.reduceEqDiff, Nat.reduceAdd, Nat.zero_add, Nat.add_zero, Nat.mul_one, Int.toNat_natCast, Int.reduceToNat, words]
        refine call_rule (k145 _ 19 (by omega) (by omega)) ?_
        rintro en w4 ⟨rfl, hx4⟩
        refine ⟨_, rfl, keep_yes hx4 ?_⟩
        simp -dsimp (disch := first | omega | rfl | simp only [all_cons, all_nil, plain_w32, plain_w8, plain_w64, plain_ws, plain_int, plain_bool, plain_slice, plain_ptr, plain_map, plain_iface, Bool.and_self]) only [↓pre, ↓pre2, ↓pre3, ↓look_cons, ↓look_bnd, ↓look_bnd0, ↓opd_tmp, ↓opd_const, ↓ite_f, ↓ite_t, ↓reduceIte, post, post2, decide_true, decide_false, opds, Nat.reduceEqDiff, Nat.reduceAdd, Nat.zero_add, Nat.add_zero, Nat.mul_one, Int.toNat_natCast, Int.reduceToNat, words]
        refine call_rule (k145 _ 7 (by omega) (by omega)) ?_
        rintro en w5 ⟨rfl, hx5⟩
        refine ⟨_, rfl, keep_yes hx5 ?_⟩
        simp -dsimp (disch := first | omega | rfl | simp only [all_cons, all_nil, plain_w32, plain_w8, plain_w64, plain_ws, plain_int, plain_bool, plain_slice, plain_ptr, plain_map, plain_iface, Bool.and_self]) only [↓pre, ↓pre2, ↓pre3, ↓look_cons, ↓look_bnd, ↓look_bnd0, ↓opd_tmp, ↓opd_const, ↓ite_f, ↓ite_t, ↓reduceIte, post, post2, decide_true, decide_false, opds, Nat.reduceEqDiff, Nat.reduceAdd, Nat.zero_add, Nat.add_zero, Nat.mul_one, Int.toNat_natCast, Int.reduceToNat, words]
        refine call_rule (k145 _ 18 (by omega) (by omega)) ?_
        rintro en w6 ⟨rfl, hx6⟩
        refine ⟨_, rfl, keep_yes hx6 ?_⟩
        simp -dsimp (disch := first | omega | rfl | simp only [all_cons, all_nil, plain_w32, plain_w8, plain_w64, plain_ws, plain_int, plain_bool, plain_slice, plain_ptr, plain_map, plain_iface, Bool.and_self]) only [↓pre, ↓pre2, ↓pre3, ↓look_cons, ↓look_bnd, ↓look_bnd0, ↓opd_tmp, ↓opd_const, ↓ite_f, ↓ite_t, ↓reduceIte, post, post2, decide_true, decide_false, opds, Nat.reduceEqDiff, Nat.reduceAdd, Nat.zero_add, Nat.add_zero, Nat.mul_one, Int.toNat_natCast, Int.reduceToNat, words]
        have hx : Ex v.drew.drew w6 := (((hx3.trans hx4).trans hx5).trans hx6)
        have hE : Ex v w6 := (Ex.drew (Ex.drew (Fr.refl v))).trans hx
        refine store_rule (h1.ex hE) (by simp [sched_length]; omega) rfl fun w' h4 h5 h6 => ?_
        simp -dsimp (disch := first | omega | rfl | simp only [all_cons, all_nil, plain_w32, plain_w8, plain_w64, plain_ws, plain_int, plain_bool, plain_slice, plain_ptr, plain_map, plain_iface, Bool.and_self]) only [↓pre, ↓pre2, ↓pre3, ↓look_cons, ↓look_bnd, ↓look_bnd0, ↓opd_tmp, ↓opd_const, ↓ite_f, ↓ite_t, ↓reduceIte, post, post2, decide_true, decide_false, opds, Nat.reduceEqDiff, Nat.reduceAdd, Nat.zero_add, Nat.add_zero, Nat.mul_one, Int.toNat_natCast, Int.reduceToNat]
        refine ⟨t + 1, by simp [sub, look, bnd, add_addr], ⟨by omega, ?_, ?_, ?_⟩, by omega⟩
        · rw [hset] at h4
          have e : sched l (t + 1) = sched l t ++ [schedNext (sched l t) t] := by rw [sched, if_neg (by omega)]
          rw [e]
          have e2 : ((t : Int) - 15).toNat = t - 15 ∧ ((t : Int) - 2).toNat = t - 2 ∧ ((t : Int) - 7).toNat = t - 7 ∧ ((t : Int) - 16).toNat = t - 16 := by omega
          rw [e2.1, e2.2.1, e2.2.2.1, e2.2.2.2] at h4
          exact h4
        · exact Cw.fr (h2.ex hE) h5 hlt23
        · exact Ex.young (h3.trans hE) h5 (by omega)
    · simp -dsimp (disch := first | omega | rfl | simp only [all_cons, all_nil, plain_w32, plain_w8, plain_w64, plain_ws, plain_int, plain_bool, plain_slice, plain_ptr, plain_map, plain_iface, Bool.and_self]) only [↓pre, ↓pre2, ↓pre3, ↓look_cons, ↓look_bnd, ↓look_bnd0, ↓opd_tmp, ↓opd_const, ↓ite_f, ↓ite_t, ↓reduceIte, post, post2, decide_true, decide_false, opds, Nat.reduceEqDiff, Nat.reduceAdd, Nat.zero_add, Nat.add_zero, Nat.mul_one, Int.toNat_natCast, Int.reduceToNat]
      have ht64 : t = 64 := by omega
      subst ht64
      have hs : ((sched l 64 ++ List.replicate (64 - 64) (0#32)).map w32) = (sched l 64).map w32 := by simp
      rw [hs] at h1
      refine lda_cw h1 (by simp [sched_length]) ?_
      simp -dsimp (disch := first | omega | rfl | simp only [all_cons, all_nil, plain_w32, plain_w8, plain_w64, plain_ws, plain_int, plain_bool, plain_slice, plain_ptr, plain_map, plain_iface, Bool.and_self]) only [↓pre, ↓pre2, ↓pre3, ↓look_cons, ↓look_bnd, ↓look_bnd0, ↓opd_tmp, ↓opd_const, ↓ite_f, ↓ite_t, ↓reduceIte, post, post2, decide_true, decide_false, opds, Nat.reduceEqDiff, Nat.reduceAdd, Nat.zero_add, Nat.add_zero, Nat.mul_one, Int.toNat_natCast, Int.reduceToNat]
      refine stores_all (cs := (sched l 64).map w32) h2 (by simp [Value.cells]) (by simp [sched_length]) (by simp) (by simp [plain_w32]) fun w' h4 h5 h6 => ?_
      simp -dsimp (disch := first | omega | rfl | simp only [all_cons, all_nil, plain_w32, plain_w8, plain_w64, plain_ws, plain_int, plain_bool, plain_slice, plain_ptr, plain_map, plain_iface, Bool.and_self]) only [↓pre, ↓pre2, ↓pre3, ↓look_cons, ↓look_bnd, ↓look_bnd0, ↓opd_tmp, ↓opd_const, ↓ite_f, ↓ite_t, ↓reduceIte, post, post2, decide_true, decide_false, opds, Nat.reduceEqDiff, Nat.reduceAdd, Nat.zero_add, Nat.add_zero, Nat.mul_one, Int.toNat_natCast, Int.reduceToNat]
      refine fin_ca (by simp [look]) h4 (by simp [sched_length]) ⟨rfl, Ex.young h3 h5 (by omega)⟩

/-- one round -/
def shaRound (s : List (BitVec 32)) (k v : BitVec 32) : List (BitVec 32) :=
  let a := fun i => s.getD i 0
  let t1 := a 7 + (rr (a 4) 6 ^^^ rr (a 4) 11 ^^^ rr (a 4) 25) + (a 4 &&& a 5 ^^^ ~~~(a 4) &&& a 6) + k + v
  let t2 := (rr (a 0) 2 ^^^ rr (a 0) 13 ^^^ rr (a 0) 22) + (a 0 &&& a 1 ^^^ a 0 &&& a 2 ^^^ a 1 &&& a 2)
  [t1 + t2, a 0, a 1, a 2, a 3 + t1, a 4, a 5, a 6]
def shaRounds (l : List UInt8) (s : List (BitVec 32)) : Nat → List (BitVec 32)
  | 0 => s
  | t + 1 => shaRound (shaRounds l s t) (shaK.getD t 0) ((sched l 64).getD t 0)
/-- a block more -/
def compress (s : List (BitVec 32)) (l : List UInt8) : List (BitVec 32) := List.zipWith (· + ·) (shaRounds l s 64) s

theorem shaRounds_length {l : List UInt8} {s : List (BitVec 32)} (hs : s.length = 8) : ∀ t, (shaRounds l s t).length = 8
  | 0 => hs
  | _ + 1 => rfl

/-- the first k words added -/
def addN (r s : List (BitVec 32)) (k : Nat) : List (BitVec 32) := (List.zipWith (· + ·) r s).take k ++ r.drop k
theorem addN_length {r s : List (BitVec 32)} (hr : r.length = 8) (hs : s.length = 8) (k : Nat) (hk : k ≤ 8) : (addN r s k).length = 8 := by
  simp [addN, hr, hs]; omega
theorem addN_get {r s : List (BitVec 32)} (hr : r.length = 8) (hs : s.length = 8) (k : Nat) (hk : k < 8) : (addN r s k).getD k 0 = r.getD k 0 := by
  have h1 : ((List.zipWith (· + ·) r s).take k).length = k := by simp [hr, hs]; omega
  simp only [addN, List.getD]
  rw [List.getElem?_append_right (by omega), h1, Nat.sub_self, List.getElem?_drop, Nat.add_zero]
theorem addN_set {r s : List (BitVec 32)} (hr : r.length = 8) (hs : s.length = 8) (k : Nat) (hk : k < 8) : (addN r s k).set k (r.getD k 0 + s.getD k 0) = addN r s (k + 1) := by
  have hz : (List.zipWith (· + ·) r s).length = 8 := by simp [hr, hs]
  have h1 : ((List.zipWith (· + ·) r s).take k).length = k := by simp [hr, hs]; omega
  simp only [addN]
  rw [List.set_append_right _ _ (by omega), h1, Nat.sub_self, List.drop_eq_getElem_cons (by omega), List.set_cons_zero, List.take_succ_eq_append_getElem (by omega), List.append_assoc]
  simp [List.getD, hr, hs, hk]

theorem map_get {l : List (BitVec 32)} {n : Nat} (hl : l.length = n) (j : Nat) (hj : j < n) : (l.map w32)[j]? = some (w32 (l.getD j 0)) := by
  subst hl
  simp [List.getD, hj]

theorem ldam_rule {f : Value → Prop} {M : Nat → Prop} {w : World} {b o n : Nat} {t : Tg f} {t' : Tg M} (hM : ¬ M b) (h : LdaR f w (.pointer (some ⟨b, o, none⟩)) n ⟨⟩) : LdaM f M w (.pointer (some ⟨b, o, none⟩)) n t t' := ⟨hM, h⟩

theorem k127 {w : World} {v : Value} {l : List UInt8} {s : List (BitVec 32)} (hb : Bs w.heap v l) (hs : s.length = 8) (hl : 64 ≤ l.length) (hl' : l.length < 9223372036854775808) :
    Calls Go.Proofs.Try.prog 127 #[.agg (s.map w32).toArray, v] w fun e w' => e = .returned (.agg ((compress s l).map w32).toArray) ∧ Ex w w' := by
  refine enter mo (args := [.agg (s.map w32).toArray, v]) Go.Proofs.Try.func127 c127 (by simp [x127]) ?_
  simp only [x127, env0]
  simp -dsimp (disch := first | omega | rfl | simp only [all_cons, all_nil, plain_w32, plain_w8, plain_w64, plain_ws, plain_int, plain_bool, plain_slice, plain_ptr, plain_map, plain_iface, Bool.and_self]) only [↓pre, ↓pre2, ↓pre3, ↓look_cons, ↓look_bnd, ↓look_bnd0, ↓opd_tmp, ↓opd_const, ↓ite_f, ↓ite_t, ↓reduceIte, post, post2, decide_true, decide_false, opds, Nat.reduceEqDiff, Nat.reduceAdd, Nat.zero_add, Nat.add_zero, Nat.mul_one, Int.toNat_natCast, Int.reduceToNat]
  refine box_rule fun b2 w1 hb1 hc1 he1 hs1 => ?_
  simp -dsimp (disch := first | omega | rfl | simp only [all_cons, all_nil, plain_w32, plain_w8, plain_w64, plain_ws, plain_int, plain_bool, plain_slice, plain_ptr, plain_map, plain_iface, Bool.and_self]) only [↓pre, ↓pre2, ↓pre3, ↓look_cons, ↓look_bnd, ↓look_bnd0, ↓opd_tmp, ↓opd_const, ↓ite_f, ↓ite_t, ↓reduceIte, post, post2, decide_true, decide_false, opds, Nat.reduceEqDiff, Nat.reduceAdd, Nat.zero_add, Nat.add_zero, Nat.mul_one, Int.toNat_natCast, Int.reduceToNat]
  refine alloc_rule (z := (List.replicate 8 (0#32)).map w32) (by kernel_rfl) fun b4 w2 hb2 hc2 he2 hs2 => ?_
  simp -dsimp (disch := first | omega | rfl | simp only [all_cons, all_nil, plain_w32, plain_w8, plain_w64, plain_ws, plain_int, plain_bool, plain_slice, plain_ptr, plain_map, plain_iface, Bool.and_self]) only [↓pre, ↓pre2, ↓pre3, ↓look_cons, ↓look_bnd, ↓look_bnd0, ↓opd_tmp, ↓opd_const, ↓ite_f, ↓ite_t, ↓reduceIte, post, post2, decide_true, decide_false, opds, Nat.reduceEqDiff, Nat.reduceAdd, Nat.zero_add, Nat.add_zero, Nat.mul_one, Int.toNat_natCast, Int.reduceToNat]
  have he12 : Ex w w2 := he1.trans he2
  have hc1' : Cw w2.heap b2 (s.map w32) := by
    have := hc1.ex he2
    simpa [Value.cells] using this
  refine scope1_rule (fun k : Nat × Nat × Nat => [(7, vi k.1), (2, .pointer (some ⟨b2, 0, none⟩)), (4, .pointer (some ⟨b4, 0, none⟩)), (5, .pointer (some ⟨k.2.1, 0, none⟩)), (6, .pointer (some ⟨k.2.2, 0, none⟩))])
    (fun k v => k.1 < 64 ∧ k.2.1 ≠ k.2.2 ∧ w2.heap.size ≤ k.2.1 ∧ w2.heap.size ≤ k.2.2 ∧ Cw v.heap k.2.1 ((sched l 64).map w32) ∧ Cw v.heap k.2.2 ((shaRounds l s k.1).map w32) ∧ Ex w2 v) (fun k => 64 - k.1) ?_ ?_
  · simp -dsimp (disch := first | omega | rfl | simp only [all_cons, all_nil, plain_w32, plain_w8, plain_w64, plain_ws, plain_int, plain_bool, plain_slice, plain_ptr, plain_map, plain_iface, Bool.and_self]) only [↓pre, ↓pre2, ↓pre3, ↓look_cons, ↓look_bnd, ↓look_bnd0, ↓opd_tmp, ↓opd_const, ↓ite_f, ↓ite_t, ↓reduceIte, post, post2, decide_true, decide_false, opds, Nat.reduceEqDiff, Nat.reduceAdd, Nat.zero_add, Nat.add_zero, Nat.mul_one, Int.toNat_natCast, Int.reduceToNat]
    refine par_share (fun k => w2.heap.size ≤ k) (fun e w' => look e 2 = some (.pointer (some ⟨b2, 0, none⟩)) ∧ look e 4 = some (.pointer (some ⟨b4, 0, none⟩)) ∧ look e 7 = some (vi 0) ∧ ∃ b5 b6, look e 5 = some (.pointer (some ⟨b5, 0, none⟩)) ∧ look e 6 = some (.pointer (some ⟨b6, 0, none⟩)) ∧ b5 ≠ b6 ∧ w2.heap.size ≤ b5 ∧ w2.heap.size ≤ b6 ∧ Cw w'.heap b5 ((sched l 64).map w32) ∧ Cw w'.heap b6 (s.map w32) ∧ Ex w2 w') ?_ ?_
    · rintro e v ⟨l2, l4, l7, b5, b6, l5, l6, hne, hb5, hb6, C5, C6, hE⟩
      obtain ⟨t, ht0⟩ : ∃ t : Nat, t = 0 := ⟨0, rfl⟩
      have ht : t < 64 := by omega
      have l7 : look e 7 = some (vi t) := by rw [l7, ht0]; rfl
      have C6 : Cw v.heap b6 ((shaRounds l s t).map w32) := by rw [ht0]; exact C6
      simp -dsimp (disch := first | omega | rfl | simp only [all_cons, all_nil, plain_w32, plain_w8, plain_w64, plain_ws, plain_int, plain_bool, plain_slice, plain_ptr, plain_map, plain_iface, Bool.and_self]) only [↓pre, ↓pre2, ↓pre3, ↓look_cons, ↓look_bnd, ↓look_bnd0, ↓opd_tmp, ↓opd_const, ↓ite_f, ↓ite_t, ↓reduceIte, post, post2, decide_true, decide_false, opds, Nat.reduceEqDiff, Nat.reduceAdd, Nat.zero_add, Nat.add_zero, Nat.mul_one, Int.toNat_natCast, Int.reduceToNat]
      have g5 := map_get (sched_length l 64)
      have g6 := map_get (shaRounds_length (l := l) hs t)
      refine par_ex ?_
      have C5a : Cw v.drew.heap b5 _ := C5
      have C6a : Cw v.drew.heap b6 _ := C6
      simp -dsimp (disch := first | omega | rfl | simp only [all_cons, all_nil, plain_w32, plain_w8, plain_w64, plain_ws, plain_int, plain_bool, plain_slice, plain_ptr, plain_map, plain_iface, Bool.and_self]) only [↓pre, ↓pre2, ↓pre3, ↓look_cons, ↓look_bnd, ↓look_bnd0, ↓opd_tmp, ↓opd_const, ↓ite_f, ↓ite_t, ↓reduceIte, post, post2, decide_true, decide_false, opds, Nat.reduceEqDiff, Nat.reduceAdd, Nat.zero_add, Nat.add_zero, Nat.mul_one, Int.toNat_natCast, Int.reduceToNat, words, l2, l4, l5, l6, l7, C5a.cell, C6a.cell, g5, g6]
      refine call_rule (k145 _ 6 (by omega) (by omega)) ?_
      rintro en w10 ⟨rfl, hx10⟩
      refine ⟨_, rfl, keep_yes hx10 ?_⟩
      simp -dsimp (disch := first | omega | rfl | simp only [all_cons, all_nil, plain_w32, plain_w8, plain_w64, plain_ws, plain_int, plain_bool, plain_slice, plain_ptr, plain_map, plain_iface, Bool.and_self]) only [↓pre, ↓pre2, ↓pre3, ↓look_cons, ↓look_bnd, ↓look_bnd0, ↓opd_tmp, ↓opd_const, ↓ite_f, ↓ite_t, ↓reduceIte, post, post2, decide_true, decide_false, opds, Nat.reduceEqDiff, Nat.reduceAdd, Nat.zero_add, Nat.add_zero, Nat.mul_one, Int.toNat_natCast, Int.reduceToNat, words, l2, l4, l5, l6, l7]
      refine call_rule (k145 _ 11 (by omega) (by omega)) ?_
      rintro en w11 ⟨rfl, hx11⟩
      refine ⟨_, rfl, keep_yes hx11 ?_⟩
      simp -dsimp (disch := first | omega | rfl | simp only [all_cons, all_nil, plain_w32, plain_w8, plain_w64, plain_ws, plain_int, plain_bool, plain_slice, plain_ptr, plain_map, plain_iface, Bool.and_self]) only [↓pre, ↓pre2, ↓pre3, ↓look_cons, ↓look_bnd, ↓look_bnd0, ↓opd_tmp, ↓opd_const, ↓ite_f, ↓ite_t, ↓reduceIte, post, post2, decide_true, decide_false, opds, Nat.reduceEqDiff, Nat.reduceAdd, Nat.zero_add, Nat.add_zero, Nat.mul_one, Int.toNat_natCast, Int.reduceToNat, words, l2, l4, l5, l6, l7]
      refine call_rule (k145 _ 25 (by omega) (by omega)) ?_
      rintro en w12 ⟨rfl, hx12⟩
      refine ⟨_, rfl, keep_yes hx12 ?_⟩
      simp -dsimp (disch := first | omega | rfl | simp only [all_cons, all_nil, plain_w32, plain_w8, plain_w64, plain_ws, plain_int, plain_bool, plain_slice, plain_ptr, plain_map, plain_iface, Bool.and_self]) only [↓pre, ↓pre2, ↓pre3, ↓look_cons, ↓look_bnd, ↓look_bnd0, ↓opd_tmp, ↓opd_const, ↓ite_f, ↓ite_t, ↓reduceIte, post, post2, decide_true, decide_false, opds, Nat.reduceEqDiff, Nat.reduceAdd, Nat.zero_add, Nat.add_zero, Nat.mul_one, Int.toNat_natCast, Int.reduceToNat, words, l2, l4, l5, l6, l7]
      refine call_rule (k146 t ht) ?_
      rintro en w13 ⟨rfl, hx13⟩
      refine ⟨_, rfl, keep_yes hx13 ?_⟩
      simp -dsimp (disch := first | omega | rfl | simp only [all_cons, all_nil, plain_w32, plain_w8, plain_w64, plain_ws, plain_int, plain_bool, plain_slice, plain_ptr, plain_map, plain_iface, Bool.and_self]) only [↓pre, ↓pre2, ↓pre3, ↓look_cons, ↓look_bnd, ↓look_bnd0, ↓opd_tmp, ↓opd_const, ↓ite_f, ↓ite_t, ↓reduceIte, post, post2, decide_true, decide_false, opds, Nat.reduceEqDiff, Nat.reduceAdd, Nat.zero_add, Nat.add_zero, Nat.mul_one, Int.toNat_natCast, Int.reduceToNat, words, l2, l4, l5, l6, l7]
      have hxa : Ex v w13 := (Ex.drew (Fr.refl v)).trans (((hx10.trans hx11).trans hx12).trans hx13)
      have C5b : Cw w13.drew.heap b5 _ := C5.ex (Ex.drew hxa)
      have C6b : Cw w13.drew.heap b6 _ := C6.ex (Ex.drew hxa)
      refine par_ex ?_
      simp -dsimp (disch := first | omega | rfl | simp only [all_cons, all_nil, plain_w32, plain_w8, plain_w64, plain_ws, plain_int, plain_bool, plain_slice, plain_ptr, plain_map, plain_iface, Bool.and_self]) only [↓pre, ↓pre2, ↓pre3, ↓look_cons, ↓look_bnd, ↓look_bnd0, ↓opd_tmp, ↓opd_const, ↓ite_f, ↓ite_t, ↓reduceIte, post, post2, decide_true, decide_false, opds, Nat.reduceEqDiff, Nat.reduceAdd, Nat.zero_add, Nat.add_zero, Nat.mul_one, Int.toNat_natCast, Int.reduceToNat, words, l2, l4, l5, l6, l7, C5b.cell, C6b.cell, g5, g6]
      refine call_rule (k145 _ 2 (by omega) (by omega)) ?_
      rintro en w14 ⟨rfl, hx14⟩
      refine ⟨_, rfl, keep_yes hx14 ?_⟩
      simp -dsimp (disch := first | omega | rfl | simp only [all_cons, all_nil, plain_w32, plain_w8, plain_w64, plain_ws, plain_int, plain_bool, plain_slice, plain_ptr, plain_map, plain_iface, Bool.and_self]) only [↓pre, ↓pre2, ↓pre3, ↓look_cons, ↓look_bnd, ↓look_bnd0, ↓opd_tmp, ↓opd_const, ↓ite_f, ↓ite_t, ↓reduceIte, post, post2, decide_true, decide_false, opds, Nat.reduceEqDiff, Nat.reduceAdd, Nat.zero_add, Nat.add_zero, Nat.mul_one, Int.toNat_natCast, Int.reduceToNat, words, l2, l4, l5, l6, l7]
      refine call_rule (k145 _ 13 (by omega) (by omega)) ?_
      rintro en w15 ⟨rfl, hx15⟩
      refine ⟨_, rfl, keep_yes hx15 ?_⟩
      simp -dsimp (disch := first | omega | rfl | simp only [all_cons, all_nil, plain_w32, plain_w8, plain_w64, plain_ws, plain_int, plain_bool, plain_slice, plain_ptr, plain_map, plain_iface, Bool.and_self]) only [↓pre, ↓pre2, ↓pre3, ↓look_cons, ↓look_bnd, ↓look_bnd0, ↓opd_tmp, ↓opd_const, ↓ite_f, ↓ite_t, ↓reduceIte, post, post2, decide_true, decide_false, opds, Nat.reduceEqDiff, Nat.reduceAdd, Nat.zero_add, Nat.add_zero, Nat.mul_one, Int.toNat_natCast, Int.reduceToNat, words, l2, l4, l5, l6, l7]
      refine call_rule (k145 _ 22 (by omega) (by omega)) ?_
      rintro en w16 ⟨rfl, hx16⟩
      refine ⟨_, rfl, keep_yes hx16 ?_⟩
      simp -dsimp (disch := first | omega | rfl | simp only [all_cons, all_nil, plain_w32, plain_w8, plain_w64, plain_ws, plain_int, plain_bool, plain_slice, plain_ptr, plain_map, plain_iface, Bool.and_self]) only [↓pre, ↓pre2, ↓pre3, ↓look_cons, ↓look_bnd, ↓look_bnd0, ↓opd_tmp, ↓opd_const, ↓ite_f, ↓ite_t, ↓reduceIte, post, post2, decide_true, decide_false, opds, Nat.reduceEqDiff, Nat.reduceAdd, Nat.zero_add, Nat.add_zero, Nat.mul_one, Int.toNat_natCast, Int.reduceToNat, words, l2, l4, l5, l6, l7]
      have hxb : Ex v w16 := (Ex.drew hxa).trans ((hx14.trans hx15).trans hx16)
      have C6c : Cw w16.heap b6 _ := C6.ex hxb
      simp -dsimp (disch := first | omega | rfl | simp only [all_cons, all_nil, plain_w32, plain_w8, plain_w64, plain_ws, plain_int, plain_bool, plain_slice, plain_ptr, plain_map, plain_iface, Bool.and_self]) only [↓pre, ↓pre2, ↓pre3, ↓look_cons, ↓look_bnd, ↓look_bnd0, ↓opd_tmp, ↓opd_const, ↓ite_f, ↓ite_t, ↓reduceIte, post, post2, decide_true, decide_false, opds, Nat.reduceEqDiff, Nat.reduceAdd, Nat.zero_add, Nat.add_zero, Nat.mul_one, Int.toNat_natCast, Int.reduceToNat, words, l2, l4, l5, l6, l7, C6c.cell, g6]
      refine stores_all (cs := (shaRounds l s (t + 1)).map w32) C6c (by rfl) (by rfl) (by simp [shaRounds_length hs]) (by simp [plain_w32]) fun w17 C6d hf17 hs17 => ?_
      have C5d : Cw w17.heap b5 _ := Cw.fr (C5.ex hxb) hf17 hne
      have hEd : Ex w2 w17 := Ex.young (hE.trans hxb) hf17 hb6
      simp -dsimp (disch := first | omega | rfl | simp only [all_cons, all_nil, plain_w32, plain_w8, plain_w64, plain_ws, plain_int, plain_bool, plain_slice, plain_ptr, plain_map, plain_iface, Bool.and_self]) only [↓pre, ↓pre2, ↓pre3, ↓look_cons, ↓look_bnd, ↓look_bnd0, ↓opd_tmp, ↓opd_const, ↓ite_f, ↓ite_t, ↓reduceIte, post, post2, decide_true, decide_false, opds, Nat.reduceEqDiff, Nat.reduceAdd, Nat.zero_add, Nat.add_zero, Nat.mul_one, Int.toNat_natCast, Int.reduceToNat, words, l2, l4, l5, l6, l7]
      refine cond_dec (fun hlt => ?_) (fun hge => absurd hge (by omega))
      simp -dsimp (disch := first | omega | rfl | simp only [all_cons, all_nil, plain_w32, plain_w8, plain_w64, plain_ws, plain_int, plain_bool, plain_slice, plain_ptr, plain_map, plain_iface, Bool.and_self]) only [↓pre, ↓pre2, ↓pre3, ↓look_cons, ↓look_bnd, ↓look_bnd0, ↓opd_tmp, ↓opd_const, ↓ite_f, ↓ite_t, ↓reduceIte, post, post2, decide_true, decide_false, opds, Nat.reduceEqDiff, Nat.reduceAdd, Nat.zero_add, Nat.add_zero, Nat.mul_one, Int.toNat_natCast, Int.reduceToNat]
      refine ⟨trivial, (t + 1, b5, b6), by simp [sub, look, bnd, add_addr, l2, l4, l5, l6, bnd], by omega, hne, hb5, hb6, C5d, C6d, hEd⟩
    · intro N hN
      simp -dsimp (disch := first | omega | rfl | simp only [all_cons, all_nil, plain_w32, plain_w8, plain_w64, plain_ws, plain_int, plain_bool, plain_slice, plain_ptr, plain_map, plain_iface, Bool.and_self]) only [↓pre, ↓pre2, ↓pre3, ↓look_cons, ↓look_bnd, ↓look_bnd0, ↓opd_tmp, ↓opd_const, ↓ite_f, ↓ite_t, ↓reduceIte, post, post2, decide_true, decide_false, opds, Nat.reduceEqDiff, Nat.reduceAdd, Nat.zero_add, Nat.add_zero, Nat.mul_one, Int.toNat_natCast, Int.reduceToNat]
      refine ldam_rule (by omega) ?_
      refine lda_cw (w := w2.drew) (xs := s.map w32) hc1' (by simpa using hs) ?_
      have hE2 : Ex w2 w2.drew := (Fr.refl w2).drew
      have hz2 := hE2.size
      refine step2 ?_ (step2 ?_ ?_)
      · simp -dsimp (disch := first | omega | rfl | simp only [all_cons, all_nil, plain_w32, plain_w8, plain_w64, plain_ws, plain_int, plain_bool, plain_slice, plain_ptr, plain_map, plain_iface, Bool.and_self]) only [↓pre, ↓pre2, ↓pre3, ↓look_cons, ↓look_bnd, ↓look_bnd0, ↓opd_tmp, ↓opd_const, ↓ite_f, ↓ite_t, ↓reduceIte, post, post2, decide_true, decide_false, opds, Nat.reduceEqDiff, Nat.reduceAdd, Nat.zero_add, Nat.add_zero, Nat.mul_one, Int.toNat_natCast, Int.reduceToNat]
        refine call_rule (k144 (hb.ex (he12.trans hE2)) hl hl') ?_
        rintro en w3 ⟨rfl, hx3⟩
        refine ⟨_, rfl, keep_yes (hx3.to) ?_⟩
        have hE3 := hE2.trans hx3
        have hz3 := hx3.size
        simp -dsimp (disch := first | omega | rfl | simp only [all_cons, all_nil, plain_w32, plain_w8, plain_w64, plain_ws, plain_int, plain_bool, plain_slice, plain_ptr, plain_map, plain_iface, Bool.and_self]) only [↓pre, ↓pre2, ↓pre3, ↓look_cons, ↓look_bnd, ↓look_bnd0, ↓opd_tmp, ↓opd_const, ↓ite_f, ↓ite_t, ↓reduceIte, post, post2, decide_true, decide_false, opds, Nat.reduceEqDiff, Nat.reduceAdd, Nat.zero_add, Nat.add_zero, Nat.mul_one, Int.toNat_natCast, Int.reduceToNat]
        refine step2 ?_ ?_
        · simp -dsimp (disch := first | omega | rfl | simp only [all_cons, all_nil, plain_w32, plain_w8, plain_w64, plain_ws, plain_int, plain_bool, plain_slice, plain_ptr, plain_map, plain_iface, Bool.and_self]) only [↓pre, ↓pre2, ↓pre3, ↓look_cons, ↓look_bnd, ↓look_bnd0, ↓opd_tmp, ↓opd_const, ↓ite_f, ↓ite_t, ↓reduceIte, post, post2, decide_true, decide_false, opds, Nat.reduceEqDiff, Nat.reduceAdd, Nat.zero_add, Nat.add_zero, Nat.mul_one, Int.toNat_natCast, Int.reduceToNat]
          refine alloc_rule (z := (List.replicate 64 (0#32)).map w32) (by kernel_rfl) fun b5 w4 hb5 hc5 hx4 hs4 => ?_
          refine keep_yes (hx4.to) ?_
          have hE4 := hE3.trans hx4
          have hz4 := hx4.size
          try simp -dsimp (disch := first | omega | rfl | simp only [all_cons, all_nil, plain_w32, plain_w8, plain_w64, plain_ws, plain_int, plain_bool, plain_slice, plain_ptr, plain_map, plain_iface, Bool.and_self]) only [↓pre, ↓pre2, ↓pre3, ↓look_cons, ↓look_bnd, ↓look_bnd0, ↓opd_tmp, ↓opd_const, ↓ite_f, ↓ite_t, ↓reduceIte, post, post2, decide_true, decide_false, opds, Nat.reduceEqDiff, Nat.reduceAdd, Nat.zero_add, Nat.add_zero, Nat.mul_one, Int.toNat_natCast, Int.reduceToNat]
          refine alloc_rule (z := (List.replicate 8 (0#32)).map w32) (by kernel_rfl) fun b6 w5 hb6 hc6 hx5 hs5 => ?_
          refine keep_yes (hx5.to) ?_
          have hE5 := hE4.trans hx5
          have hz5 := hx5.size
          try simp -dsimp (disch := first | omega | rfl | simp only [all_cons, all_nil, plain_w32, plain_w8, plain_w64, plain_ws, plain_int, plain_bool, plain_slice, plain_ptr, plain_map, plain_iface, Bool.and_self]) only [↓pre, ↓pre2, ↓pre3, ↓look_cons, ↓look_bnd, ↓look_bnd0, ↓opd_tmp, ↓opd_const, ↓ite_f, ↓ite_t, ↓reduceIte, post, post2, decide_true, decide_false, opds, Nat.reduceEqDiff, Nat.reduceAdd, Nat.zero_add, Nat.add_zero, Nat.mul_one, Int.toNat_natCast, Int.reduceToNat]
          refine stores_all (cs := (sched l 64).map w32) (xs := (List.replicate 64 (0#32)).map w32) (by first | exact hc5 | exact hc5.ex hx5 | exact hc5.ex (hx4.trans hx5)) (by simp [Value.cells]) (by simp [sched_length]) (by simp) (by simp [plain_w32]) fun w6 hc5' hf6 hs6 => ?_
          refine keep_yes (hf6.mono (fun k _ hk => by rw [hk]; show w2.heap.size ≤ b5; omega)) ?_
          simp -dsimp (disch := first | omega | rfl | simp only [all_cons, all_nil, plain_w32, plain_w8, plain_w64, plain_ws, plain_int, plain_bool, plain_slice, plain_ptr, plain_map, plain_iface, Bool.and_self]) only [↓pre, ↓pre2, ↓pre3, ↓look_cons, ↓look_bnd, ↓look_bnd0, ↓opd_tmp, ↓opd_const, ↓ite_f, ↓ite_t, ↓reduceIte, post, post2, decide_true, decide_false, opds, Nat.reduceEqDiff, Nat.reduceAdd, Nat.zero_add, Nat.add_zero, Nat.mul_one, Int.toNat_natCast, Int.reduceToNat]
          have hne : b6 ≠ b5 := by omega
          have hc6' : Cw w6.heap b6 ((List.replicate 8 (0#32)).map w32) := Cw.fr (M := (· = b5)) (w := w5) (by first | exact hc6 | exact hc6.ex hx5 | exact hc6.ex (hx4.trans hx5)) hf6 hne
          refine stores_all (cs := s.map w32) hc6' (by simp [Value.cells]) (by simpa using hs) (by simp) (by simp [plain_w32]) fun w7 hc7 hf7 hs7 => ?_
          simp -dsimp (disch := first | omega | rfl | simp only [all_cons, all_nil, plain_w32, plain_w8, plain_w64, plain_ws, plain_int, plain_bool, plain_slice, plain_ptr, plain_map, plain_iface, Bool.and_self]) only [↓pre, ↓pre2, ↓pre3, ↓look_cons, ↓look_bnd, ↓look_bnd0, ↓opd_tmp, ↓opd_const, ↓ite_f, ↓ite_t, ↓reduceIte, post, post2, decide_true, decide_false, opds, Nat.reduceEqDiff, Nat.reduceAdd, Nat.zero_add, Nat.add_zero, Nat.mul_one, Int.toNat_natCast, Int.reduceToNat]
          have hEx : Ex w2 w7 := Ex.young (Ex.young hE5 hf6 (by omega)) hf7 (by omega)
          refine hN _ _ ⟨by simp [look], by simp [look], by simp [look], b5, b6, by simp [look], by simp [look], by omega, by omega, by omega, Cw.fr (M := (· = b6)) hc5' hf7 (fun h => hne h.symm), hc7, hEx⟩
        · simp -dsimp (disch := first | omega | rfl | simp only [all_cons, all_nil, plain_w32, plain_w8, plain_w64, plain_ws, plain_int, plain_bool, plain_slice, plain_ptr, plain_map, plain_iface, Bool.and_self]) only [↓pre, ↓pre2, ↓pre3, ↓look_cons, ↓look_bnd, ↓look_bnd0, ↓opd_tmp, ↓opd_const, ↓ite_f, ↓ite_t, ↓reduceIte, post, post2, decide_true, decide_false, opds, Nat.reduceEqDiff, Nat.reduceAdd, Nat.zero_add, Nat.add_zero, Nat.mul_one, Int.toNat_natCast, Int.reduceToNat]
          refine alloc_rule (z := (List.replicate 8 (0#32)).map w32) (by kernel_rfl) fun b6 w4 hb6 hc6 hx4 hs4 => ?_
          refine keep_yes (hx4.to) ?_
          have hE4 := hE3.trans hx4
          have hz4 := hx4.size
          try simp -dsimp (disch := first | omega | rfl | simp only [all_cons, all_nil, plain_w32, plain_w8, plain_w64, plain_ws, plain_int, plain_bool, plain_slice, plain_ptr, plain_map, plain_iface, Bool.and_self]) only [↓pre, ↓pre2, ↓pre3, ↓look_cons, ↓look_bnd, ↓look_bnd0, ↓opd_tmp, ↓opd_const, ↓ite_f, ↓ite_t, ↓reduceIte, post, post2, decide_true, decide_false, opds, Nat.reduceEqDiff, Nat.reduceAdd, Nat.zero_add, Nat.add_zero, Nat.mul_one, Int.toNat_natCast, Int.reduceToNat]
          refine alloc_rule (z := (List.replicate 64 (0#32)).map w32) (by kernel_rfl) fun b5 w5 hb5 hc5 hx5 hs5 => ?_
          refine keep_yes (hx5.to) ?_
          have hE5 := hE4.trans hx5
          have hz5 := hx5.size
          try simp -dsimp (disch := first | omega | rfl | simp only [all_cons, all_nil, plain_w32, plain_w8, plain_w64, plain_ws, plain_int, plain_bool, plain_slice, plain_ptr, plain_map, plain_iface, Bool.and_self]) only [↓pre, ↓pre2, ↓pre3, ↓look_cons, ↓look_bnd, ↓look_bnd0, ↓opd_tmp, ↓opd_const, ↓ite_f, ↓ite_t, ↓reduceIte, post, post2, decide_true, decide_false, opds, Nat.reduceEqDiff, Nat.reduceAdd, Nat.zero_add, Nat.add_zero, Nat.mul_one, Int.toNat_natCast, Int.reduceToNat]
          refine stores_all (cs := (sched l 64).map w32) (xs := (List.replicate 64 (0#32)).map w32) (by first | exact hc5 | exact hc5.ex hx5 | exact hc5.ex (hx4.trans hx5)) (by simp [Value.cells]) (by simp [sched_length]) (by simp) (by simp [plain_w32]) fun w6 hc5' hf6 hs6 => ?_
          refine keep_yes (hf6.mono (fun k _ hk => by rw [hk]; show w2.heap.size ≤ b5; omega)) ?_
          simp -dsimp (disch := first | omega | rfl | simp only [all_cons, all_nil, plain_w32, plain_w8, plain_w64, plain_ws, plain_int, plain_bool, plain_slice, plain_ptr, plain_map, plain_iface, Bool.and_self]) only [↓pre, ↓pre2, ↓pre3, ↓look_cons, ↓look_bnd, ↓look_bnd0, ↓opd_tmp, ↓opd_const, ↓ite_f, ↓ite_t, ↓reduceIte, post, post2, decide_true, decide_false, opds, Nat.reduceEqDiff, Nat.reduceAdd, Nat.zero_add, Nat.add_zero, Nat.mul_one, Int.toNat_natCast, Int.reduceToNat]
          have hne : b6 ≠ b5 := by omega
          have hc6' : Cw w6.heap b6 ((List.replicate 8 (0#32)).map w32) := Cw.fr (M := (· = b5)) (w := w5) (by first | exact hc6 | exact hc6.ex hx5 | exact hc6.ex (hx4.trans hx5)) hf6 hne
          refine stores_all (cs := s.map w32) hc6' (by simp [Value.cells]) (by simpa using hs) (by simp) (by simp [plain_w32]) fun w7 hc7 hf7 hs7 => ?_
          simp -dsimp (disch := first | omega | rfl | simp only [all_cons, all_nil, plain_w32, plain_w8, plain_w64, plain_ws, plain_int, plain_bool, plain_slice, plain_ptr, plain_map, plain_iface, Bool.and_self]) only [↓pre, ↓pre2, ↓pre3, ↓look_cons, ↓look_bnd, ↓look_bnd0, ↓opd_tmp, ↓opd_const, ↓ite_f, ↓ite_t, ↓reduceIte, post, post2, decide_true, decide_false, opds, Nat.reduceEqDiff, Nat.reduceAdd, Nat.zero_add, Nat.add_zero, Nat.mul_one, Int.toNat_natCast, Int.reduceToNat]
          have hEx : Ex w2 w7 := Ex.young (Ex.young hE5 hf6 (by omega)) hf7 (by omega)
          refine hN _ _ ⟨by simp [look], by simp [look], by simp [look], b5, b6, by simp [look], by simp [look], by omega, by omega, by omega, Cw.fr (M := (· = b6)) hc5' hf7 (fun h => hne h.symm), hc7, hEx⟩
      · simp -dsimp (disch := first | omega | rfl | simp only [all_cons, all_nil, plain_w32, plain_w8, plain_w64, plain_ws, plain_int, plain_bool, plain_slice, plain_ptr, plain_map, plain_iface, Bool.and_self]) only [↓pre, ↓pre2, ↓pre3, ↓look_cons, ↓look_bnd, ↓look_bnd0, ↓opd_tmp, ↓opd_const, ↓ite_f, ↓ite_t, ↓reduceIte, post, post2, decide_true, decide_false, opds, Nat.reduceEqDiff, Nat.reduceAdd, Nat.zero_add, Nat.add_zero, Nat.mul_one, Int.toNat_natCast, Int.reduceToNat]
        refine alloc_rule (z := (List.replicate 64 (0#32)).map w32) (by kernel_rfl) fun b5 w3 hb5 hc5 hx3 hs3 => ?_
        refine keep_yes (hx3.to) ?_
        have hE3 := hE2.trans hx3
        have hz3 := hx3.size
        try simp -dsimp (disch := first | omega | rfl | simp only [all_cons, all_nil, plain_w32, plain_w8, plain_w64, plain_ws, plain_int, plain_bool, plain_slice, plain_ptr, plain_map, plain_iface, Bool.and_self]) only [↓pre, ↓pre2, ↓pre3, ↓look_cons, ↓look_bnd, ↓look_bnd0, ↓opd_tmp, ↓opd_const, ↓ite_f, ↓ite_t, ↓reduceIte, post, post2, decide_true, decide_false, opds, Nat.reduceEqDiff, Nat.reduceAdd, Nat.zero_add, Nat.add_zero, Nat.mul_one, Int.toNat_natCast, Int.reduceToNat]
        refine step2 ?_ ?_
        · simp -dsimp (disch := first | omega | rfl | simp only [all_cons, all_nil, plain_w32, plain_w8, plain_w64, plain_ws, plain_int, plain_bool, plain_slice, plain_ptr, plain_map, plain_iface, Bool.and_self]) only [↓pre, ↓pre2, ↓pre3, ↓look_cons, ↓look_bnd, ↓look_bnd0, ↓opd_tmp, ↓opd_const, ↓ite_f, ↓ite_t, ↓reduceIte, post, post2, decide_true, decide_false, opds, Nat.reduceEqDiff, Nat.reduceAdd, Nat.zero_add, Nat.add_zero, Nat.mul_one, Int.toNat_natCast, Int.reduceToNat]
          refine call_rule (k144 (hb.ex (he12.trans hE3)) hl hl') ?_
          rintro en w4 ⟨rfl, hx4⟩
          refine ⟨_, rfl, keep_yes (hx4.to) ?_⟩
          have hE4 := hE3.trans hx4
          have hz4 := hx4.size
          simp -dsimp (disch := first | omega | rfl | simp only [all_cons, all_nil, plain_w32, plain_w8, plain_w64, plain_ws, plain_int, plain_bool, plain_slice, plain_ptr, plain_map, plain_iface, Bool.and_self]) only [↓pre, ↓pre2, ↓pre3, ↓look_cons, ↓look_bnd, ↓look_bnd0, ↓opd_tmp, ↓opd_const, ↓ite_f, ↓ite_t, ↓reduceIte, post, post2, decide_true, decide_false, opds, Nat.reduceEqDiff, Nat.reduceAdd, Nat.zero_add, Nat.add_zero, Nat.mul_one, Int.toNat_natCast, Int.reduceToNat]
          refine alloc_rule (z := (List.replicate 8 (0#32)).map w32) (by kernel_rfl) fun b6 w5 hb6 hc6 hx5 hs5 => ?_
          refine keep_yes (hx5.to) ?_
          have hE5 := hE4.trans hx5
          have hz5 := hx5.size
          try simp -dsimp (disch := first | omega | rfl | simp only [all_cons, all_nil, plain_w32, plain_w8, plain_w64, plain_ws, plain_int, plain_bool, plain_slice, plain_ptr, plain_map, plain_iface, Bool.and_self]) only [↓pre, ↓pre2, ↓pre3, ↓look_cons, ↓look_bnd, ↓look_bnd0, ↓opd_tmp, ↓opd_const, ↓ite_f, ↓ite_t, ↓reduceIte, post, post2, decide_true, decide_false, opds, Nat.reduceEqDiff, Nat.reduceAdd, Nat.zero_add, Nat.add_zero, Nat.mul_one, Int.toNat_natCast, Int.reduceToNat]
          refine stores_all (cs := (sched l 64).map w32) (xs := (List.replicate 64 (0#32)).map w32) (by first | exact hc5 | exact hc5.ex hx5 | exact hc5.ex (hx4.trans hx5)) (by simp [Value.cells]) (by simp [sched_length]) (by simp) (by simp [plain_w32]) fun w6 hc5' hf6 hs6 => ?_
          refine keep_yes (hf6.mono (fun k _ hk => by rw [hk]; show w2.heap.size ≤ b5; omega)) ?_
          simp -dsimp (disch := first | omega | rfl | simp only [all_cons, all_nil, plain_w32, plain_w8, plain_w64, plain_ws, plain_int, plain_bool, plain_slice, plain_ptr, plain_map, plain_iface, Bool.and_self]) only [↓pre, ↓pre2, ↓pre3, ↓look_cons, ↓look_bnd, ↓look_bnd0, ↓opd_tmp, ↓opd_const, ↓ite_f, ↓ite_t, ↓reduceIte, post, post2, decide_true, decide_false, opds, Nat.reduceEqDiff, Nat.reduceAdd, Nat.zero_add, Nat.add_zero, Nat.mul_one, Int.toNat_natCast, Int.reduceToNat]
          have hne : b6 ≠ b5 := by omega
          have hc6' : Cw w6.heap b6 ((List.replicate 8 (0#32)).map w32) := Cw.fr (M := (· = b5)) (w := w5) (by first | exact hc6 | exact hc6.ex hx5 | exact hc6.ex (hx4.trans hx5)) hf6 hne
          refine stores_all (cs := s.map w32) hc6' (by simp [Value.cells]) (by simpa using hs) (by simp) (by simp [plain_w32]) fun w7 hc7 hf7 hs7 => ?_
          simp -dsimp (disch := first | omega | rfl | simp only [all_cons, all_nil, plain_w32, plain_w8, plain_w64, plain_ws, plain_int, plain_bool, plain_slice, plain_ptr, plain_map, plain_iface, Bool.and_self]) only [↓pre, ↓pre2, ↓pre3, ↓look_cons, ↓look_bnd, ↓look_bnd0, ↓opd_tmp, ↓opd_const, ↓ite_f, ↓ite_t, ↓reduceIte, post, post2, decide_true, decide_false, opds, Nat.reduceEqDiff, Nat.reduceAdd, Nat.zero_add, Nat.add_zero, Nat.mul_one, Int.toNat_natCast, Int.reduceToNat]
          have hEx : Ex w2 w7 := Ex.young (Ex.young hE5 hf6 (by omega)) hf7 (by omega)
          refine hN _ _ ⟨by simp [look], by simp [look], by simp [look], b5, b6, by simp [look], by simp [look], by omega, by omega, by omega, Cw.fr (M := (· = b6)) hc5' hf7 (fun h => hne h.symm), hc7, hEx⟩
        · simp -dsimp (disch := first | omega | rfl | simp only [all_cons, all_nil, plain_w32, plain_w8, plain_w64, plain_ws, plain_int, plain_bool, plain_slice, plain_ptr, plain_map, plain_iface, Bool.and_self]) only [↓pre, ↓pre2, ↓pre3, ↓look_cons, ↓look_bnd, ↓look_bnd0, ↓opd_tmp, ↓opd_const, ↓ite_f, ↓ite_t, ↓reduceIte, post, post2, decide_true, decide_false, opds, Nat.reduceEqDiff, Nat.reduceAdd, Nat.zero_add, Nat.add_zero, Nat.mul_one, Int.toNat_natCast, Int.reduceToNat]
          refine alloc_rule (z := (List.replicate 8 (0#32)).map w32) (by kernel_rfl) fun b6 w4 hb6 hc6 hx4 hs4 => ?_
          refine keep_yes (hx4.to) ?_
          have hE4 := hE3.trans hx4
          have hz4 := hx4.size
          try simp -dsimp (disch := first | omega | rfl | simp only [all_cons, all_nil, plain_w32, plain_w8, plain_w64, plain_ws, plain_int, plain_bool, plain_slice, plain_ptr, plain_map, plain_iface, Bool.and_self]) only [↓pre, ↓pre2, ↓pre3, ↓look_cons, ↓look_bnd, ↓look_bnd0, ↓opd_tmp, ↓opd_const, ↓ite_f, ↓ite_t, ↓reduceIte, post, post2, decide_true, decide_false, opds, Nat.reduceEqDiff, Nat.reduceAdd, Nat.zero_add, Nat.add_zero, Nat.mul_one, Int.toNat_natCast, Int.reduceToNat]
          refine call_rule (k144 (hb.ex (he12.trans hE4)) hl hl') ?_
          rintro en w5 ⟨rfl, hx5⟩
          refine ⟨_, rfl, keep_yes (hx5.to) ?_⟩
          have hE5 := hE4.trans hx5
          have hz5 := hx5.size
          simp -dsimp (disch := first | omega | rfl | simp only [all_cons, all_nil, plain_w32, plain_w8, plain_w64, plain_ws, plain_int, plain_bool, plain_slice, plain_ptr, plain_map, plain_iface, Bool.and_self]) only [↓pre, ↓pre2, ↓pre3, ↓look_cons, ↓look_bnd, ↓look_bnd0, ↓opd_tmp, ↓opd_const, ↓ite_f, ↓ite_t, ↓reduceIte, post, post2, decide_true, decide_false, opds, Nat.reduceEqDiff, Nat.reduceAdd, Nat.zero_add, Nat.add_zero, Nat.mul_one, Int.toNat_natCast, Int.reduceToNat]
          refine stores_all (cs := (sched l 64).map w32) (xs := (List.replicate 64 (0#32)).map w32) (by first | exact hc5 | exact hc5.ex hx5 | exact hc5.ex (hx4.trans hx5)) (by simp [Value.cells]) (by simp [sched_length]) (by simp) (by simp [plain_w32]) fun w6 hc5' hf6 hs6 => ?_
          refine keep_yes (hf6.mono (fun k _ hk => by rw [hk]; show w2.heap.size ≤ b5; omega)) ?_
          simp -dsimp (disch := first | omega | rfl | simp only [all_cons, all_nil, plain_w32, plain_w8, plain_w64, plain_ws, plain_int, plain_bool, plain_slice, plain_ptr, plain_map, plain_iface, Bool.and_self]) only [↓pre, ↓pre2, ↓pre3, ↓look_cons, ↓look_bnd, ↓look_bnd0, ↓opd_tmp, ↓opd_const, ↓ite_f, ↓ite_t, ↓reduceIte, post, post2, decide_true, decide_false, opds, Nat.reduceEqDiff, Nat.reduceAdd, Nat.zero_add, Nat.add_zero, Nat.mul_one, Int.toNat_natCast, Int.reduceToNat]
          have hne : b6 ≠ b5 := by omega
          have hc6' : Cw w6.heap b6 ((List.replicate 8 (0#32)).map w32) := Cw.fr (M := (· = b5)) (w := w5) (by first | exact hc6 | exact hc6.ex hx5 | exact hc6.ex (hx4.trans hx5)) hf6 hne
          refine stores_all (cs := s.map w32) hc6' (by simp [Value.cells]) (by simpa using hs) (by simp) (by simp [plain_w32]) fun w7 hc7 hf7 hs7 => ?_
          simp -dsimp (disch := first | omega | rfl | simp only [all_cons, all_nil, plain_w32, plain_w8, plain_w64, plain_ws, plain_int, plain_bool, plain_slice, plain_ptr, plain_map, plain_iface, Bool.and_self]) only [↓pre, ↓pre2, ↓pre3, ↓look_cons, ↓look_bnd, ↓look_bnd0, ↓opd_tmp, ↓opd_const, ↓ite_f, ↓ite_t, ↓reduceIte, post, post2, decide_true, decide_false, opds, Nat.reduceEqDiff, Nat.reduceAdd, Nat.zero_add, Nat.add_zero, Nat.mul_one, Int.toNat_natCast, Int.reduceToNat]
          have hEx : Ex w2 w7 := Ex.young (Ex.young hE5 hf6 (by omega)) hf7 (by omega)
          refine hN _ _ ⟨by simp [look], by simp [look], by simp [look], b5, b6, by simp [look], by simp [look], by omega, by omega, by omega, Cw.fr (M := (· = b6)) hc5' hf7 (fun h => hne h.symm), hc7, hEx⟩
      · simp -dsimp (disch := first | omega | rfl | simp only [all_cons, all_nil, plain_w32, plain_w8, plain_w64, plain_ws, plain_int, plain_bool, plain_slice, plain_ptr, plain_map, plain_iface, Bool.and_self]) only [↓pre, ↓pre2, ↓pre3, ↓look_cons, ↓look_bnd, ↓look_bnd0, ↓opd_tmp, ↓opd_const, ↓ite_f, ↓ite_t, ↓reduceIte, post, post2, decide_true, decide_false, opds, Nat.reduceEqDiff, Nat.reduceAdd, Nat.zero_add, Nat.add_zero, Nat.mul_one, Int.toNat_natCast, Int.reduceToNat]
        refine alloc_rule (z := (List.replicate 8 (0#32)).map w32) (by kernel_rfl) fun b6 w3 hb6 hc6 hx3 hs3 => ?_
        refine keep_yes (hx3.to) ?_
        have hE3 := hE2.trans hx3
        have hz3 := hx3.size
        try simp -dsimp (disch := first | omega | rfl | simp only [all_cons, all_nil, plain_w32, plain_w8, plain_w64, plain_ws, plain_int, plain_bool, plain_slice, plain_ptr, plain_map, plain_iface, Bool.and_self]) only [↓pre, ↓pre2, ↓pre3, ↓look_cons, ↓look_bnd, ↓look_bnd0, ↓opd_tmp, ↓opd_const, ↓ite_f, ↓ite_t, ↓reduceIte, post, post2, decide_true, decide_false, opds, Nat.reduceEqDiff, Nat.reduceAdd, Nat.zero_add, Nat.add_zero, Nat.mul_one, Int.toNat_natCast, Int.reduceToNat]
        refine step2 ?_ ?_
        · simp -dsimp (disch := first | omega | rfl | simp only [all_cons, all_nil, plain_w32, plain_w8, plain_w64, plain_ws, plain_int, plain_bool, plain_slice, plain_ptr, plain_map, plain_iface, Bool.and_self]) only [↓pre, ↓pre2, ↓pre3, ↓look_cons, ↓look_bnd, ↓look_bnd0, ↓opd_tmp, ↓opd_const, ↓ite_f, ↓ite_t, ↓reduceIte, post, post2, decide_true, decide_false, opds, Nat.reduceEqDiff, Nat.reduceAdd, Nat.zero_add, Nat.add_zero, Nat.mul_one, Int.toNat_natCast, Int.reduceToNat]
          refine call_rule (k144 (hb.ex (he12.trans hE3)) hl hl') ?_
          rintro en w4 ⟨rfl, hx4⟩
          refine ⟨_, rfl, keep_yes (hx4.to) ?_⟩
          have hE4 := hE3.trans hx4
          have hz4 := hx4.size
          simp -dsimp (disch := first | omega | rfl | simp only [all_cons, all_nil, plain_w32, plain_w8, plain_w64, plain_ws, plain_int, plain_bool, plain_slice, plain_ptr, plain_map, plain_iface, Bool.and_self]) only [↓pre, ↓pre2, ↓pre3, ↓look_cons, ↓look_bnd, ↓look_bnd0, ↓opd_tmp, ↓opd_const, ↓ite_f, ↓ite_t, ↓reduceIte, post, post2, decide_true, decide_false, opds, Nat.reduceEqDiff, Nat.reduceAdd, Nat.zero_add, Nat.add_zero, Nat.mul_one, Int.toNat_natCast, Int.reduceToNat]
          refine alloc_rule (z := (List.replicate 64 (0#32)).map w32) (by kernel_rfl) fun b5 w5 hb5 hc5 hx5 hs5 => ?_
          refine keep_yes (hx5.to) ?_
          have hE5 := hE4.trans hx5
          have hz5 := hx5.size
          try simp -dsimp (disch := first | omega | rfl | simp only [all_cons, all_nil, plain_w32, plain_w8, plain_w64, plain_ws, plain_int, plain_bool, plain_slice, plain_ptr, plain_map, plain_iface, Bool.and_self]) only [↓pre, ↓pre2, ↓pre3, ↓look_cons, ↓look_bnd, ↓look_bnd0, ↓opd_tmp, ↓opd_const, ↓ite_f, ↓ite_t, ↓reduceIte, post, post2, decide_true, decide_false, opds, Nat.reduceEqDiff, Nat.reduceAdd, Nat.zero_add, Nat.add_zero, Nat.mul_one, Int.toNat_natCast, Int.reduceToNat]
          refine stores_all (cs := (sched l 64).map w32) (xs := (List.replicate 64 (0#32)).map w32) (by first | exact hc5 | exact hc5.ex hx5 | exact hc5.ex (hx4.trans hx5)) (by simp [Value.cells]) (by simp [sched_length]) (by simp) (by simp [plain_w32]) fun w6 hc5' hf6 hs6 => ?_
          refine keep_yes (hf6.mono (fun k _ hk => by rw [hk]; show w2.heap.size ≤ b5; omega)) ?_
          simp -dsimp (disch := first | omega | rfl | simp only [all_cons, all_nil, plain_w32, plain_w8, plain_w64, plain_ws, plain_int, plain_bool, plain_slice, plain_ptr, plain_map, plain_iface, Bool.and_self]) only [↓pre, ↓pre2, ↓pre3, ↓look_cons, ↓look_bnd, ↓look_bnd0, ↓opd_tmp, ↓opd_const, ↓ite_f, ↓ite_t, ↓reduceIte, post, post2, decide_true, decide_false, opds, Nat.reduceEqDiff, Nat.reduceAdd, Nat.zero_add, Nat.add_zero, Nat.mul_one, Int.toNat_natCast, Int.reduceToNat]
          have hne : b6 ≠ b5 := by omega
          have hc6' : Cw w6.heap b6 ((List.replicate 8 (0#32)).map w32) := Cw.fr (M := (· = b5)) (w := w5) (by first | exact hc6 | exact hc6.ex hx5 | exact hc6.ex (hx4.trans hx5)) hf6 hne
          refine stores_all (cs := s.map w32) hc6' (by simp [Value.cells]) (by simpa using hs) (by simp) (by simp [plain_w32]) fun w7 hc7 hf7 hs7 => ?_
          simp -dsimp (disch := first | omega | rfl | simp only [all_cons, all_nil, plain_w32, plain_w8, plain_w64, plain_ws, plain_int, plain_bool, plain_slice, plain_ptr, plain_map, plain_iface, Bool.and_self]) only [↓pre, ↓pre2, ↓pre3, ↓look_cons, ↓look_bnd, ↓look_bnd0, ↓opd_tmp, ↓opd_const, ↓ite_f, ↓ite_t, ↓reduceIte, post, post2, decide_true, decide_false, opds, Nat.reduceEqDiff, Nat.reduceAdd, Nat.zero_add, Nat.add_zero, Nat.mul_one, Int.toNat_natCast, Int.reduceToNat]
          have hEx : Ex w2 w7 := Ex.young (Ex.young hE5 hf6 (by omega)) hf7 (by omega)
          refine hN _ _ ⟨by simp [look], by simp [look], by simp [look], b5, b6, by simp [look], by simp [look], by omega, by omega, by omega, Cw.fr (M := (· = b6)) hc5' hf7 (fun h => hne h.symm), hc7, hEx⟩
        · simp -dsimp (disch := first | omega | rfl | simp only [all_cons, all_nil, plain_w32, plain_w8, plain_w64, plain_ws, plain_int, plain_bool, plain_slice, plain_ptr, plain_map, plain_iface, Bool.and_self]) only [↓pre, ↓pre2, ↓pre3, ↓look_cons, ↓look_bnd, ↓look_bnd0, ↓opd_tmp, ↓opd_const, ↓ite_f, ↓ite_t, ↓reduceIte, post, post2, decide_true, decide_false, opds, Nat.reduceEqDiff, Nat.reduceAdd, Nat.zero_add, Nat.add_zero, Nat.mul_one, Int.toNat_natCast, Int.reduceToNat]
          refine alloc_rule (z := (List.replicate 64 (0#32)).map w32) (by kernel_rfl) fun b5 w4 hb5 hc5 hx4 hs4 => ?_
          refine keep_yes (hx4.to) ?_
          have hE4 := hE3.trans hx4
          have hz4 := hx4.size
          try simp -dsimp (disch := first | omega | rfl | simp only [all_cons, all_nil, plain_w32, plain_w8, plain_w64, plain_ws, plain_int, plain_bool, plain_slice, plain_ptr, plain_map, plain_iface, Bool.and_self]) only [↓pre, ↓pre2, ↓pre3, ↓look_cons, ↓look_bnd, ↓look_bnd0, ↓opd_tmp, ↓opd_const, ↓ite_f, ↓ite_t, ↓reduceIte, post, post2, decide_true, decide_false, opds, Nat.reduceEqDiff, Nat.reduceAdd, Nat.zero_add, Nat.add_zero, Nat.mul_one, Int.toNat_natCast, Int.reduceToNat]
          refine call_rule (k144 (hb.ex (he12.trans hE4)) hl hl') ?_
          rintro en w5 ⟨rfl, hx5⟩
          refine ⟨_, rfl, keep_yes (hx5.to) ?_⟩
          have hE5 := hE4.trans hx5
          have hz5 := hx5.size
          simp -dsimp (disch := first | omega | rfl | simp only [all_cons, all_nil, plain_w32, plain_w8, plain_w64, plain_ws, plain_int, plain_bool, plain_slice, plain_ptr, plain_map, plain_iface, Bool.and_self]) only [↓pre, ↓pre2, ↓pre3, ↓look_cons, ↓look_bnd, ↓look_bnd0, ↓opd_tmp, ↓opd_const, ↓ite_f, ↓ite_t, ↓reduceIte, post, post2, decide_true, decide_false, opds, Nat.reduceEqDiff, Nat.reduceAdd, Nat.zero_add, Nat.add_zero, Nat.mul_one, Int.toNat_natCast, Int.reduceToNat]
          refine stores_all (cs := (sched l 64).map w32) (xs := (List.replicate 64 (0#32)).map w32) (by first | exact hc5 | exact hc5.ex hx5 | exact hc5.ex (hx4.trans hx5)) (by simp [Value.cells]) (by simp [sched_length]) (by simp) (by simp [plain_w32]) fun w6 hc5' hf6 hs6 => ?_
          refine keep_yes (hf6.mono (fun k _ hk => by rw [hk]; show w2.heap.size ≤ b5; omega)) ?_
          simp -dsimp (disch := first | omega | rfl | simp only [all_cons, all_nil, plain_w32, plain_w8, plain_w64, plain_ws, plain_int, plain_bool, plain_slice, plain_ptr, plain_map, plain_iface, Bool.and_self]) only [↓pre, ↓pre2, ↓pre3, ↓look_cons, ↓look_bnd, ↓look_bnd0, ↓opd_tmp, ↓opd_const, ↓ite_f, ↓ite_t, ↓reduceIte, post, post2, decide_true, decide_false, opds, Nat.reduceEqDiff, Nat.reduceAdd, Nat.zero_add, Nat.add_zero, Nat.mul_one, Int.toNat_natCast, Int.reduceToNat]
          have hne : b6 ≠ b5 := by omega
          have hc6' : Cw w6.heap b6 ((List.replicate 8 (0#32)).map w32) := Cw.fr (M := (· = b5)) (w := w5) (by first | exact hc6 | exact hc6.ex hx5 | exact hc6.ex (hx4.trans hx5)) hf6 hne
          refine stores_all (cs := s.map w32) hc6' (by simp [Value.cells]) (by simpa using hs) (by simp) (by simp [plain_w32]) fun w7 hc7 hf7 hs7 => ?_
          simp -dsimp (disch := first | omega | rfl | simp only [all_cons, all_nil, plain_w32, plain_w8, plain_w64, plain_ws, plain_int, plain_bool, plain_slice, plain_ptr, plain_map, plain_iface, Bool.and_self]) only [↓pre, ↓pre2, ↓pre3, ↓look_cons, ↓look_bnd, ↓look_bnd0, ↓opd_tmp, ↓opd_const, ↓ite_f, ↓ite_t, ↓reduceIte, post, post2, decide_true, decide_false, opds, Nat.reduceEqDiff, Nat.reduceAdd, Nat.zero_add, Nat.add_zero, Nat.mul_one, Int.toNat_natCast, Int.reduceToNat]
          have hEx : Ex w2 w7 := Ex.young (Ex.young hE5 hf6 (by omega)) hf7 (by omega)
          refine hN _ _ ⟨by simp [look], by simp [look], by simp [look], b5, b6, by simp [look], by simp [look], by omega, by omega, by omega, Cw.fr (M := (· = b6)) hc5' hf7 (fun h => hne h.symm), hc7, hEx⟩
  · rintro ⟨t, b5, b6⟩ v ⟨ht, hne, hb5, hb6, C5, C6, hE⟩
    simp only at ht hne hb5 hb6 C5 C6
    generalize he : ([(7, vi t), (2, .pointer (some ⟨b2, 0, none⟩)), (4, .pointer (some ⟨b4, 0, none⟩)), (5, .pointer (some ⟨b5, 0, none⟩)), (6, .pointer (some ⟨b6, 0, none⟩))] : Env) = e
    have l2 : look e 2 = some (.pointer (some ⟨b2, 0, none⟩)) := by subst he; simp [look]
    have l4 : look e 4 = some (.pointer (some ⟨b4, 0, none⟩)) := by subst he; simp [look]
    have l5 : look e 5 = some (.pointer (some ⟨b5, 0, none⟩)) := by subst he; simp [look]
    have l6 : look e 6 = some (.pointer (some ⟨b6, 0, none⟩)) := by subst he; simp [look]
    have l7 : look e 7 = some (vi t) := by subst he; simp [look]
    clear he
    simp -dsimp (disch := first | omega | rfl | simp only [all_cons, all_nil, plain_w32, plain_w8, plain_w64, plain_ws, plain_int, plain_bool, plain_slice, plain_ptr, plain_map, plain_iface, Bool.and_self]) only [↓pre, ↓pre2, ↓pre3, ↓look_cons, ↓look_bnd, ↓look_bnd0, ↓opd_tmp, ↓opd_const, ↓ite_f, ↓ite_t, ↓reduceIte, post, post2, decide_true, decide_false, opds, Nat.reduceEqDiff, Nat.reduceAdd, Nat.zero_add, Nat.add_zero, Nat.mul_one, Int.toNat_natCast, Int.reduceToNat]
    have g5 := map_get (sched_length l 64)
    have g6 := map_get (shaRounds_length (l := l) hs t)
    refine par_ex ?_
    have C5a : Cw v.drew.heap b5 _ := C5
    have C6a : Cw v.drew.heap b6 _ := C6
    simp -dsimp (disch := first | omega | rfl | simp only [all_cons, all_nil, plain_w32, plain_w8, plain_w64, plain_ws, plain_int, plain_bool, plain_slice, plain_ptr, plain_map, plain_iface, Bool.and_self]) only [↓pre, ↓pre2, ↓pre3, ↓look_cons, ↓look_bnd, ↓look_bnd0, ↓opd_tmp, ↓opd_const, ↓ite_f, ↓ite_t, ↓reduceIte, post, post2, decide_true, decide_false, opds, Nat.reduceEqDiff, Nat.reduceAdd, Nat.zero_add, Nat.add_zero, Nat.mul_one, Int.toNat_natCast, Int.reduceToNat, words, l2, l4, l5, l6, l7, C5a.cell, C6a.cell, g5, g6]
    refine call_rule (k145 _ 6 (by omega) (by omega)) ?_
    rintro en w10 ⟨rfl, hx10⟩
    refine ⟨_, rfl, keep_yes hx10 ?_⟩
    simp -dsimp (disch := first | omega | rfl | simp only [all_cons, all_nil, plain_w32, plain_w8, plain_w64, plain_ws, plain_int, plain_bool, plain_slice, plain_ptr, plain_map, plain_iface, Bool.and_self]) only [↓pre, ↓pre2, ↓pre3, ↓look_cons, ↓look_bnd, ↓look_bnd0, ↓opd_tmp, ↓opd_const, ↓ite_f, ↓ite_t, ↓reduceIte, post, post2, decide_true, decide_false, opds, Nat.reduceEqDiff, Nat.reduceAdd, Nat.zero_add, Nat.add_zero, Nat.mul_one, Int.toNat_natCast, Int.reduceToNat, words, l2, l4, l5, l6, l7]
    refine call_rule (k145 _ 11 (by omega) (by omega)) ?_
    rintro en w11 ⟨rfl, hx11⟩
    refine ⟨_, rfl, keep_yes hx11 ?_⟩
    simp -dsimp (disch := first | omega | rfl | simp only [all_cons, all_nil, plain_w32, plain_w8, plain_w64, plain_ws, plain_int, plain_bool, plain_slice, plain_ptr, plain_map, plain_iface, Bool.and_self]) only [↓pre, ↓pre2, ↓pre3, ↓look_cons, ↓look_bnd, ↓look_bnd0, ↓opd_tmp, ↓opd_const, ↓ite_f, ↓ite_t, ↓reduceIte, post, post2, decide_true, decide_false, opds, Nat.reduceEqDiff, Nat.reduceAdd, Nat.zero_add, Nat.add_zero, Nat.mul_one, Int.toNat_natCast, Int.reduceToNat, words, l2, l4, l5, l6, l7]
    refine call_rule (k145 _ 25 (by omega) (by omega)) ?_
    rintro en w12 ⟨rfl, hx12⟩
    refine ⟨_, rfl, keep_yes hx12 ?_⟩
    simp -dsimp (disch := first | omega | rfl | simp only [all_cons, all_nil, plain_w32, plain_w8, plain_w64, plain_ws, plain_int, plain_bool, plain_slice, plain_ptr, plain_map, plain_iface, Bool.and_self]) only [↓pre, ↓pre2, ↓pre3, ↓look_cons, ↓look_bnd, ↓look_bnd0, ↓opd_tmp, ↓opd_const, ↓ite_f, ↓ite_t, ↓reduceIte, post, post2, decide_true, decide_false, opds, Nat.reduceEqDiff, Nat.reduceAdd, Nat.zero_add, Nat.add_zero, Nat.mul_one, Int.toNat_natCast, Int.reduceToNat, words, l2, l4, l5, l6, l7]
    refine call_rule (k146 t ht) ?_
    rintro en w13 ⟨rfl, hx13⟩
    refine ⟨_, rfl, keep_yes hx13 ?_⟩
    simp -dsimp (disch := first | omega | rfl | simp only [all_cons, all_nil, plain_w32, plain_w8, plain_w64, plain_ws, plain_int, plain_bool, plain_slice, plain_ptr, plain_map, plain_iface, Bool.and_self]) only [↓pre, ↓pre2, ↓pre3, ↓look_cons, ↓look_bnd, ↓look_bnd0, ↓opd_tmp, ↓opd_const, ↓ite_f, ↓ite_t, ↓reduceIte, post, post2, decide_true, decide_false, opds, Nat.reduceEqDiff, Nat.reduceAdd, Nat.zero_add, Nat.add_zero, Nat.mul_one, Int.toNat_natCast, Int.reduceToNat, words, l2, l4, l5, l6, l7]
    have hxa : Ex v w13 := (Ex.drew (Fr.refl v)).trans (((hx10.trans hx11).trans hx12).trans hx13)
    have C5b : Cw w13.drew.heap b5 _ := C5.ex (Ex.drew hxa)
    have C6b : Cw w13.drew.heap b6 _ := C6.ex (Ex.drew hxa)
    refine par_ex ?_
    simp -dsimp (disch := first | omega | rfl | simp only [all_cons, all_nil, plain_w32, plain_w8, plain_w64, plain_ws, plain_int, plain_bool, plain_slice, plain_ptr, plain_map, plain_iface, Bool.and_self]) only [↓pre, ↓pre2, ↓pre3, ↓look_cons, ↓look_bnd, ↓look_bnd0, ↓opd_tmp, ↓opd_const, ↓ite_f, ↓ite_t, ↓reduceIte, post, post2, decide_true, decide_false, opds, Nat.reduceEqDiff, Nat.reduceAdd, Nat.zero_add, Nat.add_zero, Nat.mul_one, Int.toNat_natCast, Int.reduceToNat, words, l2, l4, l5, l6, l7, C5b.cell, C6b.cell, g5, g6]
    refine call_rule (k145 _ 2 (by omega) (by omega)) ?_
    rintro en w14 ⟨rfl, hx14⟩
    refine ⟨_, rfl, keep_yes hx14 ?_⟩
    simp -dsimp (disch := first | omega | rfl | simp only [all_cons, all_nil, plain_w32, plain_w8, plain_w64, plain_ws, plain_int, plain_bool, plain_slice, plain_ptr, plain_map, plain_iface, Bool.and_self]) only [↓pre, ↓pre2, ↓pre3, ↓look_cons, ↓look_bnd, ↓look_bnd0, ↓opd_tmp, ↓opd_const, ↓ite_f, ↓ite_t, ↓reduceIte, post, post2, decide_true, decide_false, opds, Nat.reduceEqDiff, Nat.reduceAdd, Nat.zero_add, Nat.add_zero, Nat.mul_one, Int.toNat_natCast, Int.reduceToNat, words, l2, l4, l5, l6, l7]
    refine call_rule (k145 _ 13 (by omega) (by omega)) ?_
    rintro en w15 ⟨rfl, hx15⟩
    refine ⟨_, rfl, keep_yes hx15 ?_⟩
    simp -dsimp (disch := first | omega | rfl | simp only [all_cons, all_nil, plain_w32, plain_w8, plain_w64, plain_ws, plain_int, plain_bool, plain_slice, plain_ptr, plain_map, plain_iface, Bool.and_self]) only [↓pre, ↓pre2, ↓pre3, ↓look_cons, ↓look_bnd, ↓look_bnd0, ↓opd_tmp, ↓opd_const, ↓ite_f, ↓ite_t, ↓reduceIte, post, post2, decide_true, decide_false, opds, Nat.reduceEqDiff, Nat.reduceAdd, Nat.zero_add, Nat.add_zero, Nat.mul_one, Int.toNat_natCast, Int.reduceToNat, words, l2, l4, l5, l6, l7]
    refine call_rule (k145 _ 22 (by omega) (by omega)) ?_
    rintro en w16 ⟨rfl, hx16⟩
    refine ⟨_, rfl, keep_yes hx16 ?_⟩
    simp -dsimp (disch := first | omega | rfl | simp only [all_cons, all_nil, plain_w32, plain_w8, plain_w64, plain_ws, plain_int, plain_bool, plain_slice, plain_ptr, plain_map, plain_iface, Bool.and_self]) only [↓pre, ↓pre2, ↓pre3, ↓look_cons, ↓look_bnd, ↓look_bnd0, ↓opd_tmp, ↓opd_const, ↓ite_f, ↓ite_t, ↓reduceIte, post, post2, decide_true, decide_false, opds, Nat.reduceEqDiff, Nat.reduceAdd, Nat.zero_add, Nat.add_zero, Nat.mul_one, Int.toNat_natCast, Int.reduceToNat, words, l2, l4, l5, l6, l7]
    have hxb : Ex v w16 := (Ex.drew hxa).trans ((hx14.trans hx15).trans hx16)
    have C6c : Cw w16.heap b6 _ := C6.ex hxb
    simp -dsimp (disch := first | omega | rfl | simp only [all_cons, all_nil, plain_w32, plain_w8, plain_w64, plain_ws, plain_int, plain_bool, plain_slice, plain_ptr, plain_map, plain_iface, Bool.and_self]) only [↓pre, ↓pre2, ↓pre3, ↓look_cons, ↓look_bnd, ↓look_bnd0, ↓opd_tmp, ↓opd_const, ↓ite_f, ↓ite_t, ↓reduceIte, post, post2, decide_true, decide_false, opds, Nat.reduceEqDiff, Nat.reduceAdd, Nat.zero_add, Nat.add_zero, Nat.mul_one, Int.toNat_natCast, Int.reduceToNat, words, l2, l4, l5, l6, l7, C6c.cell, g6]
    refine stores_all (cs := (shaRounds l s (t + 1)).map w32) C6c (by rfl) (by rfl) (by simp [shaRounds_length hs]) (by simp [plain_w32]) fun w17 C6d hf17 hs17 => ?_
    have C5d : Cw w17.heap b5 _ := Cw.fr (C5.ex hxb) hf17 hne
    have hEd : Ex w2 w17 := Ex.young (hE.trans hxb) hf17 hb6
    simp -dsimp (disch := first | omega | rfl | simp only [all_cons, all_nil, plain_w32, plain_w8, plain_w64, plain_ws, plain_int, plain_bool, plain_slice, plain_ptr, plain_map, plain_iface, Bool.and_self]) only [↓pre, ↓pre2, ↓pre3, ↓look_cons, ↓look_bnd, ↓look_bnd0, ↓opd_tmp, ↓opd_const, ↓ite_f, ↓ite_t, ↓reduceIte, post, post2, decide_true, decide_false, opds, Nat.reduceEqDiff, Nat.reduceAdd, Nat.zero_add, Nat.add_zero, Nat.mul_one, Int.toNat_natCast, Int.reduceToNat, words, l2, l4, l5, l6, l7]
    refine cond_dec (fun hlt => ?_) (fun hge => ?_)
    · simp -dsimp (disch := first | omega | rfl | simp only [all_cons, all_nil, plain_w32, plain_w8, plain_w64, plain_ws, plain_int, plain_bool, plain_slice, plain_ptr, plain_map, plain_iface, Bool.and_self]) only [↓pre, ↓pre2, ↓pre3, ↓look_cons, ↓look_bnd, ↓look_bnd0, ↓opd_tmp, ↓opd_const, ↓ite_f, ↓ite_t, ↓reduceIte, post, post2, decide_true, decide_false, opds, Nat.reduceEqDiff, Nat.reduceAdd, Nat.zero_add, Nat.add_zero, Nat.mul_one, Int.toNat_natCast, Int.reduceToNat]
      refine ⟨trivial, (t + 1, b5, b6), by simp [sub, look, bnd, add_addr, l2, l4, l5, l6, bnd], ⟨by omega, hne, hb5, hb6, C5d, C6d, hEd⟩, by simp only; omega⟩
    · simp -dsimp (disch := first | omega | rfl | simp only [all_cons, all_nil, plain_w32, plain_w8, plain_w64, plain_ws, plain_int, plain_bool, plain_slice, plain_ptr, plain_map, plain_iface, Bool.and_self]) only [↓pre, ↓pre2, ↓pre3, ↓look_cons, ↓look_bnd, ↓look_bnd0, ↓opd_tmp, ↓opd_const, ↓ite_f, ↓ite_t, ↓reduceIte, post, post2, decide_true, decide_false, opds, Nat.reduceEqDiff, Nat.reduceAdd, Nat.zero_add, Nat.add_zero, Nat.mul_one, Int.toNat_natCast, Int.reduceToNat, l2, l4, l5, l6]
      have hr := shaRounds_length (l := l) hs (t + 1)
      have ht64 : t + 1 = 64 := by omega
      rw [ht64] at hr C6d
      refine lda_cw (hc1'.ex hEd) (by simpa using hs) ?_
      simp -dsimp (disch := first | omega | rfl | simp only [all_cons, all_nil, plain_w32, plain_w8, plain_w64, plain_ws, plain_int, plain_bool, plain_slice, plain_ptr, plain_map, plain_iface, Bool.and_self]) only [↓pre, ↓pre2, ↓pre3, ↓look_cons, ↓look_bnd, ↓look_bnd0, ↓opd_tmp, ↓opd_const, ↓ite_f, ↓ite_t, ↓reduceIte, post, post2, decide_true, decide_false, opds, Nat.reduceEqDiff, Nat.reduceAdd, Nat.zero_add, Nat.add_zero, Nat.mul_one, Int.toNat_natCast, Int.reduceToNat]
      refine loop_rule (fun k : Nat => [(103, vi k), (102, .agg (s.map w32).toArray), (6, .pointer (some ⟨b6, 0, none⟩)), (4, .pointer (some ⟨b4, 0, none⟩))])
        (fun k v => k ≤ 8 ∧ Cw v.heap b6 ((addN (shaRounds l s 64) s k).map w32) ∧ Ex w2 v) (fun k => 8 - k) 0 (by simp [sub, look, bnd, add_addr, l2, l4, l5, l6, bnd]) ⟨by omega, by simpa [addN] using C6d, hEd⟩ ?_
      rintro k v ⟨hk, h1, h2⟩
      simp -dsimp (disch := first | omega | rfl | simp only [all_cons, all_nil, plain_w32, plain_w8, plain_w64, plain_ws, plain_int, plain_bool, plain_slice, plain_ptr, plain_map, plain_iface, Bool.and_self]) only [↓pre, ↓pre2, ↓pre3, ↓look_cons, ↓look_bnd, ↓look_bnd0, ↓opd_tmp, ↓opd_const, ↓ite_f, ↓ite_t, ↓reduceIte, post, post2, decide_true, decide_false, opds, Nat.reduceEqDiff, Nat.reduceAdd, Nat.zero_add, Nat.add_zero, Nat.mul_one, Int.toNat_natCast, Int.reduceToNat]
      refine cond_dec (fun hlt => ?_) (fun hge => ?_)
      · have gs := map_get hs
        have ga := map_get (addN_length hr hs k hk)
        have gk := addN_get hr hs k (by omega)
        simp -dsimp (disch := first | omega | rfl | simp only [all_cons, all_nil, plain_w32, plain_w8, plain_w64, plain_ws, plain_int, plain_bool, plain_slice, plain_ptr, plain_map, plain_iface, Bool.and_self]) only [↓pre, ↓pre2, ↓pre3, ↓look_cons, ↓look_bnd, ↓look_bnd0, ↓opd_tmp, ↓opd_const, ↓ite_f, ↓ite_t, ↓reduceIte, post, post2, decide_true, decide_false, opds, Nat.reduceEqDiff, Nat.reduceAdd, Nat.zero_add, Nat.add_zero, Nat.mul_one, Int.toNat_natCast, Int.reduceToNat, words, ind_ok, gs, h1.cell, ga, gk]
        refine store_rule h1 (by simp [addN_length hr hs k hk]; omega) rfl fun w' h4 h5 h6 => ?_
        simp -dsimp (disch := first | omega | rfl | simp only [all_cons, all_nil, plain_w32, plain_w8, plain_w64, plain_ws, plain_int, plain_bool, plain_slice, plain_ptr, plain_map, plain_iface, Bool.and_self]) only [↓pre, ↓pre2, ↓pre3, ↓look_cons, ↓look_bnd, ↓look_bnd0, ↓opd_tmp, ↓opd_const, ↓ite_f, ↓ite_t, ↓reduceIte, post, post2, decide_true, decide_false, opds, Nat.reduceEqDiff, Nat.reduceAdd, Nat.zero_add, Nat.add_zero, Nat.mul_one, Int.toNat_natCast, Int.reduceToNat]
        rw [← List.map_set, addN_set hr hs k (by omega)] at h4
        exact ⟨k + 1, by simp [sub, look, bnd, add_addr], ⟨by omega, h4, Ex.young h2 h5 hb6⟩, by omega⟩
      · simp -dsimp (disch := first | omega | rfl | simp only [all_cons, all_nil, plain_w32, plain_w8, plain_w64, plain_ws, plain_int, plain_bool, plain_slice, plain_ptr, plain_map, plain_iface, Bool.and_self]) only [↓pre, ↓pre2, ↓pre3, ↓look_cons, ↓look_bnd, ↓look_bnd0, ↓opd_tmp, ↓opd_const, ↓ite_f, ↓ite_t, ↓reduceIte, post, post2, decide_true, decide_false, opds, Nat.reduceEqDiff, Nat.reduceAdd, Nat.zero_add, Nat.add_zero, Nat.mul_one, Int.toNat_natCast, Int.reduceToNat]
        have hk8 : k = 8 := by omega
        subst hk8
        have hfin : addN (shaRounds l s 64) s 8 = compress s l := by
          have hz : (List.zipWith (· + ·) (shaRounds l s 64) s).length = 8 := by simp [hr, hs]
          unfold addN compress
          rw [List.take_of_length_le (by omega), List.drop_eq_nil_of_le (by omega), List.append_nil]
        rw [hfin] at h1
        have hcl : (compress s l).length = 8 := by simp [compress, hr, hs]
        refine lda_cw h1 (by simpa using hcl) ?_
        simp -dsimp (disch := first | omega | rfl | simp only [all_cons, all_nil, plain_w32, plain_w8, plain_w64, plain_ws, plain_int, plain_bool, plain_slice, plain_ptr, plain_map, plain_iface, Bool.and_self]) only [↓pre, ↓pre2, ↓pre3, ↓look_cons, ↓look_bnd, ↓look_bnd0, ↓opd_tmp, ↓opd_const, ↓ite_f, ↓ite_t, ↓reduceIte, post, post2, decide_true, decide_false, opds, Nat.reduceEqDiff, Nat.reduceAdd, Nat.zero_add, Nat.add_zero, Nat.mul_one, Int.toNat_natCast, Int.reduceToNat]
        refine stores_all (cs := (compress s l).map w32) (hc2.ex h2) (by simp [Value.cells]) (by simpa using hcl) (by simp) (by simp [plain_w32]) fun w' h4 h5 h6 => ?_
        simp -dsimp (disch := first | omega | rfl | simp only [all_cons, all_nil, plain_w32, plain_w8, plain_w64, plain_ws, plain_int, plain_bool, plain_slice, plain_ptr, plain_map, plain_iface, Bool.and_self]) only [↓pre, ↓pre2, ↓pre3, ↓look_cons, ↓look_bnd, ↓look_bnd0, ↓opd_tmp, ↓opd_const, ↓ite_f, ↓ite_t, ↓reduceIte, post, post2, decide_true, decide_false, opds, Nat.reduceEqDiff, Nat.reduceAdd, Nat.zero_add, Nat.add_zero, Nat.mul_one, Int.toNat_natCast, Int.reduceToNat]
        exact fin_ca (by simp [look]) h4 (by simpa using hcl) ⟨rfl, Ex.young (he12.trans h2) h5 (by have := he1.size; omega)⟩
end Go.Lk
