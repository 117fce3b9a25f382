/- The suite: codes, keys, boxes. No statement of the seat is proved in this text. -/
import Derived.Test.YtofoamkiidkbkaaSuite2
set_option linter.unusedSimpArgs false
set_option linter.unusedVariables false
set_option linter.unusedSectionVars false
set_option linter.unnecessarySimpa false
set_option maxRecDepth 10000
set_option maxHeartbeats 1000000
namespace Go.Lk

def codeSt : Sst → List UInt8 → List UInt8 → Sst
  | .real s d, _, _ => .real s d
  | .signs L, k, t => .signs (onceL L ⟨77, k, [], t, []⟩)
def codeB : Sst → List UInt8 → List UInt8 → List UInt8
  | .real _ _, k, t => macS k t
  | .signs L, k, t => sgn 77 (onceN L ⟨77, k, [], t, []⟩)

theorem k22 {w : World} {F : Nat → Prop} {b : Nat} {st : Sst} {kv v : Value} {k : List UInt8} {ps : List (List UInt8)} (hs : Su w.heap F b st) (hk : Bs w.heap kv k) (hp : Ps w.heap v ps) (hkl : k.length ≤ 1073741824) (hl : ps.flatten.length ≤ 1073741824) (hn : ps.length < 9223372036854775807) (hN : stN st ≤ 1073741824) :
    Calls Go.Proofs.Try.prog 22 #[.pointer (some ⟨b, 0, none⟩), kv, v] w fun e w' => ∃ u F', e = .returned u ∧ SPost w w' F F' b (codeSt st k ps.flatten) ∧ NewO w.heap.size w'.heap F' u (codeB st k ps.flatten) := by
  refine enter mo (args := [.pointer (some ⟨b, 0, none⟩), kv, v]) Go.Proofs.Try.func22 c22 (by simp [x22]) ?_
  simp only [x22, env0]
  cases st with
  | real seed d =>
    obtain ⟨⟨sv, hc, hb, hF, ho⟩, hlt⟩ := id hs
    have c0 : w.cell? ⟨b, 0, none⟩ = some (.bool true) := hc.cell 0
    simp -dsimp (disch := first | omega | rfl | simp only [all_cons, all_nil, plain_w32, plain_w8, plain_w64, plain_ws, plain_int, plain_bool, plain_slice, plain_ptr, plain_map, plain_iface, Bool.and_self]) only [↓pre, ↓pre2, ↓pre3, ↓look_cons, ↓look_bnd, ↓look_bnd0, ↓opd_tmp, ↓opd_const, ↓ite_f, ↓ite_t, ↓reduceIte, post, post2, decide_true, decide_false, opds, Nat.reduceEqDiff, Nat.reduceAdd, Nat.zero_add, Nat.add_zero, Nat.mul_one, Int.toNat_natCast, Int.reduceToNat, c0]
    refine call_rule (k55 hk hp hkl hl hn) ?_
    rintro en w1 ⟨u, rfl, hn1, hx1⟩
    refine ⟨_, rfl, ?_⟩
    simp -dsimp (disch := first | omega | rfl | simp only [all_cons, all_nil, plain_w32, plain_w8, plain_w64, plain_ws, plain_int, plain_bool, plain_slice, plain_ptr, plain_map, plain_iface, Bool.and_self]) only [↓pre, ↓pre2, ↓pre3, ↓look_cons, ↓look_bnd, ↓look_bnd0, ↓opd_tmp, ↓opd_const, ↓ite_f, ↓ite_t, ↓reduceIte, post, post2, decide_true, decide_false, opds, Nat.reduceEqDiff, Nat.reduceAdd, Nat.zero_add, Nat.add_zero, Nat.mul_one, Int.toNat_natCast, Int.reduceToNat]
    exact ⟨u, F, rfl, ⟨hs.ex hx1, hx1.to, fun k h => .inl h, fun _ _ _ => rfl⟩, NewO.of hn1 hlt⟩
  | signs L =>
    obtain ⟨⟨lv, mb, hc, _⟩, hlt⟩ := id hs
    have c0 : w.cell? ⟨b, 0, none⟩ = some (.bool false) := hc.cell 0
    simp -dsimp (disch := first | omega | rfl | simp only [all_cons, all_nil, plain_w32, plain_w8, plain_w64, plain_ws, plain_int, plain_bool, plain_slice, plain_ptr, plain_map, plain_iface, Bool.and_self]) only [↓pre, ↓pre2, ↓pre3, ↓look_cons, ↓look_bnd, ↓look_bnd0, ↓opd_tmp, ↓opd_const, ↓ite_f, ↓ite_t, ↓reduceIte, post, post2, decide_true, decide_false, opds, Nat.reduceEqDiff, Nat.reduceAdd, Nat.zero_add, Nat.add_zero, Nat.mul_one, Int.toNat_natCast, Int.reduceToNat, c0]
    refine par_ex ?_
    simp -dsimp (disch := first | omega | rfl | simp only [all_cons, all_nil, plain_w32, plain_w8, plain_w64, plain_ws, plain_int, plain_bool, plain_slice, plain_ptr, plain_map, plain_iface, Bool.and_self]) only [↓pre, ↓pre2, ↓pre3, ↓look_cons, ↓look_bnd, ↓look_bnd0, ↓opd_tmp, ↓opd_const, ↓ite_f, ↓ite_t, ↓reduceIte, post, post2, decide_true, decide_false, opds, Nat.reduceEqDiff, Nat.reduceAdd, Nat.zero_add, Nat.add_zero, Nat.mul_one, Int.toNat_natCast, Int.reduceToNat]
    refine b2s_rule (w := w.drew) hk ?_
    simp -dsimp (disch := first | omega | rfl | simp only [all_cons, all_nil, plain_w32, plain_w8, plain_w64, plain_ws, plain_int, plain_bool, plain_slice, plain_ptr, plain_map, plain_iface, Bool.and_self]) only [↓pre, ↓pre2, ↓pre3, ↓look_cons, ↓look_bnd, ↓look_bnd0, ↓opd_tmp, ↓opd_const, ↓ite_f, ↓ite_t, ↓reduceIte, post, post2, decide_true, decide_false, opds, Nat.reduceEqDiff, Nat.reduceAdd, Nat.zero_add, Nat.add_zero, Nat.mul_one, Int.toNat_natCast, Int.reduceToNat]
    refine call_rule (k60 (w := w.drew) hp (by omega) hn) ?_
    rintro en w1 ⟨rfl, hx1⟩
    refine ⟨_, rfl, keep_yes hx1 ?_⟩
    have hE1 : Ex w w1 := (Fr.refl w).drew.trans hx1
    simp -dsimp (disch := first | omega | rfl | simp only [all_cons, all_nil, plain_w32, plain_w8, plain_w64, plain_ws, plain_int, plain_bool, plain_slice, plain_ptr, plain_map, plain_iface, Bool.and_self]) only [↓pre, ↓pre2, ↓pre3, ↓look_cons, ↓look_bnd, ↓look_bnd0, ↓opd_tmp, ↓opd_const, ↓ite_f, ↓ite_t, ↓reduceIte, post, post2, decide_true, decide_false, opds, Nat.reduceEqDiff, Nat.reduceAdd, Nat.zero_add, Nat.add_zero, Nat.mul_one, Int.toNat_natCast, Int.reduceToNat]
    refine call_rule (k59 ⟨77, k, [], ps.flatten, []⟩ (.inr rfl) (SuG.ex' hs hE1) hN) ?_
    rintro en w2 ⟨rfl, F2, h2, hf2, hsub2⟩
    refine ⟨_, rfl, ?_⟩
    simp -dsimp (disch := first | omega | rfl | simp only [all_cons, all_nil, plain_w32, plain_w8, plain_w64, plain_ws, plain_int, plain_bool, plain_slice, plain_ptr, plain_map, plain_iface, Bool.and_self]) only [↓pre, ↓pre2, ↓pre3, ↓look_cons, ↓look_bnd, ↓look_bnd0, ↓opd_tmp, ↓opd_const, ↓ite_f, ↓ite_t, ↓reduceIte, post, post2, decide_true, decide_false, opds, Nat.reduceEqDiff, Nat.reduceAdd, Nat.zero_add, Nat.add_zero, Nat.mul_one, Int.toNat_natCast, Int.reduceToNat]
    refine call_rule (k57 77 (onceN L ⟨77, k, [], ps.flatten, []⟩ : Nat)) ?_
    rintro en w3 ⟨u, rfl, hn3, hx3⟩
    refine ⟨_, rfl, ?_⟩
    simp -dsimp (disch := first | omega | rfl | simp only [all_cons, all_nil, plain_w32, plain_w8, plain_w64, plain_ws, plain_int, plain_bool, plain_slice, plain_ptr, plain_map, plain_iface, Bool.and_self]) only [↓pre, ↓pre2, ↓pre3, ↓look_cons, ↓look_bnd, ↓look_bnd0, ↓opd_tmp, ↓opd_const, ↓ite_f, ↓ite_t, ↓reduceIte, post, post2, decide_true, decide_false, opds, Nat.reduceEqDiff, Nat.reduceAdd, Nat.zero_add, Nat.add_zero, Nat.mul_one, Int.toNat_natCast, Int.reduceToNat]
    have hfr : Fr F w w2 := hE1.to.step hf2 (fun _ _ h => h)
    refine ⟨u, F2, rfl, ⟨SuG.ex' h2 hx3, hfr.step hx3 (fun _ _ h => h.elim), fun k hk => (hsub2 k hk).imp id (fun h => Nat.le_trans hE1.size h), fun _ _ h => by first | cases h | simp [sealSt, codeSt, keySt] at h⟩, (NewO.of hn3 h2.lt).mono hfr.size⟩

/-- a new key -/
def keySt : Sst → Sst
  | .real s d => .real s (d + 1)
  | .signs L => .signs (L ++ [⟨75, [], [], [], []⟩])
def keyB : Sst → List UInt8
  | .real s d => macS s (be8 (d + 1 : Nat))
  | .signs L => sgn 75 (L.length + 1 : Nat)

theorem k15 {w : World} {F : Nat → Prop} {b : Nat} {st : Sst} (hs : Su w.heap F b st) (hsl : ∀ s d, st = .real s d → s.length ≤ 1073741824) (hN : stN st ≤ 1073741824) :
    Calls Go.Proofs.Try.prog 15 #[.pointer (some ⟨b, 0, none⟩)] w fun e w' => ∃ u F', e = .returned u ∧ SPost w w' F F' b (keySt st) ∧ NewO w.heap.size w'.heap F' u (keyB st) := by
  refine enter mo (args := [.pointer (some ⟨b, 0, none⟩)]) Go.Proofs.Try.func15 c15 (by simp [x15]) ?_
  simp only [x15, env0]
  cases st with
  | real seed d =>
    obtain ⟨⟨sv, hc, hb, hF, ho⟩, hlt⟩ := id hs
    simp only [stN] at hN
    have c0 : w.cell? ⟨b, 0, none⟩ = some (.bool true) := hc.cell 0
    have c2 : w.cell? ⟨b, 2, none⟩ = some (vi d) := hc.cell 2
    simp -dsimp (disch := first | omega | rfl | simp only [all_cons, all_nil, plain_w32, plain_w8, plain_w64, plain_ws, plain_int, plain_bool, plain_slice, plain_ptr, plain_map, plain_iface, Bool.and_self]) only [↓pre, ↓pre2, ↓pre3, ↓look_cons, ↓look_bnd, ↓look_bnd0, ↓opd_tmp, ↓opd_const, ↓ite_f, ↓ite_t, ↓reduceIte, post, post2, decide_true, decide_false, opds, Nat.reduceEqDiff, Nat.reduceAdd, Nat.zero_add, Nat.add_zero, Nat.mul_one, Int.toNat_natCast, Int.reduceToNat, c0, c2]
    refine store_rule hc (by simp) rfl fun w1 hc1 hf1 hs1 => ?_
    have hc1' : Cw w1.heap b [.bool true, sv, vi (d + 1 : Nat), .slice none 0 0, .map none] := by simpa using hc1
    have hb1 : Bs w1.heap sv seed := hb.fr1 hf1 (fun h k hk _ e => (ho h k hk).2 e)
    simp -dsimp (disch := first | omega | rfl | simp only [all_cons, all_nil, plain_w32, plain_w8, plain_w64, plain_ws, plain_int, plain_bool, plain_slice, plain_ptr, plain_map, plain_iface, Bool.and_self]) only [↓pre, ↓pre2, ↓pre3, ↓look_cons, ↓look_bnd, ↓look_bnd0, ↓opd_tmp, ↓opd_const, ↓ite_f, ↓ite_t, ↓reduceIte, post, post2, decide_true, decide_false, opds, Nat.reduceEqDiff, Nat.reduceAdd, Nat.zero_add, Nat.add_zero, Nat.mul_one, Int.toNat_natCast, Int.reduceToNat]
    refine par_of (fun k => w1.heap.size ≤ k) ?_
    have d1 : w1.drew.cell? ⟨b, 1, none⟩ = some sv := Cw.cell (w := w1.drew) hc1' 1
    have d2 : w1.drew.cell? ⟨b, 2, none⟩ = some (vi (d + 1 : Nat)) := Cw.cell (w := w1.drew) hc1' 2
    have hnb : ¬ (fun k => w1.heap.size ≤ k) b := by have := hc1'.lt; simp; omega
    simp -dsimp (disch := first | omega | rfl | simp only [all_cons, all_nil, plain_w32, plain_w8, plain_w64, plain_ws, plain_int, plain_bool, plain_slice, plain_ptr, plain_map, plain_iface, Bool.and_self]) only [↓pre, ↓pre2, ↓pre3, ↓look_cons, ↓look_bnd, ↓look_bnd0, ↓opd_tmp, ↓opd_const, ↓ite_f, ↓ite_t, ↓reduceIte, post, post2, decide_true, decide_false, opds, Nat.reduceEqDiff, Nat.reduceAdd, Nat.zero_add, Nat.add_zero, Nat.mul_one, Int.toNat_natCast, Int.reduceToNat]
    rw [LdM_ptr hnb]
    simp -dsimp (disch := first | omega | rfl | simp only [all_cons, all_nil, plain_w32, plain_w8, plain_w64, plain_ws, plain_int, plain_bool, plain_slice, plain_ptr, plain_map, plain_iface, Bool.and_self]) only [↓pre, ↓pre2, ↓pre3, ↓look_cons, ↓look_bnd, ↓look_bnd0, ↓opd_tmp, ↓opd_const, ↓ite_f, ↓ite_t, ↓reduceIte, post, post2, decide_true, decide_false, opds, Nat.reduceEqDiff, Nat.reduceAdd, Nat.zero_add, Nat.add_zero, Nat.mul_one, Int.toNat_natCast, Int.reduceToNat, d1]
    rw [LdM_ptr hnb]
    simp -dsimp (disch := first | omega | rfl | simp only [all_cons, all_nil, plain_w32, plain_w8, plain_w64, plain_ws, plain_int, plain_bool, plain_slice, plain_ptr, plain_map, plain_iface, Bool.and_self]) only [↓pre, ↓pre2, ↓pre3, ↓look_cons, ↓look_bnd, ↓look_bnd0, ↓opd_tmp, ↓opd_const, ↓ite_f, ↓ite_t, ↓reduceIte, post, post2, decide_true, decide_false, opds, Nat.reduceEqDiff, Nat.reduceAdd, Nat.zero_add, Nat.add_zero, Nat.mul_one, Int.toNat_natCast, Int.reduceToNat, d2]
    refine mks_rule (n := 8) (c := 8) el8 rfl rfl (by omega) (by omega) (by omega) fun b3 w3 hb3 hc3 he3 hs3 => ?_
    refine keep_yes he3.to ?_
    rw [reps8] at hc3
    simp -dsimp (disch := first | omega | rfl | simp only [all_cons, all_nil, plain_w32, plain_w8, plain_w64, plain_ws, plain_int, plain_bool, plain_slice, plain_ptr, plain_map, plain_iface, Bool.and_self]) only [↓pre, ↓pre2, ↓pre3, ↓look_cons, ↓look_bnd, ↓look_bnd0, ↓opd_tmp, ↓opd_const, ↓ite_f, ↓ite_t, ↓reduceIte, post, post2, decide_true, decide_false, opds, Nat.reduceEqDiff, Nat.reduceAdd, Nat.zero_add, Nat.add_zero, Nat.mul_one, Int.toNat_natCast, Int.reduceToNat]
    refine call_rule (k56 (d + 1 : Nat) (L := 8) (by simp) hc3 (by simp) (by simp)) ?_
    rintro en w4 ⟨rfl, h4, hf4, hs4⟩
    refine ⟨_, rfl, keep_yes (hf4.mono (fun k _ h => by rw [h]; show w1.heap.size ≤ b3; rw [← hb3]; exact Nat.le_refl _)) ?_⟩
    have hE4 : Ex w1 w4 := Ex.young ((Fr.refl w1).drew.trans he3) hf4 (by rw [← hb3]; exact Nat.le_refl _)
    have h4' : Cw w4.heap b3 ((be8 (d + 1 : Nat)).map w8) := by simpa using h4
    simp -dsimp (disch := first | omega | rfl | simp only [all_cons, all_nil, plain_w32, plain_w8, plain_w64, plain_ws, plain_int, plain_bool, plain_slice, plain_ptr, plain_map, plain_iface, Bool.and_self]) only [↓pre, ↓pre2, ↓pre3, ↓look_cons, ↓look_bnd, ↓look_bnd0, ↓opd_tmp, ↓opd_const, ↓ite_f, ↓ite_t, ↓reduceIte, post, post2, decide_true, decide_false, opds, Nat.reduceEqDiff, Nat.reduceAdd, Nat.zero_add, Nat.add_zero, Nat.mul_one, Int.toNat_natCast, Int.reduceToNat]
    refine lit_rule (xs := [.tmp 23]) (vs := [.slice (some ⟨b3, 0, none⟩) 8 8]) ell rfl rfl rfl rfl (by omega) fun b5 w5 hb5 hc5 he5 hs5 => ?_
    refine keep_yes (he5.to) ?_
    simp -dsimp (disch := first | omega | rfl | simp only [all_cons, all_nil, plain_w32, plain_w8, plain_w64, plain_ws, plain_int, plain_bool, plain_slice, plain_ptr, plain_map, plain_iface, Bool.and_self]) only [↓pre, ↓pre2, ↓pre3, ↓look_cons, ↓look_bnd, ↓look_bnd0, ↓opd_tmp, ↓opd_const, ↓ite_f, ↓ite_t, ↓reduceIte, post, post2, decide_true, decide_false, opds, Nat.reduceEqDiff, Nat.reduceAdd, Nat.zero_add, Nat.add_zero, Nat.mul_one, Int.toNat_natCast, Int.reduceToNat]
    have hE5 := hE4.trans he5
    have h8 : Bs w5.heap (.slice (some ⟨b3, 0, none⟩) 8 8) (be8 (d + 1 : Nat)) := Cw.bs (l := be8 (d + 1 : Nat)) (h4'.ex he5) (by simp [be8])
    refine call_rule (k55 (ps := [be8 (d + 1 : Nat)]) (hb1.ex hE5) (Ps.lit hc5 (.cons h8 .nil) rfl) (hsl _ _ rfl) (by simp [be8]) (by simp)) ?_
    rintro en w6 ⟨u, rfl, hn6, hx6⟩
    refine ⟨_, rfl, ?_⟩
    simp -dsimp (disch := first | omega | rfl | simp only [all_cons, all_nil, plain_w32, plain_w8, plain_w64, plain_ws, plain_int, plain_bool, plain_slice, plain_ptr, plain_map, plain_iface, Bool.and_self]) only [↓pre, ↓pre2, ↓pre3, ↓look_cons, ↓look_bnd, ↓look_bnd0, ↓opd_tmp, ↓opd_const, ↓ite_f, ↓ite_t, ↓reduceIte, post, post2, decide_true, decide_false, opds, Nat.reduceEqDiff, Nat.reduceAdd, Nat.zero_add, Nat.add_zero, Nat.mul_one, Int.toNat_natCast, Int.reduceToNat]
    have hE6 := hE5.trans hx6
    have hfr : Fr F w w6 := (hf1.mono fun k _ h => by rw [h]; exact hF).step hE6 (fun _ _ h => h.elim)
    refine ⟨u, F, rfl, ⟨⟨⟨sv, hc1'.ex hE6, hb1.ex hE6, hF, ho⟩, fun k hk => Nat.lt_of_lt_of_le (hlt k hk) hfr.size⟩, hfr, fun k h => .inl h, fun _ _ _ => rfl⟩, ?_⟩
    have : NewO w5.heap.size w6.heap F u (keyB (.real seed d)) := NewO.of (by simpa [keyB] using hn6) (fun k hk => by have := hlt k hk; have := hE5.size; omega)
    exact this.mono (by have := hE5.size; omega)
  | signs L =>
    obtain ⟨⟨lv, mb, hc, _⟩, hlt⟩ := id hs
    have c0 : w.cell? ⟨b, 0, none⟩ = some (.bool false) := hc.cell 0
    simp -dsimp (disch := first | omega | rfl | simp only [all_cons, all_nil, plain_w32, plain_w8, plain_w64, plain_ws, plain_int, plain_bool, plain_slice, plain_ptr, plain_map, plain_iface, Bool.and_self]) only [↓pre, ↓pre2, ↓pre3, ↓look_cons, ↓look_bnd, ↓look_bnd0, ↓opd_tmp, ↓opd_const, ↓ite_f, ↓ite_t, ↓reduceIte, post, post2, decide_true, decide_false, opds, Nat.reduceEqDiff, Nat.reduceAdd, Nat.zero_add, Nat.add_zero, Nat.mul_one, Int.toNat_natCast, Int.reduceToNat, c0]
    refine call_rule (k53 ⟨75, [], [], [], []⟩ (show SuG w.heap F b L (known L 1) from hs) hN) ?_
    rintro en w2 ⟨rfl, F2, h2, hf2, hsub2⟩
    refine ⟨_, rfl, ?_⟩
    simp -dsimp (disch := first | omega | rfl | simp only [all_cons, all_nil, plain_w32, plain_w8, plain_w64, plain_ws, plain_int, plain_bool, plain_slice, plain_ptr, plain_map, plain_iface, Bool.and_self]) only [↓pre, ↓pre2, ↓pre3, ↓look_cons, ↓look_bnd, ↓look_bnd0, ↓opd_tmp, ↓opd_const, ↓ite_f, ↓ite_t, ↓reduceIte, post, post2, decide_true, decide_false, opds, Nat.reduceEqDiff, Nat.reduceAdd, Nat.zero_add, Nat.add_zero, Nat.mul_one, Int.toNat_natCast, Int.reduceToNat]
    refine call_rule (k57 75 (L.length + 1 : Nat)) ?_
    rintro en w3 ⟨u, rfl, hn3, hx3⟩
    refine ⟨_, rfl, ?_⟩
    simp -dsimp (disch := first | omega | rfl | simp only [all_cons, all_nil, plain_w32, plain_w8, plain_w64, plain_ws, plain_int, plain_bool, plain_slice, plain_ptr, plain_map, plain_iface, Bool.and_self]) only [↓pre, ↓pre2, ↓pre3, ↓look_cons, ↓look_bnd, ↓look_bnd0, ↓opd_tmp, ↓opd_const, ↓ite_f, ↓ite_t, ↓reduceIte, post, post2, decide_true, decide_false, opds, Nat.reduceEqDiff, Nat.reduceAdd, Nat.zero_add, Nat.add_zero, Nat.mul_one, Int.toNat_natCast, Int.reduceToNat]
    have hkn : known (L ++ [⟨75, [], [], [], []⟩]) 1 = known L 1 := by rw [known_app, if_neg (by simp)]; simp
    refine ⟨u, F2, rfl, ⟨?_, hf2.step hx3 (fun _ _ h => h.elim), hsub2, fun _ _ h => by first | cases h | simp [sealSt, codeSt, keySt] at h⟩, (NewO.of hn3 h2.lt).mono hf2.size⟩
    show SuG w3.heap F2 b (L ++ [⟨75, [], [], [], []⟩]) _
    rw [hkn]
    exact SuG.ex' h2 hx3

theorem k20 {w : World} {F : Nat → Prop} {b : Nat} {st : Sst} (hs : Su w.heap F b st) (hN : stN st ≤ 1073741824) :
    Calls Go.Proofs.Try.prog 20 #[.pointer (some ⟨b, 0, none⟩)] w fun e w' => e = .returned (vi (stN st)) ∧ Ex w w' := by
  refine enter mo (args := [.pointer (some ⟨b, 0, none⟩)]) Go.Proofs.Try.func20 c20 (by simp [x20]) ?_
  simp only [x20, env0]
  simp -dsimp (disch := first | omega | rfl | simp only [all_cons, all_nil, plain_w32, plain_w8, plain_w64, plain_ws, plain_int, plain_bool, plain_slice, plain_ptr, plain_map, plain_iface, Bool.and_self]) only [↓pre, ↓pre2, ↓pre3, ↓look_cons, ↓look_bnd, ↓look_bnd0, ↓opd_tmp, ↓opd_const, ↓ite_f, ↓ite_t, ↓reduceIte, post, post2, decide_true, decide_false, opds, Nat.reduceEqDiff, Nat.reduceAdd, Nat.zero_add, Nat.add_zero, Nat.mul_one, Int.toNat_natCast, Int.reduceToNat]
  refine par_ex ?_
  cases st with
  | real seed d =>
    obtain ⟨⟨sv, hc, hb, hF, ho⟩, hlt⟩ := id hs
    simp only [stN] at hN
    have c2 : w.drew.cell? ⟨b, 2, none⟩ = some (vi d) := Cw.cell (w := w.drew) hc 2
    have c3 : w.drew.cell? ⟨b, 3, none⟩ = some (.slice none 0 0) := Cw.cell (w := w.drew) hc 3
    simp -dsimp (disch := first | omega | rfl | simp only [all_cons, all_nil, plain_w32, plain_w8, plain_w64, plain_ws, plain_int, plain_bool, plain_slice, plain_ptr, plain_map, plain_iface, Bool.and_self]) only [↓pre, ↓pre2, ↓pre3, ↓look_cons, ↓look_bnd, ↓look_bnd0, ↓opd_tmp, ↓opd_const, ↓ite_f, ↓ite_t, ↓reduceIte, post, post2, decide_true, decide_false, opds, Nat.reduceEqDiff, Nat.reduceAdd, Nat.zero_add, Nat.add_zero, Nat.mul_one, Int.toNat_natCast, Int.reduceToNat, c2, c3]
    simp only [Int.ofNat_zero, Int.natCast_zero, Int.add_zero]
    exact ⟨by simp [stN], (Fr.refl w).drew⟩
  | signs L =>
    obtain ⟨⟨lv, mb, hc, hn, _⟩, hlt⟩ := id hs
    simp only [stN] at hN
    obtain ⟨a, c, rfl, _⟩ := hn.rd
    have c2 : w.drew.cell? ⟨b, 2, none⟩ = some (vi 0) := Cw.cell (w := w.drew) hc 2
    have c3 : w.drew.cell? ⟨b, 3, none⟩ = some (.slice a L.length c) := Cw.cell (w := w.drew) hc 3
    simp -dsimp (disch := first | omega | rfl | simp only [all_cons, all_nil, plain_w32, plain_w8, plain_w64, plain_ws, plain_int, plain_bool, plain_slice, plain_ptr, plain_map, plain_iface, Bool.and_self]) only [↓pre, ↓pre2, ↓pre3, ↓look_cons, ↓look_bnd, ↓look_bnd0, ↓opd_tmp, ↓opd_const, ↓ite_f, ↓ite_t, ↓reduceIte, post, post2, decide_true, decide_false, opds, Nat.reduceEqDiff, Nat.reduceAdd, Nat.zero_add, Nat.add_zero, Nat.mul_one, Int.toNat_natCast, Int.reduceToNat, c2, c3]
    exact ⟨by simp [stN], (Fr.refl w).drew⟩

theorem k52 {w : World} {ak an : Option Addr} {kl ck nl cn : Nat} :
    Calls Go.Proofs.Try.prog 52 #[.slice ak kl ck, .slice an nl cn] w fun e w' => e = .returned (.bool (decide (kl = 32 ∧ nl = 12))) ∧ Ex w w' := by
  refine enter mo (args := [.slice ak kl ck, .slice an nl cn]) Go.Proofs.Try.func52 c52 (by simp [x52]) ?_
  simp only [x52, env0]
  by_cases h1 : kl = 32
  · by_cases h2 : nl = 12
    · simp -dsimp (disch := first | omega | rfl | simp only [all_cons, all_nil, plain_w32, plain_w8, plain_w64, plain_ws, plain_int, plain_bool, plain_slice, plain_ptr, plain_map, plain_iface, Bool.and_self]) only [↓pre, ↓pre2, ↓pre3, ↓look_cons, ↓look_bnd, ↓look_bnd0, ↓opd_tmp, ↓opd_const, ↓ite_f, ↓ite_t, ↓reduceIte, post, post2, decide_true, decide_false, opds, Nat.reduceEqDiff, Nat.reduceAdd, Nat.zero_add, Nat.add_zero, Nat.mul_one, Int.toNat_natCast, Int.reduceToNat, dec_t, dec_f]
      exact ⟨by simp [h1, h2], Fr.refl w⟩
    · simp -dsimp (disch := first | omega | rfl | simp only [all_cons, all_nil, plain_w32, plain_w8, plain_w64, plain_ws, plain_int, plain_bool, plain_slice, plain_ptr, plain_map, plain_iface, Bool.and_self]) only [↓pre, ↓pre2, ↓pre3, ↓look_cons, ↓look_bnd, ↓look_bnd0, ↓opd_tmp, ↓opd_const, ↓ite_f, ↓ite_t, ↓reduceIte, post, post2, decide_true, decide_false, opds, Nat.reduceEqDiff, Nat.reduceAdd, Nat.zero_add, Nat.add_zero, Nat.mul_one, Int.toNat_natCast, Int.reduceToNat, dec_t, dec_f]
      exact ⟨by simp [h1, h2], Fr.refl w⟩
  · simp -dsimp (disch := first | omega | rfl | simp only [all_cons, all_nil, plain_w32, plain_w8, plain_w64, plain_ws, plain_int, plain_bool, plain_slice, plain_ptr, plain_map, plain_iface, Bool.and_self]) only [↓pre, ↓pre2, ↓pre3, ↓look_cons, ↓look_bnd, ↓look_bnd0, ↓opd_tmp, ↓opd_const, ↓ite_f, ↓ite_t, ↓reduceIte, post, post2, decide_true, decide_false, opds, Nat.reduceEqDiff, Nat.reduceAdd, Nat.zero_add, Nat.add_zero, Nat.mul_one, Int.toNat_natCast, Int.reduceToNat, dec_t, dec_f]
    exact ⟨by simp [h1], Fr.refl w⟩

/-- boxes -/
def sealSt : Sst → List UInt8 → List UInt8 → List UInt8 → List UInt8 → Sst
  | .real s d, _, _, _, _ => .real s d
  | .signs L, k, n, o, t => .signs (if sized k n then L ++ [⟨66, k, n, t, o⟩] else L)
def sealB : Sst → List UInt8 → List UInt8 → List UInt8 → List UInt8 → List UInt8
  | .real _ _, k, n, o, t => if sized k n then aeadSeal k n o t else []
  | .signs L, k, n, _, t => if sized k n then bxs (L.length + 1 : Nat) t.length else []

theorem k14 {w : World} {F : Nat → Prop} {b : Nat} {st : Sst} {kv nv ov tv : Value} {key nonce other text : List UInt8} (hs : Su w.heap F b st) (hk : Bs w.heap kv key) (hn : Bs w.heap nv nonce) (ho : Bs w.heap ov other) (ht : Bs w.heap tv text)
    (hol : other.length ≤ 1073741824) (htl : text.length ≤ 1073741824) (hN : stN st ≤ 1073741824) :
    Calls Go.Proofs.Try.prog 14 #[.pointer (some ⟨b, 0, none⟩), kv, nv, ov, tv] w fun e w' => ∃ u F', e = .returned (.tuple #[u, vi (if sized key nonce then 0 else 11)]) ∧
      SPost w w' F F' b (sealSt st key nonce other text) ∧ NewO w.heap.size w'.heap F' u (sealB st key nonce other text) := by
  obtain ⟨ak, ck, rfl, hck, hnk⟩ := hk.parts
  obtain ⟨an, cn, rfl, hcn, hnn⟩ := hn.parts
  obtain ⟨at', ct, rfl, hct, hnt⟩ := ht.parts
  refine enter mo (args := [.pointer (some ⟨b, 0, none⟩), .slice ak key.length ck, .slice an nonce.length cn, ov, .slice at' text.length ct]) Go.Proofs.Try.func14 c14 (by simp [x14]) ?_
  simp only [x14, env0]
  cases st with
  | real seed d =>
    obtain ⟨⟨sv, hc, hb, hF, hoo⟩, hlt⟩ := id hs
    have c0 : w.cell? ⟨b, 0, none⟩ = some (.bool true) := hc.cell 0
    simp -dsimp (disch := first | omega | rfl | simp only [all_cons, all_nil, plain_w32, plain_w8, plain_w64, plain_ws, plain_int, plain_bool, plain_slice, plain_ptr, plain_map, plain_iface, Bool.and_self]) only [↓pre, ↓pre2, ↓pre3, ↓look_cons, ↓look_bnd, ↓look_bnd0, ↓opd_tmp, ↓opd_const, ↓ite_f, ↓ite_t, ↓reduceIte, post, post2, decide_true, decide_false, opds, Nat.reduceEqDiff, Nat.reduceAdd, Nat.zero_add, Nat.add_zero, Nat.mul_one, Int.toNat_natCast, Int.reduceToNat, c0]
    refine call_rule (k51 hk hn ho ht hol htl) ?_
    rintro en w1 ⟨u, rfl, hn1, hx1⟩
    refine ⟨_, rfl, ?_⟩
    simp -dsimp (disch := first | omega | rfl | simp only [all_cons, all_nil, plain_w32, plain_w8, plain_w64, plain_ws, plain_int, plain_bool, plain_slice, plain_ptr, plain_map, plain_iface, Bool.and_self]) only [↓pre, ↓pre2, ↓pre3, ↓look_cons, ↓look_bnd, ↓look_bnd0, ↓opd_tmp, ↓opd_const, ↓ite_f, ↓ite_t, ↓reduceIte, post, post2, decide_true, decide_false, opds, Nat.reduceEqDiff, Nat.reduceAdd, Nat.zero_add, Nat.add_zero, Nat.mul_one, Int.toNat_natCast, Int.reduceToNat]
    exact ⟨u, F, rfl, ⟨hs.ex hx1, hx1.to, fun k h => .inl h, fun _ _ _ => rfl⟩, NewO.of hn1 hlt⟩
  | signs L =>
    obtain ⟨⟨lv, mb, hc, _⟩, hlt⟩ := id hs
    have c0 : w.cell? ⟨b, 0, none⟩ = some (.bool false) := hc.cell 0
    simp -dsimp (disch := first | omega | rfl | simp only [all_cons, all_nil, plain_w32, plain_w8, plain_w64, plain_ws, plain_int, plain_bool, plain_slice, plain_ptr, plain_map, plain_iface, Bool.and_self]) only [↓pre, ↓pre2, ↓pre3, ↓look_cons, ↓look_bnd, ↓look_bnd0, ↓opd_tmp, ↓opd_const, ↓ite_f, ↓ite_t, ↓reduceIte, post, post2, decide_true, decide_false, opds, Nat.reduceEqDiff, Nat.reduceAdd, Nat.zero_add, Nat.add_zero, Nat.mul_one, Int.toNat_natCast, Int.reduceToNat, c0]
    refine call_rule k52 ?_
    rintro en w1 ⟨rfl, hx1⟩
    refine ⟨_, rfl, ?_⟩
    rw [show decide (key.length = 32 ∧ nonce.length = 12) = sized key nonce from rfl]
    by_cases hz : sized key nonce = true
    · simp only [sealSt, sealB, hz, if_true]
      simp -dsimp (disch := first | omega | rfl | simp only [all_cons, all_nil, plain_w32, plain_w8, plain_w64, plain_ws, plain_int, plain_bool, plain_slice, plain_ptr, plain_map, plain_iface, Bool.and_self]) only [↓pre, ↓pre2, ↓pre3, ↓look_cons, ↓look_bnd, ↓look_bnd0, ↓opd_tmp, ↓opd_const, ↓ite_f, ↓ite_t, ↓reduceIte, post, post2, decide_true, decide_false, opds, Nat.reduceEqDiff, Nat.reduceAdd, Nat.zero_add, Nat.add_zero, Nat.mul_one, Int.toNat_natCast, Int.reduceToNat]
      refine b2s_rule (hk.ex hx1) ?_
      simp -dsimp (disch := first | omega | rfl | simp only [all_cons, all_nil, plain_w32, plain_w8, plain_w64, plain_ws, plain_int, plain_bool, plain_slice, plain_ptr, plain_map, plain_iface, Bool.and_self]) only [↓pre, ↓pre2, ↓pre3, ↓look_cons, ↓look_bnd, ↓look_bnd0, ↓opd_tmp, ↓opd_const, ↓ite_f, ↓ite_t, ↓reduceIte, post, post2, decide_true, decide_false, opds, Nat.reduceEqDiff, Nat.reduceAdd, Nat.zero_add, Nat.add_zero, Nat.mul_one, Int.toNat_natCast, Int.reduceToNat]
      refine b2s_rule (hn.ex hx1) ?_
      simp -dsimp (disch := first | omega | rfl | simp only [all_cons, all_nil, plain_w32, plain_w8, plain_w64, plain_ws, plain_int, plain_bool, plain_slice, plain_ptr, plain_map, plain_iface, Bool.and_self]) only [↓pre, ↓pre2, ↓pre3, ↓look_cons, ↓look_bnd, ↓look_bnd0, ↓opd_tmp, ↓opd_const, ↓ite_f, ↓ite_t, ↓reduceIte, post, post2, decide_true, decide_false, opds, Nat.reduceEqDiff, Nat.reduceAdd, Nat.zero_add, Nat.add_zero, Nat.mul_one, Int.toNat_natCast, Int.reduceToNat]
      refine b2s_rule (ht.ex hx1) ?_
      simp -dsimp (disch := first | omega | rfl | simp only [all_cons, all_nil, plain_w32, plain_w8, plain_w64, plain_ws, plain_int, plain_bool, plain_slice, plain_ptr, plain_map, plain_iface, Bool.and_self]) only [↓pre, ↓pre2, ↓pre3, ↓look_cons, ↓look_bnd, ↓look_bnd0, ↓opd_tmp, ↓opd_const, ↓ite_f, ↓ite_t, ↓reduceIte, post, post2, decide_true, decide_false, opds, Nat.reduceEqDiff, Nat.reduceAdd, Nat.zero_add, Nat.add_zero, Nat.mul_one, Int.toNat_natCast, Int.reduceToNat]
      refine b2s_rule (ho.ex hx1) ?_
      simp -dsimp (disch := first | omega | rfl | simp only [all_cons, all_nil, plain_w32, plain_w8, plain_w64, plain_ws, plain_int, plain_bool, plain_slice, plain_ptr, plain_map, plain_iface, Bool.and_self]) only [↓pre, ↓pre2, ↓pre3, ↓look_cons, ↓look_bnd, ↓look_bnd0, ↓opd_tmp, ↓opd_const, ↓ite_f, ↓ite_t, ↓reduceIte, post, post2, decide_true, decide_false, opds, Nat.reduceEqDiff, Nat.reduceAdd, Nat.zero_add, Nat.add_zero, Nat.mul_one, Int.toNat_natCast, Int.reduceToNat]
      refine call_rule (k53 ⟨66, key, nonce, text, other⟩ (SuG.ex' (show SuG w.heap F b L (known L 1) from hs) hx1) hN) ?_
      rintro en w2 ⟨rfl, F2, h2, hf2, hsub2⟩
      refine ⟨_, rfl, ?_⟩
      simp -dsimp (disch := first | omega | rfl | simp only [all_cons, all_nil, plain_w32, plain_w8, plain_w64, plain_ws, plain_int, plain_bool, plain_slice, plain_ptr, plain_map, plain_iface, Bool.and_self]) only [↓pre, ↓pre2, ↓pre3, ↓look_cons, ↓look_bnd, ↓look_bnd0, ↓opd_tmp, ↓opd_const, ↓ite_f, ↓ite_t, ↓reduceIte, post, post2, decide_true, decide_false, opds, Nat.reduceEqDiff, Nat.reduceAdd, Nat.zero_add, Nat.add_zero, Nat.mul_one, Int.toNat_natCast, Int.reduceToNat]
      refine call_rule (k54 (L.length + 1 : Nat) text.length (by omega)) ?_
      rintro en w3 ⟨u, rfl, hn3, hx3⟩
      refine ⟨_, rfl, ?_⟩
      simp -dsimp (disch := first | omega | rfl | simp only [all_cons, all_nil, plain_w32, plain_w8, plain_w64, plain_ws, plain_int, plain_bool, plain_slice, plain_ptr, plain_map, plain_iface, Bool.and_self]) only [↓pre, ↓pre2, ↓pre3, ↓look_cons, ↓look_bnd, ↓look_bnd0, ↓opd_tmp, ↓opd_const, ↓ite_f, ↓ite_t, ↓reduceIte, post, post2, decide_true, decide_false, opds, Nat.reduceEqDiff, Nat.reduceAdd, Nat.zero_add, Nat.add_zero, Nat.mul_one, Int.toNat_natCast, Int.reduceToNat]
      have hkn : known (L ++ [⟨66, key, nonce, text, other⟩]) 1 = known L 1 := by rw [known_app, if_neg (by simp)]; simp
      have hfr : Fr F w w2 := hx1.to.step hf2 (fun _ _ h => h)
      refine ⟨u, F2, rfl, ⟨?_, hfr.step hx3 (fun _ _ h => h.elim), fun k hk => (hsub2 k hk).imp id (fun h => Nat.le_trans hx1.size h), fun _ _ h => by first | cases h | simp [sealSt, codeSt, keySt] at h⟩, (NewO.of hn3 h2.lt).mono hfr.size⟩
      show SuG w3.heap F2 b (L ++ [⟨66, key, nonce, text, other⟩]) _
      rw [hkn]
      exact SuG.ex' h2 hx3
    · simp only [sealSt, sealB, hz, if_false, Bool.false_eq_true]
      simp -dsimp (disch := first | omega | rfl | simp only [all_cons, all_nil, plain_w32, plain_w8, plain_w64, plain_ws, plain_int, plain_bool, plain_slice, plain_ptr, plain_map, plain_iface, Bool.and_self]) only [↓pre, ↓pre2, ↓pre3, ↓look_cons, ↓look_bnd, ↓look_bnd0, ↓opd_tmp, ↓opd_const, ↓ite_f, ↓ite_t, ↓reduceIte, post, post2, decide_true, decide_false, opds, Nat.reduceEqDiff, Nat.reduceAdd, Nat.zero_add, Nat.add_zero, Nat.mul_one, Int.toNat_natCast, Int.reduceToNat]
      exact ⟨_, F, rfl, ⟨hs.ex hx1, hx1.to, fun k h => .inl h, fun _ _ _ => rfl⟩, New.nil _ _, by simp [Value.ownBlock]⟩
end Go.Lk
