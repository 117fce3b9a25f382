/- SuiteTwo: the walk: for any seeds, key and text the law returns true and leaves all as it was. -/
import Derived.Test.YtofoamkiidkbkaaAnc07
set_option linter.unusedSimpArgs false
set_option linter.unusedVariables false
set_option linter.unusedSectionVars false
set_option linter.unnecessarySimpa false
set_option maxRecDepth 10000
set_option maxHeartbeats 8000000
namespace Go.Lk

theorem k15r {w : World} {F : Nat → Prop} {b d : Nat} {s : List UInt8} (hs : Su w.heap F b (.real s d)) (hsl : s.length ≤ 1073741824) (hN : d ≤ 1073741824) :
    Calls Go.Proofs.Try.prog 15 #[.pointer (some ⟨b, 0, none⟩)] w fun e w' => ∃ u, e = .returned u ∧ Su w'.heap F b (.real s (d + 1)) ∧ Fr F w w' ∧ New w.heap.size w'.heap u (macS s (be8 (d + 1 : Nat))) := by
  refine (k15 hs (fun s' d' h => by cases h; exact hsl) hN).mono ?_
  rintro e w' ⟨u, F', rfl, sp, n⟩
  have := sp.keep _ _ rfl
  subst this
  exact ⟨u, rfl, sp.su, sp.fr, n.new⟩
theorem k16r {w : World} {F : Nat → Prop} {b d : Nat} {s : List UInt8} {v : Value} {ps : List (List UInt8)} (hs : Su w.heap F b (.real s d)) (hp : Ps w.heap v ps) (hl : ps.flatten.length ≤ 1073741824) (hn : ps.length < 9223372036854775807) (hN : d ≤ 1073741824) :
    Calls Go.Proofs.Try.prog 16 #[.pointer (some ⟨b, 0, none⟩), v] w fun e w' => ∃ u, e = .returned u ∧ Su w'.heap F b (.real s d) ∧ Fr F w w' ∧ New w.heap.size w'.heap u (shaSum ps.flatten) := by
  refine (k16 hs hp hl hn hN).mono ?_
  rintro e w' ⟨u, F', rfl, sp, n⟩
  have := sp.keep _ _ rfl
  subst this
  exact ⟨u, rfl, sp.su, sp.fr, n.new⟩
theorem k14r {w : World} {F : Nat → Prop} {b d : Nat} {s : List UInt8} {kv nv ov tv : Value} {key nonce other text : List UInt8} (hs : Su w.heap F b (.real s d)) (hk : Bs w.heap kv key) (hn : Bs w.heap nv nonce) (ho : Bs w.heap ov other) (ht : Bs w.heap tv text)
    (hol : other.length ≤ 1073741824) (htl : text.length ≤ 1073741824) (hN : d ≤ 1073741824) (hz : sized key nonce = true) :
    Calls Go.Proofs.Try.prog 14 #[.pointer (some ⟨b, 0, none⟩), kv, nv, ov, tv] w fun e w' => ∃ u, e = .returned (.tuple #[u, vi 0]) ∧
      Su w'.heap F b (.real s d) ∧ Fr F w w' ∧ New w.heap.size w'.heap u (aeadSeal key nonce other text) := by
  refine (k14 hs hk hn ho ht hol htl hN).mono ?_
  rintro e w' ⟨u, F', rfl, sp, n⟩
  have := sp.keep _ _ rfl
  subst this
  refine ⟨u, by simp [hz], sp.su, sp.fr, ?_⟩
  have := n.new
  simpa [sealB, hz] using this

/-- blocks that may be turned: the suites', and whatever comes from s on -/
def Mx (a b s : Nat) : Nat → Prop := fun k => (a ≤ k ∧ k < b) ∨ s ≤ k
theorem Mx.sub {a b s s' : Nat} (h : s ≤ s') : ∀ k, Mx a b s' k → Mx a b s k := fun k hk => hk.elim .inl (fun hk => .inr (Nat.le_trans h hk))
theorem b2sm_rule {f : Value → Prop} {M : Nat → Prop} {w : World} {v : Value} {l : List UInt8} {t : Tg f} {t' : Tg M} (hb : Bs w.heap v l) (hM : ∀ k, v.ownBlock = some k → ¬ M k) (h : f (ws l)) : B2sM f M w v t t' := ⟨hM, l, hb.bytes, h⟩
theorem Ps.one {h : Hp} {b : Nat} {v : Value} {l : List UInt8} (hc : Cw h b [v]) (hb : Bs h v l) : Ps h (.slice (some ⟨b, 0, none⟩) 1 1) [l] := Ps.lit hc (.cons hb .nil) rfl

theorem aeadSeal_ne (k n o t : List UInt8) : aeadSeal k n o t ≠ [] := by
  intro h
  have := congrArg List.length h
  unfold aeadSeal aeadTag at this
  simp [polyTag_length] at this

theorem sumB_length (L : List Thing) (t : List UInt8) : (sumB (.signs L) t).length = 32 := rfl
attribute [local irreducible] RawR CallR StoreR StoresR LoopR Scope1R Scope2R ParR CondR KeepR LdR LdM LdaR LdaM SlR SlsR SlaR B2sR B2sM BoxR AllR BB runX runY ShR KshR Calls

theorem k3 {w : World} {sv ov tv : Value} {seed other key text : List UInt8} (hs : Bs w.heap sv seed) (ho : Bs w.heap ov other) (hkl : key.length = 32) (ht : Bs w.heap tv text) :
    Calls Go.Proofs.Try.prog 3 #[sv, ov, .agg (key.map w8).toArray, tv] w fun e w' => e = .returned (.bool true) ∧ Ex w w' := by
  obtain ⟨asd, cs, rfl, hcs, hnes⟩ := hs.parts
  obtain ⟨ao, co, rfl, hco, hneo⟩ := ho.parts
  obtain ⟨at', ct, rfl, hct, hnet⟩ := ht.parts
  refine enter mo (args := [.slice asd seed.length cs, .slice ao other.length co, .agg (key.map w8).toArray, .slice at' text.length ct]) Go.Proofs.Try.func3 c3 (by simp [x3]) ?_
  simp only [x3, env0]
  simp -dsimp (disch := first | omega | rfl | simp only [all_cons, all_nil, plain_w32, plain_w8, plain_w64, plain_ws, plain_int, plain_bool, plain_slice, plain_ptr, plain_map, plain_iface, Bool.and_self]) only [↓pre, ↓pre2, ↓pre3, ↓look_cons, ↓look_bnd, ↓look_bnd0, ↓opd_tmp, ↓opd_const, ↓ite_f, ↓ite_t, ↓reduceIte, post, post2, decide_true, decide_false, opds, Nat.reduceEqDiff, Nat.reduceAdd, Nat.zero_add, Nat.add_zero, Nat.mul_one, Int.toNat_natCast, Int.reduceToNat]
  refine box_rule fun b6 w1 hb6 hc6 he1 hs1 => ?_
  have C6 : Cw w1.heap b6 (key.map w8) := by simpa [Value.cells] using hc6
  simp -dsimp (disch := first | omega | rfl | simp only [all_cons, all_nil, plain_w32, plain_w8, plain_w64, plain_ws, plain_int, plain_bool, plain_slice, plain_ptr, plain_map, plain_iface, Bool.and_self]) only [↓pre, ↓pre2, ↓pre3, ↓look_cons, ↓look_bnd, ↓look_bnd0, ↓opd_tmp, ↓opd_const, ↓ite_f, ↓ite_t, ↓reduceIte, post, post2, decide_true, decide_false, opds, Nat.reduceEqDiff, Nat.reduceAdd, Nat.zero_add, Nat.add_zero, Nat.mul_one, Int.toNat_natCast, Int.reduceToNat]
  refine call_rule k12 ?_
  rintro en w2 ⟨rfl, hx2⟩
  refine ⟨_, rfl, ?_⟩
  have hE2 : Ex w w2 := he1.trans hx2
  by_cases h1 : seed.length > 100
  · simp -dsimp (disch := first | omega | rfl | simp only [all_cons, all_nil, plain_w32, plain_w8, plain_w64, plain_ws, plain_int, plain_bool, plain_slice, plain_ptr, plain_map, plain_iface, Bool.and_self]) only [↓pre, ↓pre2, ↓pre3, ↓look_cons, ↓look_bnd, ↓look_bnd0, ↓opd_tmp, ↓opd_const, ↓ite_f, ↓ite_t, ↓reduceIte, post, post2, decide_true, decide_false, opds, Nat.reduceEqDiff, Nat.reduceAdd, Nat.zero_add, Nat.add_zero, Nat.mul_one, Int.toNat_natCast, Int.reduceToNat, dec_t, dec_f]
    exact ⟨by trivial, hE2⟩
  by_cases h2 : other.length > 100
  · simp -dsimp (disch := first | omega | rfl | simp only [all_cons, all_nil, plain_w32, plain_w8, plain_w64, plain_ws, plain_int, plain_bool, plain_slice, plain_ptr, plain_map, plain_iface, Bool.and_self]) only [↓pre, ↓pre2, ↓pre3, ↓look_cons, ↓look_bnd, ↓look_bnd0, ↓opd_tmp, ↓opd_const, ↓ite_f, ↓ite_t, ↓reduceIte, post, post2, decide_true, decide_false, opds, Nat.reduceEqDiff, Nat.reduceAdd, Nat.zero_add, Nat.add_zero, Nat.mul_one, Int.toNat_natCast, Int.reduceToNat, dec_t, dec_f]
    exact ⟨by trivial, hE2⟩
  by_cases h3 : text.length > 100
  · simp -dsimp (disch := first | omega | rfl | simp only [all_cons, all_nil, plain_w32, plain_w8, plain_w64, plain_ws, plain_int, plain_bool, plain_slice, plain_ptr, plain_map, plain_iface, Bool.and_self]) only [↓pre, ↓pre2, ↓pre3, ↓look_cons, ↓look_bnd, ↓look_bnd0, ↓opd_tmp, ↓opd_const, ↓ite_f, ↓ite_t, ↓reduceIte, post, post2, decide_true, decide_false, opds, Nat.reduceEqDiff, Nat.reduceAdd, Nat.zero_add, Nat.add_zero, Nat.mul_one, Int.toNat_natCast, Int.reduceToNat, dec_t, dec_f]
    exact ⟨by trivial, hE2⟩
  simp -dsimp (disch := first | omega | rfl | simp only [all_cons, all_nil, plain_w32, plain_w8, plain_w64, plain_ws, plain_int, plain_bool, plain_slice, plain_ptr, plain_map, plain_iface, Bool.and_self]) only [↓pre, ↓pre2, ↓pre3, ↓look_cons, ↓look_bnd, ↓look_bnd0, ↓opd_tmp, ↓opd_const, ↓ite_f, ↓ite_t, ↓reduceIte, post, post2, decide_true, decide_false, opds, Nat.reduceEqDiff, Nat.reduceAdd, Nat.zero_add, Nat.add_zero, Nat.mul_one, Int.toNat_natCast, Int.reduceToNat, dec_t, dec_f]
  refine call_rule (k13 (hs.ex hE2) (by omega)) ?_
  rintro en w3 ⟨ba, Fa, rfl, sa, hx3, hFa⟩
  refine ⟨_, rfl, ?_⟩
  have hE3 := hE2.trans hx3
  simp -dsimp (disch := first | omega | rfl | simp only [all_cons, all_nil, plain_w32, plain_w8, plain_w64, plain_ws, plain_int, plain_bool, plain_slice, plain_ptr, plain_map, plain_iface, Bool.and_self]) only [↓pre, ↓pre2, ↓pre3, ↓look_cons, ↓look_bnd, ↓look_bnd0, ↓opd_tmp, ↓opd_const, ↓ite_f, ↓ite_t, ↓reduceIte, post, post2, decide_true, decide_false, opds, Nat.reduceEqDiff, Nat.reduceAdd, Nat.zero_add, Nat.add_zero, Nat.mul_one, Int.toNat_natCast, Int.reduceToNat]
  refine call_rule (k13 (hs.ex hE3) (by omega)) ?_
  rintro en w4 ⟨bb, Fb, rfl, sb, hx4, hFb⟩
  refine ⟨_, rfl, ?_⟩
  have hE4 := hE3.trans hx4
  simp -dsimp (disch := first | omega | rfl | simp only [all_cons, all_nil, plain_w32, plain_w8, plain_w64, plain_ws, plain_int, plain_bool, plain_slice, plain_ptr, plain_map, plain_iface, Bool.and_self]) only [↓pre, ↓pre2, ↓pre3, ↓look_cons, ↓look_bnd, ↓look_bnd0, ↓opd_tmp, ↓opd_const, ↓ite_f, ↓ite_t, ↓reduceIte, post, post2, decide_true, decide_false, opds, Nat.reduceEqDiff, Nat.reduceAdd, Nat.zero_add, Nat.add_zero, Nat.mul_one, Int.toNat_natCast, Int.reduceToNat]
  refine call_rule (k13 (ho.ex hE4) (by omega)) ?_
  rintro en w5 ⟨bc, Fc, rfl, sc, hx5, hFc⟩
  refine ⟨_, rfl, ?_⟩
  have hE5 := hE4.trans hx5
  have la := sa.lt
  have lb := sb.lt
  have lc := sc.lt
  have sa := (sa.ex hx4).ex hx5
  have sb := sb.ex hx5
  have z2 := hE2.size
  have z3 := hx3.size
  have z4 := hx4.size
  have z5 := hx5.size
  have ga : ∀ k, Fa k → w.heap.size ≤ k ∧ k < w5.heap.size := fun k h => by have := hFa k h; have := la k h; omega
  have gb : ∀ k, Fb k → w.heap.size ≤ k ∧ k < w5.heap.size := fun k h => by have := hFb k h; have := lb k h; omega
  have gc : ∀ k, Fc k → w.heap.size ≤ k ∧ k < w5.heap.size := fun k h => by have := hFc k h; have := lc k h; omega
  have dab : ∀ k, Fa k → ¬ Fb k := fun k h h' => by have := la k h; have := hFb k h'; omega
  have dac : ∀ k, Fa k → ¬ Fc k := fun k h h' => by have := la k h; have := hFc k h'; omega
  have dbc : ∀ k, Fb k → ¬ Fc k := fun k h h' => by have := lb k h; have := hFc k h'; omega
  have C6' : Cw w5.heap b6 (key.map w8) := (((C6.ex hx2).ex hx3).ex hx4).ex hx5
  have h6a : ¬ Fa b6 := fun h => by have := hFa b6 h; have := C6.lt; have := hx2.size; omega
  have h6c : ¬ Fc b6 := fun h => by have := hFc b6 h; have := C6.lt; have := hx2.size; omega
  have hz : sized key (List.replicate 12 0) = true := by simp [sized, hkl]
  simp -dsimp (disch := first | omega | rfl | simp only [all_cons, all_nil, plain_w32, plain_w8, plain_w64, plain_ws, plain_int, plain_bool, plain_slice, plain_ptr, plain_map, plain_iface, Bool.and_self]) only [↓pre, ↓pre2, ↓pre3, ↓look_cons, ↓look_bnd, ↓look_bnd0, ↓opd_tmp, ↓opd_const, ↓ite_f, ↓ite_t, ↓reduceIte, post, post2, decide_true, decide_false, opds, Nat.reduceEqDiff, Nat.reduceAdd, Nat.zero_add, Nat.add_zero, Nat.mul_one, Int.toNat_natCast, Int.reduceToNat]
  have BK : Bs w5.heap (.slice (some ⟨b6, 0, none⟩) (32 - 0) (32 - 0)) key := by
    have := Cw.bs (c := 32) C6' (by omega)
    rw [hkl] at this
    exact this
  have BT : Bs w5.heap (.slice at' text.length ct) text := ht.ex hE5
  -- the first box
  refine par_ex ?_
  simp -dsimp (disch := first | omega | rfl | simp only [all_cons, all_nil, plain_w32, plain_w8, plain_w64, plain_ws, plain_int, plain_bool, plain_slice, plain_ptr, plain_map, plain_iface, Bool.and_self]) only [↓pre, ↓pre2, ↓pre3, ↓look_cons, ↓look_bnd, ↓look_bnd0, ↓opd_tmp, ↓opd_const, ↓ite_f, ↓ite_t, ↓reduceIte, post, post2, decide_true, decide_false, opds, Nat.reduceEqDiff, Nat.reduceAdd, Nat.zero_add, Nat.add_zero, Nat.mul_one, Int.toNat_natCast, Int.reduceToNat]
  refine sla_rule (a := ⟨b6, 0, none⟩) (m := 32) (h := 32) (l := 0) rfl rfl rfl ?_
  rw [show (if (32 : Nat) = 0 then (⟨b6, 0, none⟩ : Addr) else (⟨b6, 0, none⟩ : Addr).add (0 * 1)) = ⟨b6, 0, none⟩ by simp [add_addr]]
  simp -dsimp (disch := first | omega | rfl | simp only [all_cons, all_nil, plain_w32, plain_w8, plain_w64, plain_ws, plain_int, plain_bool, plain_slice, plain_ptr, plain_map, plain_iface, Bool.and_self]) only [↓pre, ↓pre2, ↓pre3, ↓look_cons, ↓look_bnd, ↓look_bnd0, ↓opd_tmp, ↓opd_const, ↓ite_f, ↓ite_t, ↓reduceIte, post, post2, decide_true, decide_false, opds, Nat.reduceEqDiff, Nat.reduceAdd, Nat.zero_add, Nat.add_zero, Nat.mul_one, Int.toNat_natCast, Int.reduceToNat]
  refine mks_rule (n := 12) (c := 12) el8 rfl rfl (by omega) (by omega) (by omega) fun b7 w6 hb7 hc7 he6 hs6 => ?_
  rw [reps8] at hc7
  simp -dsimp (disch := first | omega | rfl | simp only [all_cons, all_nil, plain_w32, plain_w8, plain_w64, plain_ws, plain_int, plain_bool, plain_slice, plain_ptr, plain_map, plain_iface, Bool.and_self]) only [↓pre, ↓pre2, ↓pre3, ↓look_cons, ↓look_bnd, ↓look_bnd0, ↓opd_tmp, ↓opd_const, ↓ite_f, ↓ite_t, ↓reduceIte, post, post2, decide_true, decide_false, opds, Nat.reduceEqDiff, Nat.reduceAdd, Nat.zero_add, Nat.add_zero, Nat.mul_one, Int.toNat_natCast, Int.reduceToNat]
  have hE6 : Ex w5 w6 := (Fr.refl w5).drew.trans he6
  refine call_rule (k14r (sa.ex hE6) (BK.ex hE6) (Cw.bs (l := List.replicate 12 0) hc7 (by simp)) (Bs.nil _) (BT.ex hE6) (by simp) (by omega) (by omega) hz) ?_
  rintro en w7 ⟨ux, rfl, sa7, hf7, nx⟩
  refine ⟨_, rfl, ?_⟩
  have z6 := hE6.size
  have z7 := hf7.size
  have hE7 : Ex w w7 := Fr.young (hE5.trans hE6) hf7 (fun k h => (ga k h).1)
  have sb7 := (sb.ex hE6).fr hf7 (fun k h h' => dab k h' h)
  have sc7 := (sc.ex hE6).fr hf7 (fun k h h' => dac k h' h)
  have BK7 : Bs w7.heap _ key := (BK.ex hE6).fr hf7 (fun k hk _ h' => by simp only [Value.ownBlock, Option.some.injEq] at hk; subst hk; exact h6a h')
  simp -dsimp (disch := first | omega | rfl | simp only [all_cons, all_nil, plain_w32, plain_w8, plain_w64, plain_ws, plain_int, plain_bool, plain_slice, plain_ptr, plain_map, plain_iface, Bool.and_self]) only [↓pre, ↓pre2, ↓pre3, ↓look_cons, ↓look_bnd, ↓look_bnd0, ↓opd_tmp, ↓opd_const, ↓ite_f, ↓ite_t, ↓reduceIte, post, post2, decide_true, decide_false, opds, Nat.reduceEqDiff, Nat.reduceAdd, Nat.zero_add, Nat.add_zero, Nat.mul_one, Int.toNat_natCast, Int.reduceToNat]
  -- the second box
  refine par_ex ?_
  simp -dsimp (disch := first | omega | rfl | simp only [all_cons, all_nil, plain_w32, plain_w8, plain_w64, plain_ws, plain_int, plain_bool, plain_slice, plain_ptr, plain_map, plain_iface, Bool.and_self]) only [↓pre, ↓pre2, ↓pre3, ↓look_cons, ↓look_bnd, ↓look_bnd0, ↓opd_tmp, ↓opd_const, ↓ite_f, ↓ite_t, ↓reduceIte, post, post2, decide_true, decide_false, opds, Nat.reduceEqDiff, Nat.reduceAdd, Nat.zero_add, Nat.add_zero, Nat.mul_one, Int.toNat_natCast, Int.reduceToNat]
  refine sla_rule (a := ⟨b6, 0, none⟩) (m := 32) (h := 32) (l := 0) rfl rfl rfl ?_
  rw [show (if (32 : Nat) = 0 then (⟨b6, 0, none⟩ : Addr) else (⟨b6, 0, none⟩ : Addr).add (0 * 1)) = ⟨b6, 0, none⟩ by simp [add_addr]]
  simp -dsimp (disch := first | omega | rfl | simp only [all_cons, all_nil, plain_w32, plain_w8, plain_w64, plain_ws, plain_int, plain_bool, plain_slice, plain_ptr, plain_map, plain_iface, Bool.and_self]) only [↓pre, ↓pre2, ↓pre3, ↓look_cons, ↓look_bnd, ↓look_bnd0, ↓opd_tmp, ↓opd_const, ↓ite_f, ↓ite_t, ↓reduceIte, post, post2, decide_true, decide_false, opds, Nat.reduceEqDiff, Nat.reduceAdd, Nat.zero_add, Nat.add_zero, Nat.mul_one, Int.toNat_natCast, Int.reduceToNat]
  refine mks_rule (n := 12) (c := 12) el8 rfl rfl (by omega) (by omega) (by omega) fun b8 w8' hb8 hc8 he8 hs8 => ?_
  rw [reps8] at hc8
  simp -dsimp (disch := first | omega | rfl | simp only [all_cons, all_nil, plain_w32, plain_w8, plain_w64, plain_ws, plain_int, plain_bool, plain_slice, plain_ptr, plain_map, plain_iface, Bool.and_self]) only [↓pre, ↓pre2, ↓pre3, ↓look_cons, ↓look_bnd, ↓look_bnd0, ↓opd_tmp, ↓opd_const, ↓ite_f, ↓ite_t, ↓reduceIte, post, post2, decide_true, decide_false, opds, Nat.reduceEqDiff, Nat.reduceAdd, Nat.zero_add, Nat.add_zero, Nat.mul_one, Int.toNat_natCast, Int.reduceToNat]
  have hE8 : Ex w7 w8' := (Fr.refl w7).drew.trans he8
  refine call_rule (k14r (sc7.ex hE8) (BK7.ex hE8) (Cw.bs (l := List.replicate 12 0) hc8 (by simp)) (Bs.nil _) (ht.ex (hE7.trans hE8)) (by simp) (by omega) (by omega) hz) ?_
  rintro en w9 ⟨uy, rfl, sc9, hf9, ny⟩
  refine ⟨_, rfl, ?_⟩
  have z8 := hE8.size
  have z9 := hf9.size
  have hE9 : Ex w w9 := Fr.young (hE7.trans hE8) hf9 (fun k h => (gc k h).1)
  have sa9 := (sa7.ex hE8).fr hf9 (fun k h h' => dac k h h')
  have sb9 := (sb7.ex hE8).fr hf9 (fun k h h' => dbc k h h')
  have hxo : ∀ k, ux.ownBlock = some k → w5.heap.size ≤ k ∧ k < w7.heap.size := fun k hk => by
    have h1 := nx.from' k hk
    have h2 := nx.bs.lt (aeadSeal_ne _ _ _ _) hk
    omega
  have hyo : ∀ k, uy.ownBlock = some k → w5.heap.size ≤ k ∧ k < w9.heap.size := fun k hk => by
    have h1 := ny.from' k hk
    have h2 := ny.bs.lt (aeadSeal_ne _ _ _ _) hk
    omega
  have bx : Bs w9.heap ux (aeadSeal key (List.replicate 12 0) [] text) := (nx.bs.ex hE8).fr hf9 (fun k hk _ h' => by have := gc k h'; have := hxo k hk; omega)
  have bY := ny.bs
  simp -dsimp (disch := first | omega | rfl | simp only [all_cons, all_nil, plain_w32, plain_w8, plain_w64, plain_ws, plain_int, plain_bool, plain_slice, plain_ptr, plain_map, plain_iface, Bool.and_self]) only [↓pre, ↓pre2, ↓pre3, ↓look_cons, ↓look_bnd, ↓look_bnd0, ↓opd_tmp, ↓opd_const, ↓ite_f, ↓ite_t, ↓reduceIte, post, post2, decide_true, decide_false, opds, Nat.reduceEqDiff, Nat.reduceAdd, Nat.zero_add, Nat.add_zero, Nat.mul_one, Int.toNat_natCast, Int.reduceToNat]
  have hw5 : w.heap.size ≤ w5.heap.size := hE5.size
  clear nx ny hE2 hE3 hE4 hE5 hE6 hE7 hE8 hf7 hf9 sa sb sc sa7 sb7 sc7 hx2 hx3 hx4 hx5 he1 he6 he8 la lb lc hFa hFb hFc BK BK7 BT C6' C6 hc6 hc7 hc8 h6a h6c hs1 hs6 hs8 hb6 hb7 hb8 z2 z3 z4
  have hd : w9.drew.heap.size = w9.heap.size := rfl
  refine parY_of (Mx w.heap.size w5.heap.size w9.heap.size) ?_
  have sa : Su w9.drew.heap Fa ba (.real seed 0) := sa9
  have sb : Su w9.drew.heap Fb bb (.real seed 0) := sb9
  have sc : Su w9.drew.heap Fc bc (.real other 0) := sc9
  have BX : Bs w9.drew.heap ux _ := bx
  have BY : Bs w9.drew.heap uy _ := bY
  have hE : Ex w w9.drew := hE9.drew
  clear sa9 sb9 sc9 bx bY hE9
  have mk98 : True := trivial
  repeat' first
    | exact stopY
    | refine stepYf ?_ ?_
    | refine stepY ?_ ?_
    | (refine call_rule (k15r sa (by omega) (by omega)) ?_
       rintro en v ⟨u, rfl, sa', hf, n⟩
       refine ⟨_, rfl, ?_⟩
       have hzv := hf.size
       replace sa := sa'
       replace sb := sb.fr hf (fun k h h' => dab k h' h)
       replace sc := sc.fr hf (fun k h h' => dac k h' h)
       replace BX := BX.fr hf (fun k hk _ h' => by have := (ga k h').2; have := hxo k hk; omega)
       replace BY := BY.fr hf (fun k hk _ h' => by have := (ga k h').2; have := hyo k hk; omega)
       replace hE := Fr.young hE hf (fun k h => (ga k h).1)
       first
       | refine sh_to (Mx w.heap.size w5.heap.size v.heap.size) (Mx.sub (by omega)) ?_
       | refine ksh_to (Mx w.heap.size w5.heap.size v.heap.size) (Mx.sub (by omega)) (hf.mono (fun k _ h => .inl (ga k h))) ?_
       simp -dsimp (disch := first | omega | rfl | simp only [all_cons, all_nil, plain_w32, plain_w8, plain_w64, plain_ws, plain_int, plain_bool, plain_slice, plain_ptr, plain_map, plain_iface, Bool.and_self]) only [↓pre, ↓pre2, ↓pre3, ↓look_cons, ↓look_bnd, ↓look_bnd0, ↓opd_tmp, ↓opd_const, ↓ite_f, ↓ite_t, ↓reduceIte, post, post2, decide_true, decide_false, opds, Nat.reduceEqDiff, Nat.reduceAdd, Nat.zero_add, Nat.add_zero, Nat.mul_one, Int.toNat_natCast, Int.reduceToNat, ↓pre4]
       refine b2sm_rule n.bs
         (fun k hk h => by
           have h1 := n.from' k hk
           have h2 := n.bs.lt (by intro h0; have := congrArg List.length h0; simp [macS_length] at this) hk
           rcases h with h | h <;> omega)
         ?_)
    | (refine call_rule (k15r sb (by omega) (by omega)) ?_
       rintro en v ⟨u, rfl, sb', hf, n⟩
       refine ⟨_, rfl, ?_⟩
       have hzv := hf.size
       replace sb := sb'
       replace sa := sa.fr hf (fun k h h' => dab k h h')
       replace sc := sc.fr hf (fun k h h' => dbc k h' h)
       replace BX := BX.fr hf (fun k hk _ h' => by have := (gb k h').2; have := hxo k hk; omega)
       replace BY := BY.fr hf (fun k hk _ h' => by have := (gb k h').2; have := hyo k hk; omega)
       replace hE := Fr.young hE hf (fun k h => (gb k h).1)
       first
       | refine sh_to (Mx w.heap.size w5.heap.size v.heap.size) (Mx.sub (by omega)) ?_
       | refine ksh_to (Mx w.heap.size w5.heap.size v.heap.size) (Mx.sub (by omega)) (hf.mono (fun k _ h => .inl (gb k h))) ?_
       simp -dsimp (disch := first | omega | rfl | simp only [all_cons, all_nil, plain_w32, plain_w8, plain_w64, plain_ws, plain_int, plain_bool, plain_slice, plain_ptr, plain_map, plain_iface, Bool.and_self]) only [↓pre, ↓pre2, ↓pre3, ↓look_cons, ↓look_bnd, ↓look_bnd0, ↓opd_tmp, ↓opd_const, ↓ite_f, ↓ite_t, ↓reduceIte, post, post2, decide_true, decide_false, opds, Nat.reduceEqDiff, Nat.reduceAdd, Nat.zero_add, Nat.add_zero, Nat.mul_one, Int.toNat_natCast, Int.reduceToNat, ↓pre4]
       refine b2sm_rule n.bs
         (fun k hk h => by
           have h1 := n.from' k hk
           have h2 := n.bs.lt (by intro h0; have := congrArg List.length h0; simp [macS_length] at this) hk
           rcases h with h | h <;> omega)
         ?_)
    | refine b2sm_rule BX (fun k hk h => by have := hxo k hk; rcases h with h | h <;> omega) ?_
    | refine b2sm_rule BY (fun k hk h => by have := hyo k hk; rcases h with h | h <;> omega) ?_
    | (refine lit_rule (d := 87) (xs := [.tmp 86]) (vs := [.slice at' text.length ct]) ell rfl rfl rfl rfl (by omega) fun b87 v hb87 c87 hx hsz => ?_
       skip
       try replace sa := sa.ex hx
       try replace sb := sb.ex hx
       try replace sc := sc.ex hx
       try replace BX := BX.ex hx
       try replace BY := BY.ex hx
       replace hE := hE.trans hx
       try replace c87 := c87.ex hx
       try replace c92 := c92.ex hx
       try replace c100 := c100.ex hx
       try replace c105 := c105.ex hx
       have hzv := hx.size
       try replace s1 := s1.ex hx
       try replace s2 := s2.ex hx
       first
       | refine sh_id ?_
       | refine ksh_id hx.to ?_)
    | (refine lit_rule (d := 92) (xs := [.tmp 91]) (vs := [.slice at' text.length ct]) ell rfl rfl rfl rfl (by omega) fun b92 v hb92 c92 hx hsz => ?_
       skip
       try replace sa := sa.ex hx
       try replace sb := sb.ex hx
       try replace sc := sc.ex hx
       try replace BX := BX.ex hx
       try replace BY := BY.ex hx
       replace hE := hE.trans hx
       try replace c87 := c87.ex hx
       try replace c92 := c92.ex hx
       try replace c100 := c100.ex hx
       try replace c105 := c105.ex hx
       have hzv := hx.size
       try replace s1 := s1.ex hx
       try replace s2 := s2.ex hx
       first
       | refine sh_id ?_
       | refine ksh_id hx.to ?_)
    | (refine lit_rule (d := 100) (xs := [.tmp 99]) (vs := [.slice at' text.length ct]) ell rfl rfl rfl rfl (by omega) fun b100 v hb100 c100 hx hsz => ?_
       skip
       try replace sa := sa.ex hx
       try replace sb := sb.ex hx
       try replace sc := sc.ex hx
       try replace BX := BX.ex hx
       try replace BY := BY.ex hx
       replace hE := hE.trans hx
       try replace c87 := c87.ex hx
       try replace c92 := c92.ex hx
       try replace c100 := c100.ex hx
       try replace c105 := c105.ex hx
       have hzv := hx.size
       try replace s1 := s1.ex hx
       try replace s2 := s2.ex hx
       first
       | refine sh_id ?_
       | refine ksh_id hx.to ?_)
    | (refine lit_rule (d := 105) (xs := [.tmp 104]) (vs := [.slice at' text.length ct]) ell rfl rfl rfl rfl (by omega) fun b105 v hb105 c105 hx hsz => ?_
       try have n15 : ∀ k, F1 k → k ≠ b105 := fun k hk => by have := s1.lt k hk; omega
       try replace sa := sa.ex hx
       try replace sb := sb.ex hx
       try replace sc := sc.ex hx
       try replace BX := BX.ex hx
       try replace BY := BY.ex hx
       replace hE := hE.trans hx
       try replace c87 := c87.ex hx
       try replace c92 := c92.ex hx
       try replace c100 := c100.ex hx
       try replace c105 := c105.ex hx
       have hzv := hx.size
       try replace s1 := s1.ex hx
       try replace s2 := s2.ex hx
       first
       | refine sh_id ?_
       | refine ksh_id hx.to ?_)
    | (refine call_rule (k16r sa (Ps.one c87 (ht.ex hE)) (by simp; omega) (by simp) (by omega)) ?_
       rintro en v ⟨u, rfl, sa', hf, n⟩
       refine ⟨_, rfl, ?_⟩
       have hzv := hf.size
       replace sa := sa'
       replace sb := sb.fr hf (fun k h h' => dab k h' h)
       replace sc := sc.fr hf (fun k h h' => dac k h' h)
       replace BX := BX.fr hf (fun k hk _ h' => by have := (ga k h').2; have := hxo k hk; omega)
       replace BY := BY.fr hf (fun k hk _ h' => by have := (ga k h').2; have := hyo k hk; omega)
       try replace c92 := c92.fr hf (fun h => by have := (ga _ h).2; omega)
       replace hE := Fr.young hE hf (fun k h => (ga k h).1)
       first
       | refine sh_to (Mx w.heap.size w5.heap.size v.heap.size) (Mx.sub (by omega)) ?_
       | refine ksh_to (Mx w.heap.size w5.heap.size v.heap.size) (Mx.sub (by omega)) (hf.mono (fun k _ h => .inl (ga k h))) ?_
       simp -dsimp (disch := first | omega | rfl | simp only [all_cons, all_nil, plain_w32, plain_w8, plain_w64, plain_ws, plain_int, plain_bool, plain_slice, plain_ptr, plain_map, plain_iface, Bool.and_self]) only [↓pre, ↓pre2, ↓pre3, ↓look_cons, ↓look_bnd, ↓look_bnd0, ↓opd_tmp, ↓opd_const, ↓ite_f, ↓ite_t, ↓reduceIte, post, post2, decide_true, decide_false, opds, Nat.reduceEqDiff, Nat.reduceAdd, Nat.zero_add, Nat.add_zero, Nat.mul_one, Int.toNat_natCast, Int.reduceToNat, ↓pre4]
       refine b2sm_rule n.bs
         (fun k hk h => by
           have h1 := n.from' k hk
           have h2 := n.bs.lt (by intro h0; have := congrArg List.length h0; simp [shaSum_length] at this) hk
           rcases h with h | h <;> omega)
         ?_)
    | (refine call_rule (k16r sc (Ps.one c92 (ht.ex hE)) (by simp; omega) (by simp) (by omega)) ?_
       rintro en v ⟨u, rfl, sc', hf, n⟩
       refine ⟨_, rfl, ?_⟩
       have hzv := hf.size
       replace sc := sc'
       replace sa := sa.fr hf (fun k h h' => dac k h h')
       replace sb := sb.fr hf (fun k h h' => dbc k h h')
       replace BX := BX.fr hf (fun k hk _ h' => by have := (gc k h').2; have := hxo k hk; omega)
       replace BY := BY.fr hf (fun k hk _ h' => by have := (gc k h').2; have := hyo k hk; omega)
       try clear c87
       replace hE := Fr.young hE hf (fun k h => (gc k h).1)
       first
       | refine sh_to (Mx w.heap.size w5.heap.size v.heap.size) (Mx.sub (by omega)) ?_
       | refine ksh_to (Mx w.heap.size w5.heap.size v.heap.size) (Mx.sub (by omega)) (hf.mono (fun k _ h => .inl (gc k h))) ?_
       simp -dsimp (disch := first | omega | rfl | simp only [all_cons, all_nil, plain_w32, plain_w8, plain_w64, plain_ws, plain_int, plain_bool, plain_slice, plain_ptr, plain_map, plain_iface, Bool.and_self]) only [↓pre, ↓pre2, ↓pre3, ↓look_cons, ↓look_bnd, ↓look_bnd0, ↓opd_tmp, ↓opd_const, ↓ite_f, ↓ite_t, ↓reduceIte, post, post2, decide_true, decide_false, opds, Nat.reduceEqDiff, Nat.reduceAdd, Nat.zero_add, Nat.add_zero, Nat.mul_one, Int.toNat_natCast, Int.reduceToNat, ↓pre4]
       refine b2sm_rule n.bs
         (fun k hk h => by
           have h1 := n.from' k hk
           have h2 := n.bs.lt (by intro h0; have := congrArg List.length h0; simp [shaSum_length] at this) hk
           rcases h with h | h <;> omega)
         ?_)
    | (have hh1 := s1
       refine call_rule (k16 s1 (Ps.one c100 (ht.ex hE)) (by simp; omega) (by simp) (by simp [stN])) ?_
       rintro en v ⟨u, F1', rfl, sp, nn⟩
       have n := nn.new
       refine ⟨_, rfl, ?_⟩
       have hf := sp.fr
       have hzv := hf.size
       clear sa sb sc BX BY
       try replace c105 := c105.fr hf (fun h => n15 _ h rfl)
       replace hE := Fr.young hE hf (fun k h => by have := hF1 k h; omega)
       clear c100 hh1 s1
       first
       | refine sh_to (Mx w.heap.size w5.heap.size v.heap.size) (Mx.sub (by omega)) ?_
       | refine ksh_to (Mx w.heap.size w5.heap.size v.heap.size) (Mx.sub (by omega)) (hf.mono (fun k _ h => .inr (by have := hF1 k h; omega))) ?_
       simp -dsimp (disch := first | omega | rfl | simp only [all_cons, all_nil, plain_w32, plain_w8, plain_w64, plain_ws, plain_int, plain_bool, plain_slice, plain_ptr, plain_map, plain_iface, Bool.and_self]) only [↓pre, ↓pre2, ↓pre3, ↓look_cons, ↓look_bnd, ↓look_bnd0, ↓opd_tmp, ↓opd_const, ↓ite_f, ↓ite_t, ↓reduceIte, post, post2, decide_true, decide_false, opds, Nat.reduceEqDiff, Nat.reduceAdd, Nat.zero_add, Nat.add_zero, Nat.mul_one, Int.toNat_natCast, Int.reduceToNat, ↓pre4]
       refine b2sm_rule n.bs
         (fun k hk h => by
           have h1 := n.from' k hk
           have h2 := n.bs.lt (by intro h0; have := congrArg List.length h0; simp [sumB_length] at this) hk
           rcases h with h | h <;> omega)
         ?_)
    | (have hh2 := s2
       refine call_rule (k16 s2 (Ps.one c105 (ht.ex hE)) (by simp; omega) (by simp) (by simp [stN])) ?_
       rintro en v ⟨u, F2', rfl, sp, nn⟩
       have n := nn.new
       refine ⟨_, rfl, ?_⟩
       have hf := sp.fr
       have hzv := hf.size
       replace hE := Fr.young hE hf (fun k h => by have := hF2 k h; omega)
       clear hh2 s2
       first
       | refine sh_to (Mx w.heap.size w5.heap.size v.heap.size) (Mx.sub (by omega)) ?_
       | refine ksh_to (Mx w.heap.size w5.heap.size v.heap.size) (Mx.sub (by omega)) (hf.mono (fun k _ h => .inr (by have := hF2 k h; omega))) ?_
       simp -dsimp (disch := first | omega | rfl | simp only [all_cons, all_nil, plain_w32, plain_w8, plain_w64, plain_ws, plain_int, plain_bool, plain_slice, plain_ptr, plain_map, plain_iface, Bool.and_self]) only [↓pre, ↓pre2, ↓pre3, ↓look_cons, ↓look_bnd, ↓look_bnd0, ↓opd_tmp, ↓opd_const, ↓ite_f, ↓ite_t, ↓reduceIte, post, post2, decide_true, decide_false, opds, Nat.reduceEqDiff, Nat.reduceAdd, Nat.zero_add, Nat.add_zero, Nat.mul_one, Int.toNat_natCast, Int.reduceToNat, ↓pre4]
       refine b2sm_rule n.bs
         (fun k hk h => by
           have h1 := n.from' k hk
           have h2 := n.bs.lt (by intro h0; have := congrArg List.length h0; simp [sumB_length] at this) hk
           rcases h with h | h <;> omega)
         ?_)
    | (clear mk98
       refine call_rule k17 ?_
       rintro en v ⟨b1, F1, rfl, s1, hx, hF1⟩
       refine ⟨_, rfl, ?_⟩
       try have n15 : ∀ k, F1 k → k ≠ b105 := fun k hk => by have := c105.lt; have := hF1 k hk; omega
       try replace sa := sa.ex hx
       try replace sb := sb.ex hx
       try replace sc := sc.ex hx
       try replace BX := BX.ex hx
       try replace BY := BY.ex hx
       replace hE := hE.trans hx
       try replace c87 := c87.ex hx
       try replace c92 := c92.ex hx
       try replace c100 := c100.ex hx
       try replace c105 := c105.ex hx
       have hzv := hx.size
       first
       | refine sh_id ?_
       | refine ksh_id hx.to ?_)
    | (refine call_rule k17 ?_
       rintro en v ⟨b2, F2, rfl, s2, hx, hF2⟩
       refine ⟨_, rfl, ?_⟩
       replace hE := hE.trans hx
       try replace c105 := c105.ex hx
       have hzv := hx.size
       first
       | refine sh_id ?_
       | refine ksh_id hx.to ?_)
    | exact ⟨by trivial, hE⟩
    | simp -dsimp (disch := first | omega | rfl | simp only [all_cons, all_nil, plain_w32, plain_w8, plain_w64, plain_ws, plain_int, plain_bool, plain_slice, plain_ptr, plain_map, plain_iface, Bool.and_self]) only [↓pre, ↓pre2, ↓pre3, ↓look_cons, ↓look_bnd, ↓look_bnd0, ↓opd_tmp, ↓opd_const, ↓ite_f, ↓ite_t, ↓reduceIte, post, post2, decide_true, decide_false, opds, Nat.reduceEqDiff, Nat.reduceAdd, Nat.zero_add, Nat.add_zero, Nat.mul_one, Int.toNat_natCast, Int.reduceToNat, ↓pre4, eqs_str, eq_self, beq_self_eq_true]
end Go.Lk
