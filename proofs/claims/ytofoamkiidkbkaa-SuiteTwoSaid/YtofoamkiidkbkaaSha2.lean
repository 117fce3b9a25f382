/- SHA-256: the hash object, and sums. No statement of the seat is proved in this text. -/
import Derived.Test.YtofoamkiidkbkaaSha
set_option linter.unusedSimpArgs false
set_option linter.unusedVariables false
set_option linter.unusedSectionVars false
set_option linter.unnecessarySimpa false
set_option maxRecDepth 10000
namespace Go.Lk

theorem cutv_own {sz l h m n c b : Nat} {a : Option Addr} (hb : (cutv sz l h m a).ownBlock = some b) : (Value.slice a n c).ownBlock = some b := by
  unfold cutv at hb
  by_cases hm : m = l
  · rw [if_pos hm] at hb
    cases a <;> simpa [Value.ownBlock] using hb
  · rw [if_neg hm] at hb
    cases a with
    | none => simp [Value.ownBlock] at hb
    | some ad =>
      simp only [Value.ownBlock, Option.map_some, Option.some.injEq] at hb ⊢
      rw [← hb]
      unfold Addr.add
      split <;> rfl

/-- a cut of a slice of one's own -/
theorem New.cut {B : Nat} {h : Hp} {a : Option Addr} {n c : Nat} {l : List UInt8} (hn : New B h (.slice a n c) l) {k : Nat} (hk : k ≤ n) : New B h (cutv 1 k n c a) (l.drop k) := by
  obtain ⟨a', c', he, hc, hx⟩ := hn.bs.parts
  injection he with e1 e2 e3
  subst e1; subst e2; subst e3
  have hown := hn.own
  have hfrom := hn.from'
  have hbs := hn.bs
  unfold cutv
  by_cases hck : c = k
  · rw [if_pos hck]
    have : l.drop k = [] := by simp; omega
    rw [this]
    have h0 : l.length - k = 0 := by omega
    rw [h0, show c - k = 0 by omega]
    refine ⟨⟨a, 0, rfl, Nat.le_refl _, rfl, fun h => absurd h (by simp)⟩, Own.full _ _, fun b hb => hfrom b ?_⟩
    cases a <;> simpa [Value.ownBlock] using hb
  · rw [if_neg hck]
    obtain ⟨a2, c2, he2, hcc, hll, hxx⟩ := hbs
    injection he2 with e1 e2 e3
    subst e1; subst e3
    refine ⟨⟨a.map (·.add k), c - k, by simp, by simp; omega, by simp, fun hpos => ?_⟩, ?_, ?_⟩
    · simp only [List.length_drop] at hpos
      obtain ⟨b, o, rfl, cs, E, fr, h1, h2⟩ := hxx (by omega)
      refine ⟨b, o + k, by simp [add_addr], cs, E, fr, h1, fun i hi => ?_⟩
      simp only [List.length_drop, Nat.mul_one] at hi
      rw [show o + k + i = o + (k + i) by omega, h2 (k + i) (by omega)]
      simp [List.map_drop]
    · intro a3 n3 c3 he3 hlt
      injection he3 with e1 e2 e3
      subst e2; subst e3
      obtain ⟨b, o, cs, E, fr, rfl, hB, h1, h2, h3⟩ := hown a _ _ rfl (by omega)
      exact ⟨b, o + k, cs, E, fr, by rw [← e1]; simp [add_addr], hB, h1, by omega, h3⟩
    · intro b hb
      refine hfrom b ?_
      cases a with
      | none => simp [Value.ownBlock] at hb
      | some ad =>
        simp only [Value.ownBlock, Option.map_some, Option.some.injEq] at hb ⊢
        rw [← hb]
        unfold Addr.add
        split <;> rfl

/-- a hash's cells -/
def hcells (st : List (BitVec 32)) (r : Value) (n : Int) : List Value := st.map w32 ++ [r, vi n]
section
variable {st : List (BitVec 32)} (hst : st.length = 8) (r : Value) (n : Int)
include hst
theorem hc_len : (hcells st r n).length = 10 := by simp [hcells, hst]
theorem hc_8 : (hcells st r n)[8]? = some r := by simp [hcells, hst]
theorem hc_9 : (hcells st r n)[9]? = some (vi n) := by simp [hcells, hst]
theorem hc_set8 (r' : Value) : (hcells st r n).set 8 r' = hcells st r' n := by
  simp only [hcells]
  rw [List.set_append_right _ _ (by simp [hst])]
  simp [hst]
theorem hc_set9 (n' : Int) : (hcells st r n).set 9 (vi n') = hcells st r n' := by
  simp only [hcells]
  rw [List.set_append_right _ _ (by simp [hst])]
  simp [hst]
theorem hc_st (st' : List (BitVec 32)) : (hcells st r n).take 0 ++ st'.map w32 ++ (hcells st r n).drop (0 + 8) = hcells st' r n := by
  simp [hcells, hst]
theorem hc_get (i : Nat) (hi : i < 8) : (hcells st r n)[i]? = (st.map w32)[i]? := by
  simp only [hcells]
  rw [List.getElem?_append_left (by simp [hst, hi])]
end

/-- full blocks taken in -/
def takeIn (s : List (BitVec 32)) (l : List UInt8) : List (BitVec 32) × List UInt8 :=
  if _h : 64 ≤ l.length then takeIn (compress s l) (l.drop 64) else (s, l)
  termination_by l.length
  decreasing_by simp; omega

def shaIv : List (BitVec 32) := [1779033703#32, 3144134277#32, 1013904242#32, 2773480762#32, 1359893119#32, 2600822924#32, 528734635#32, 1541459225#32]

theorem compress_length {s : List (BitVec 32)} {l : List UInt8} (hs : s.length = 8) : (compress s l).length = 8 := by
  simp [compress, hs, shaRounds_length hs]

/-- a hash that has taken in l -/
def Hs (B : Nat) (h : Hp) (b : Nat) (l : List UInt8) : Prop :=
  B ≤ b ∧ ∃ r, Cw h b (hcells (takeIn shaIv l).1 r l.length) ∧ New B h r (takeIn shaIv l).2 ∧ r.ownBlock ≠ some b

theorem takeIn_length {s : List (BitVec 32)} (hs : s.length = 8) (l : List UInt8) : (takeIn s l).1.length = 8 := by
  induction hn : l.length using Nat.strongRecOn generalizing s l with
  | _ n ih =>
    unfold takeIn
    split
    · rename_i h
      exact ih (l.drop 64).length (by simp; omega) (compress_length hs) _ rfl
    · exact hs

theorem takeIn_small {s : List (BitVec 32)} {l : List UInt8} (h : l.length < 64) : takeIn s l = (s, l) := by
  unfold takeIn
  rw [dif_neg (by omega)]
theorem takeIn_step {s : List (BitVec 32)} {l : List UInt8} (h : 64 ≤ l.length) : takeIn s l = takeIn (compress s l) (l.drop 64) := by
  rw [takeIn, dif_pos h]

theorem takeIn_rest {s : List (BitVec 32)} (l : List UInt8) : (takeIn s l).2.length ≤ l.length := by
  induction hn : l.length using Nat.strongRecOn generalizing s l with
  | _ n ih =>
    unfold takeIn
    split
    · rename_i h
      have := ih (l.drop 64).length (by simp; omega) (s := compress s l) (l.drop 64) rfl
      simp only [List.length_drop] at this
      omega
    · simp; omega

theorem compress_take (s : List (BitVec 32)) (l x : List UInt8) (h : 64 ≤ l.length) : compress s (l ++ x) = compress s l := by
  have hw : ∀ t, t < 16 → word (l ++ x) t = word l t := fun t ht => by
    have hb : ∀ i, i < 64 → bw (l ++ x) i = bw l i := fun i hi => by
      simp only [bw, List.getD]
      rw [List.getElem?_append_left (by omega)]
    simp only [word]
    rw [hb _ (by omega), hb _ (by omega), hb _ (by omega), hb _ (by omega)]
  have hs : ∀ t, sched (l ++ x) t = sched l t := fun t => by
    induction t with
    | zero => rfl
    | succ t ih =>
      simp only [sched, ih]
      by_cases ht : t < 16
      · rw [if_pos ht, if_pos ht, hw t ht]
      · rw [if_neg ht, if_neg ht]
  have hr : ∀ t, shaRounds (l ++ x) s t = shaRounds l s t := fun t => by
    induction t with
    | zero => rfl
    | succ t ih => simp only [shaRounds, ih, hs]
  simp only [compress, hr]

/-- what is taken in in two goes -/
theorem takeIn_app {s : List (BitVec 32)} (l x : List UInt8) : takeIn s (l ++ x) = takeIn (takeIn s l).1 ((takeIn s l).2 ++ x) := by
  induction hn : l.length using Nat.strongRecOn generalizing s l with
  | _ n ih =>
    by_cases h : 64 ≤ l.length
    · rw [takeIn_step h, takeIn_step (l := l ++ x) (by simp; omega), compress_take s l x h, List.drop_append_of_le_length h]
      exact ih (l.drop 64).length (by simp; omega) (l.drop 64) rfl
    · rw [takeIn_small (l := l) (by omega)]

theorem k105 {w : World} {B b : Nat} {l x : List UInt8} {v : Value} (hh : Hs B w.heap b l) (hx : Bs w.heap v x) (hxb : x ≠ [] → v.ownBlock ≠ some b) (hB : B ≤ w.heap.size) (hl : l.length + x.length ≤ 1099511627776) :
    Calls Go.Proofs.Try.prog 105 #[.pointer (some ⟨b, 0, none⟩), v] w fun e w' => e = .returned (.tuple #[]) ∧ Hs B w'.heap b (l ++ x) ∧ Fr (fun k => B ≤ k) w w' := by
  obtain ⟨hBb, r, hc, hr, hrb⟩ := hh
  have hst := takeIn_length (s := shaIv) rfl l
  have hrl := takeIn_rest (s := shaIv) l
  generalize hti : takeIn shaIv l = ti at hc hr hst hrl
  obtain ⟨st, rest⟩ := ti
  simp only at hc hr hst hrl
  obtain ⟨a, c, rfl, hcap, hne⟩ := hx.parts
  refine enter mo (args := [.pointer (some ⟨b, 0, none⟩), .slice a x.length c]) Go.Proofs.Try.func105 c105 (by simp [x105]) ?_
  simp only [x105, env0]
  simp -dsimp (disch := first | omega | rfl | simp only [all_cons, all_nil, plain_w32, plain_w8, plain_w64, plain_ws, plain_int, plain_bool, plain_slice, plain_ptr, plain_map, plain_iface, Bool.and_self]) only [↓pre, ↓pre2, ↓pre3, ↓look_cons, ↓look_bnd, ↓look_bnd0, ↓opd_tmp, ↓opd_const, ↓ite_f, ↓ite_t, ↓reduceIte, post, post2, decide_true, decide_false, opds, Nat.reduceEqDiff, Nat.reduceAdd, Nat.zero_add, Nat.add_zero, Nat.mul_one, Int.toNat_natCast, Int.reduceToNat, hc.cell, hc_8 hst, hc_9 hst]
  refine store_rule hc (by simp [hc_len hst]) rfl fun w1 hc1 hf1 hs1 => ?_
  rw [hc_set9 hst] at hc1
  have hr1 : New B w1.heap r rest := hr.fr hf1 (fun k hk _ _ e => hrb (by rw [hk, e]))
  have hx1 : Bs w1.heap (.slice a x.length c) x := hx.fr1 hf1 (fun hx0 k hk _ e => hxb hx0 (by rw [hk, e]))
  simp -dsimp (disch := first | omega | rfl | simp only [all_cons, all_nil, plain_w32, plain_w8, plain_w64, plain_ws, plain_int, plain_bool, plain_slice, plain_ptr, plain_map, plain_iface, Bool.and_self]) only [↓pre, ↓pre2, ↓pre3, ↓look_cons, ↓look_bnd, ↓look_bnd0, ↓opd_tmp, ↓opd_const, ↓ite_f, ↓ite_t, ↓reduceIte, post, post2, decide_true, decide_false, opds, Nat.reduceEqDiff, Nat.reduceAdd, Nat.zero_add, Nat.add_zero, Nat.mul_one, Int.toNat_natCast, Int.reduceToNat, hc1.cell, hc_8 hst, hc_9 hst]
  refine app_bytes el8 rfl rfl hr1 (by omega) hx1 rfl (by omega) fun r2 w2 hr2 hf2 ho2 => ?_
  have hc2 := hc1.fr hf2 (fun h => hrb h.1)
  have hrb2 : r2.ownBlock ≠ some b := fun e => by
    rcases ho2 b e with h | h
    · exact hrb h
    · have := hc1.lt; omega
  simp -dsimp (disch := first | omega | rfl | simp only [all_cons, all_nil, plain_w32, plain_w8, plain_w64, plain_ws, plain_int, plain_bool, plain_slice, plain_ptr, plain_map, plain_iface, Bool.and_self]) only [↓pre, ↓pre2, ↓pre3, ↓look_cons, ↓look_bnd, ↓look_bnd0, ↓opd_tmp, ↓opd_const, ↓ite_f, ↓ite_t, ↓reduceIte, post, post2, decide_true, decide_false, opds, Nat.reduceEqDiff, Nat.reduceAdd, Nat.zero_add, Nat.add_zero, Nat.mul_one, Int.toNat_natCast, Int.reduceToNat]
  refine store_rule hc2 (by simp [hc_len hst]) (by obtain ⟨a, c, e, _⟩ := hr2.bs.parts; rw [e]; rfl) fun w3 hc3 hf3 hs3 => ?_
  rw [hc_set8 hst] at hc3
  have hr3 : New B w3.heap r2 (rest ++ x) := hr2.fr hf3 (fun k hk _ _ e => hrb2 (by rw [hk, e]))
  have hF3 : Fr (fun k => B ≤ k) w w3 := ((hf1.mono (fun k _ e => by rw [e]; exact hBb)).trans (hf2.mono (fun k _ e => e.2))).trans (hf3.mono (fun k _ e => by rw [e]; exact hBb))
  simp -dsimp (disch := first | omega | rfl | simp only [all_cons, all_nil, plain_w32, plain_w8, plain_w64, plain_ws, plain_int, plain_bool, plain_slice, plain_ptr, plain_map, plain_iface, Bool.and_self]) only [↓pre, ↓pre2, ↓pre3, ↓look_cons, ↓look_bnd, ↓look_bnd0, ↓opd_tmp, ↓opd_const, ↓ite_f, ↓ite_t, ↓reduceIte, post, post2, decide_true, decide_false, opds, Nat.reduceEqDiff, Nat.reduceAdd, Nat.zero_add, Nat.add_zero, Nat.mul_one, Int.toNat_natCast, Int.reduceToNat]
  refine loop_rule (fun _ : List (BitVec 32) × List UInt8 => [(0, .pointer (some ⟨b, 0, none⟩))])
    (fun k v => k.1.length = 8 ∧ k.2.length ≤ l.length + x.length ∧ takeIn k.1 k.2 = takeIn shaIv (l ++ x) ∧ (∃ r, Cw v.heap b (hcells k.1 r (l.length + x.length)) ∧ New B v.heap r k.2 ∧ r.ownBlock ≠ some b) ∧ Fr (fun k => B ≤ k) w v)
    (fun k => k.2.length) (st, rest ++ x) (by simp [sub, look, bnd, add_addr]) ⟨hst, by simp; omega, by rw [takeIn_app (s := shaIv) l x, hti], ⟨r2, hc3, hr3, hrb2⟩, hF3⟩ ?_
  rintro ⟨s4, l4⟩ v ⟨hs4, hl4, ht4, ⟨r4, hc4, hr4, hrb4⟩, hf4⟩
  simp only at hs4 hl4 ht4 hc4 hr4
  obtain ⟨a4, c4, rfl, hcap4, hne4⟩ := hr4.bs.parts
  simp -dsimp (disch := first | omega | rfl | simp only [all_cons, all_nil, plain_w32, plain_w8, plain_w64, plain_ws, plain_int, plain_bool, plain_slice, plain_ptr, plain_map, plain_iface, Bool.and_self]) only [↓pre, ↓pre2, ↓pre3, ↓look_cons, ↓look_bnd, ↓look_bnd0, ↓opd_tmp, ↓opd_const, ↓ite_f, ↓ite_t, ↓reduceIte, post, post2, decide_true, decide_false, opds, Nat.reduceEqDiff, Nat.reduceAdd, Nat.zero_add, Nat.add_zero, Nat.mul_one, Int.toNat_natCast, Int.reduceToNat, hc4.cell, hc_8 hs4]
  refine cond_dec (fun hlt => ?_) (fun hge => ?_)
  · simp -dsimp (disch := first | omega | rfl | simp only [all_cons, all_nil, plain_w32, plain_w8, plain_w64, plain_ws, plain_int, plain_bool, plain_slice, plain_ptr, plain_map, plain_iface, Bool.and_self]) only [↓pre, ↓pre2, ↓pre3, ↓look_cons, ↓look_bnd, ↓look_bnd0, ↓opd_tmp, ↓opd_const, ↓ite_f, ↓ite_t, ↓reduceIte, post, post2, decide_true, decide_false, opds, Nat.reduceEqDiff, Nat.reduceAdd, Nat.zero_add, Nat.add_zero, Nat.mul_one, Int.toNat_natCast, Int.reduceToNat]
    refine par_ex ?_
    have hc4' : Cw v.drew.heap b _ := hc4
    simp -dsimp (disch := first | omega | rfl | simp only [all_cons, all_nil, plain_w32, plain_w8, plain_w64, plain_ws, plain_int, plain_bool, plain_slice, plain_ptr, plain_map, plain_iface, Bool.and_self]) only [↓pre, ↓pre2, ↓pre3, ↓look_cons, ↓look_bnd, ↓look_bnd0, ↓opd_tmp, ↓opd_const, ↓ite_f, ↓ite_t, ↓reduceIte, post, post2, decide_true, decide_false, opds, Nat.reduceEqDiff, Nat.reduceAdd, Nat.zero_add, Nat.add_zero, Nat.mul_one, Int.toNat_natCast, Int.reduceToNat, hc4'.cell, hc_8 hs4]
    refine lda_rule (s4.map w32) (by simpa using hs4) (fun i hi => by rw [Nat.zero_add, hc4'.cell, hc_get hs4 _ _ i hi]) ?_
    simp -dsimp (disch := first | omega | rfl | simp only [all_cons, all_nil, plain_w32, plain_w8, plain_w64, plain_ws, plain_int, plain_bool, plain_slice, plain_ptr, plain_map, plain_iface, Bool.and_self]) only [↓pre, ↓pre2, ↓pre3, ↓look_cons, ↓look_bnd, ↓look_bnd0, ↓opd_tmp, ↓opd_const, ↓ite_f, ↓ite_t, ↓reduceIte, post, post2, decide_true, decide_false, opds, Nat.reduceEqDiff, Nat.reduceAdd, Nat.zero_add, Nat.add_zero, Nat.mul_one, Int.toNat_natCast, Int.reduceToNat, hc4'.cell, hc_8 hs4]
    refine call_rule (k127 (w := v.drew) (l := l4) (s := s4) hr4.bs hs4 (by omega) (by omega)) ?_
    rintro en w5 ⟨rfl, hx5⟩
    refine ⟨_, rfl, ?_⟩
    have hE5 : Ex v w5 := Fr.trans (Ex.drew (Fr.refl v)) hx5
    simp -dsimp (disch := first | omega | rfl | simp only [all_cons, all_nil, plain_w32, plain_w8, plain_w64, plain_ws, plain_int, plain_bool, plain_slice, plain_ptr, plain_map, plain_iface, Bool.and_self]) only [↓pre, ↓pre2, ↓pre3, ↓look_cons, ↓look_bnd, ↓look_bnd0, ↓opd_tmp, ↓opd_const, ↓ite_f, ↓ite_t, ↓reduceIte, post, post2, decide_true, decide_false, opds, Nat.reduceEqDiff, Nat.reduceAdd, Nat.zero_add, Nat.add_zero, Nat.mul_one, Int.toNat_natCast, Int.reduceToNat]
    refine stores_rule (o := 0) (cs := (compress s4 l4).map w32) (hc4.ex hE5) (by simp [Value.cells]) (by simpa using compress_length hs4) (by simp [hc_len hs4]) (by simp [plain_w32]) fun w6 hc6 hf6 hs6 => ?_
    rw [hc_st hs4] at hc6
    have hs6' := compress_length (l := l4) hs4
    have hr6 : New B w6.heap (.slice a4 l4.length c4) l4 := New.fr (M := (· = b)) (hr4.ex hE5) hf6 (fun k hk _ _ e => hrb4 (by rw [hk, e]))
    simp -dsimp (disch := first | omega | rfl | simp only [all_cons, all_nil, plain_w32, plain_w8, plain_w64, plain_ws, plain_int, plain_bool, plain_slice, plain_ptr, plain_map, plain_iface, Bool.and_self]) only [↓pre, ↓pre2, ↓pre3, ↓look_cons, ↓look_bnd, ↓look_bnd0, ↓opd_tmp, ↓opd_const, ↓ite_f, ↓ite_t, ↓reduceIte, post, post2, decide_true, decide_false, opds, Nat.reduceEqDiff, Nat.reduceAdd, Nat.zero_add, Nat.add_zero, Nat.mul_one, Int.toNat_natCast, Int.reduceToNat, hc6.cell, hc_8 hs6']
    refine sl_rule (m := c4) (h := l4.length) (l := 64) rfl rfl (bnd_ok (i := 64) rfl (by omega) (by omega)) ?_
    simp -dsimp (disch := first | omega | rfl | simp only [all_cons, all_nil, plain_w32, plain_w8, plain_w64, plain_ws, plain_int, plain_bool, plain_slice, plain_ptr, plain_map, plain_iface, Bool.and_self]) only [↓pre, ↓pre2, ↓pre3, ↓look_cons, ↓look_bnd, ↓look_bnd0, ↓opd_tmp, ↓opd_const, ↓ite_f, ↓ite_t, ↓reduceIte, post, post2, decide_true, decide_false, opds, Nat.reduceEqDiff, Nat.reduceAdd, Nat.zero_add, Nat.add_zero, Nat.mul_one, Int.toNat_natCast, Int.reduceToNat]
    have hr7 := hr6.cut (k := 64) (by omega)
    have hrb7 : (cutv 1 64 l4.length c4 a4).ownBlock ≠ some b := fun e => hrb4 (cutv_own e)
    refine store_rule hc6 (by simp [hc_len hs6']) rfl fun w8 hc8 hf8 hs8 => ?_
    rw [hc_set8 hs6'] at hc8
    simp -dsimp (disch := first | omega | rfl | simp only [all_cons, all_nil, plain_w32, plain_w8, plain_w64, plain_ws, plain_int, plain_bool, plain_slice, plain_ptr, plain_map, plain_iface, Bool.and_self]) only [↓pre, ↓pre2, ↓pre3, ↓look_cons, ↓look_bnd, ↓look_bnd0, ↓opd_tmp, ↓opd_const, ↓ite_f, ↓ite_t, ↓reduceIte, post, post2, decide_true, decide_false, opds, Nat.reduceEqDiff, Nat.reduceAdd, Nat.zero_add, Nat.add_zero, Nat.mul_one, Int.toNat_natCast, Int.reduceToNat]
    refine ⟨(compress s4 l4, l4.drop 64), by simp [sub, look, bnd, add_addr], ⟨hs6', by simp; omega, by show takeIn (compress s4 l4) (l4.drop 64) = _; rw [← takeIn_step (by omega), ht4], ⟨_, hc8, New.fr (M := (· = b)) hr7 hf8 (fun k hk _ _ e => hrb7 (by rw [hk, e])), hrb7⟩, ?_⟩, by simp; omega⟩
    exact ((hf4.trans hE5.to).trans (hf6.mono (fun k _ e => by rw [e]; exact hBb))).trans (hf8.mono (fun k _ e => by rw [e]; exact hBb))
  · simp -dsimp (disch := first | omega | rfl | simp only [all_cons, all_nil, plain_w32, plain_w8, plain_w64, plain_ws, plain_int, plain_bool, plain_slice, plain_ptr, plain_map, plain_iface, Bool.and_self]) only [↓pre, ↓pre2, ↓pre3, ↓look_cons, ↓look_bnd, ↓look_bnd0, ↓opd_tmp, ↓opd_const, ↓ite_f, ↓ite_t, ↓reduceIte, post, post2, decide_true, decide_false, opds, Nat.reduceEqDiff, Nat.reduceAdd, Nat.zero_add, Nat.add_zero, Nat.mul_one, Int.toNat_natCast, Int.reduceToNat]
    refine ⟨trivial, ⟨hBb, ?_⟩, hf4⟩
    have hsm := takeIn_small (s := s4) (l := l4) (by omega)
    rw [hsm] at ht4
    rw [← ht4]
    exact ⟨_, by simpa using hc4, hr4, hrb4⟩

theorem build_hash (w : World) : (Instr.build 145 #[(0, .agg (shaIv.map w32).toArray)]).run Go.Proofs.Try.prog w = .ok (.agg (hcells shaIv (.slice none 0 0) 0).toArray) w := by
  kernel_rfl

theorem build_rule {K : Env → World → Prop} {P : Program} {d T t : Nat} {v : Value} {parts : Array (Nat × Operand)} {e : Env} {w : World} {g : Tg K} {g' : Tg (Op.build T parts)} (hk : (opds e (parts.toList.map (·.2))).isSome = true)
    (hr : (Instr.build T (parts.map fun (i, x) => (i, evd e x))).run P w = .ok v w) (h : K ((d, v) :: e) w) : RawR K P (some d) (.build T parts) t e w g g' := by
  refine raw_value (v := v) (w' := w) hk ?_ h
  simp only [execOp, Sem.run_bind, hr, Result.andThen_ok, Sem.run_pure]

theorem takeIn_nil : takeIn shaIv [] = (shaIv, []) := takeIn_small (by simp)

theorem k104 {w : World} : Calls Go.Proofs.Try.prog 104 #[] w fun e w' => ∃ b, e = .returned (.pointer (some ⟨b, 0, none⟩)) ∧ b = w.heap.size ∧ Hs w.heap.size w'.heap b [] ∧ Ex w w' := by
  refine enter mo (args := []) Go.Proofs.Try.func104 c104 (by simp [x104]) ?_
  simp only [x104, env0]
  simp -dsimp (disch := first | omega | rfl | simp only [all_cons, all_nil, plain_w32, plain_w8, plain_w64, plain_ws, plain_int, plain_bool, plain_slice, plain_ptr, plain_map, plain_iface, Bool.and_self]) only [↓pre, ↓pre2, ↓pre3, ↓look_cons, ↓look_bnd, ↓look_bnd0, ↓opd_tmp, ↓opd_const, ↓ite_f, ↓ite_t, ↓reduceIte, post, post2, decide_true, decide_false, opds, Nat.reduceEqDiff, Nat.reduceAdd, Nat.zero_add, Nat.add_zero, Nat.mul_one, Int.toNat_natCast, Int.reduceToNat]
  refine build_rule (v := .agg (hcells shaIv (.slice none 0 0) 0).toArray) (by rfl) (by simp only [List.map_toArray, List.map_cons, List.map_nil]; exact build_hash w) ?_
  simp -dsimp (disch := first | omega | rfl | simp only [all_cons, all_nil, plain_w32, plain_w8, plain_w64, plain_ws, plain_int, plain_bool, plain_slice, plain_ptr, plain_map, plain_iface, Bool.and_self]) only [↓pre, ↓pre2, ↓pre3, ↓look_cons, ↓look_bnd, ↓look_bnd0, ↓opd_tmp, ↓opd_const, ↓ite_f, ↓ite_t, ↓reduceIte, post, post2, decide_true, decide_false, opds, Nat.reduceEqDiff, Nat.reduceAdd, Nat.zero_add, Nat.add_zero, Nat.mul_one, Int.toNat_natCast, Int.reduceToNat]
  refine box_rule fun b w1 hb hc he hs => ?_
  simp -dsimp (disch := first | omega | rfl | simp only [all_cons, all_nil, plain_w32, plain_w8, plain_w64, plain_ws, plain_int, plain_bool, plain_slice, plain_ptr, plain_map, plain_iface, Bool.and_self]) only [↓pre, ↓pre2, ↓pre3, ↓look_cons, ↓look_bnd, ↓look_bnd0, ↓opd_tmp, ↓opd_const, ↓ite_f, ↓ite_t, ↓reduceIte, post, post2, decide_true, decide_false, opds, Nat.reduceEqDiff, Nat.reduceAdd, Nat.zero_add, Nat.add_zero, Nat.mul_one, Int.toNat_natCast, Int.reduceToNat]
  refine ⟨b, rfl, hb, ⟨by omega, .slice none 0 0, ?_, ?_, by simp [Value.ownBlock]⟩, he⟩
  · rw [takeIn_nil]; simpa [Value.cells] using hc
  · rw [takeIn_nil]; exact New.nil _ _
end Go.Lk
