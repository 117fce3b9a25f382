/- The suite: boxes are opened. No statement of the seat is proved in this text. -/
import Derived.Test.YtofoamkiidkbkaaSuite3
set_option linter.unusedSimpArgs false
set_option linter.unusedVariables false
set_option linter.unusedSectionVars false
set_option linter.unnecessarySimpa false
set_option maxRecDepth 10000
set_option maxHeartbeats 1000000
namespace Go.Lk

/-- a number's eight bytes, the greatest first, as a signed number -/
def beI : List UInt8 → Int → Int
  | [], n => n
  | c :: r, n => beI r (IntKind.i64.wrap (n * 256) + c.toNat)

theorem wrap256 (n : Int) : ∃ m : Int, IntKind.i64.wrap (n * 256) = m * 256 ∧ -9223372036854775808 ≤ m * 256 ∧ m * 256 < 9223372036854775808 := by
  rw [IntKind.wrap_i64]
  exact ⟨(n + 36028797018963968) % 72057594037927936 - 36028797018963968, by omega, by omega, by omega⟩
theorem or_low (m : Int) (c : UInt8) (h1 : -9223372036854775808 ≤ m * 256) (h2 : m * 256 < 9223372036854775808) : binv .or (vi (m * 256)) (vi c.toNat) = some (vi (m * 256 + c.toNat)) := by
  have hc := c.toNat_lt
  show some (Value.int .i64 (IntKind.i64.wrap (BitVec.ofInt 64 (m * 256) ||| BitVec.ofInt 64 (c.toNat : Int)).toNat)) = _
  have hand : BitVec.ofInt 64 (m * 256) &&& BitVec.ofInt 64 (c.toNat : Int) = 0#64 := by
    apply BitVec.eq_of_getLsbD_eq
    intro i hi
    simp only [BitVec.getLsbD_and, BitVec.getLsbD_zero]
    by_cases hi8 : i < 8
    · have : (BitVec.ofInt 64 (m * 256)).getLsbD i = false := by
        have e : BitVec.ofInt 64 (m * 256) = BitVec.ofInt 64 m <<< 8 := by
          apply BitVec.eq_of_toInt_eq
          rw [BitVec.toInt_ofInt]
          simp only [BitVec.toInt_shiftLeft, BitVec.toNat_ofInt]
          rw [Int.bmod_def, Int.bmod_def]
          simp only [Nat.shiftLeft_eq]
          omega
        rw [e, BitVec.getLsbD_shiftLeft]
        simp [hi8]
      rw [this, Bool.false_and]
    · have : (BitVec.ofInt 64 (c.toNat : Int)).getLsbD i = false := by
        rw [BitVec.ofInt_natCast, BitVec.getLsbD_ofNat]
        have : c.toNat.testBit i = false := Nat.testBit_lt_two_pow (Nat.lt_of_lt_of_le hc (by
          have : 2 ^ 8 ≤ 2 ^ i := Nat.pow_le_pow_right (by omega) (by omega)
          omega))
        simp [this]
      rw [this, Bool.and_false]
  rw [← BitVec.add_eq_or_of_and_eq_zero _ _ hand, ← BitVec.ofInt_add, BitVec.toNat_ofInt]
  congr 2
  rw [IntKind.wrap_i64]
  omega

theorem neq_struct_rule {K : Env → World → Prop} {d T T' t : Nat} {P : Program} {x y : Operand} {a b : Thing} {e : Env} {w : World} {g : Tg K} {g' : Tg (Op.binOp .neq T x y T')}
    (hx : opd e x = some (tval a)) (hy : opd e y = some (tval b)) (hg : P.eqGuardType P.depth T = false) (heq : (Op.equalIn 10000 T (tval a) (tval b)).run P w = .ok (decide (a = b)) w)
    (h : K ((d, .bool (!decide (a = b))) :: e) w) : RawR K P (some d) (.binOp .neq T x y T') t e w g g' := by
  refine raw_value (v := .bool (!decide (a = b))) (w' := w) ?_ ?_ h
  · show (opds e [x, y]).isSome = true
    rw [opds_cons hx (opds_cons hy (opds_nil e))]; rfl
  · have h1 := run_eqGuard_agg (P := P) w .neq T x y (tcells a).toArray (tcells b).toArray hg
    have h2 := run_neq_struct (P := P) w T (tcells a).toArray (tcells b).toArray
    simp only [tval] at heq
    rw [heq] at h2
    simp only [execOp, evd_of hx, evd_of hy, Sem.run_bind, tval, h1, h2, Result.andThen_ok, Sem.run_pure]

theorem guard81 : Go.Proofs.Try.prog.eqGuardType Go.Proofs.Try.prog.depth 81 = false := by kernel_rfl

/-- what a box opens to -/
def openL (L : List Thing) (k n o b : List UInt8) : Option (List UInt8) :=
  if b.length < 16 then none
  else
    let z := beI (b.drop (b.length - 8)) 0
    if z < 1 ∨ z > L.length then none
    else
      let t := L.getD (z.toNat - 1) ⟨0, [], [], [], []⟩
      if t = ⟨66, k, n, t.text, o⟩ ∧ bxs z t.text.length = b then some t.text else none
def openO : Sst → List UInt8 → List UInt8 → List UInt8 → List UInt8 → Option (List UInt8)
  | .real _ _, k, n, o, b => aeadOpen k n o b
  | .signs L, k, n, o, b => openL L k n o b

theorem flat5 : ∀ (L : List Thing) (i j : Nat), i < L.length → j < 5 → (L.flatMap tcells)[i * 5 + j]? = (tcells (L.getD i ⟨0, [], [], [], []⟩))[j]?
  | [], i, j, h, _ => by simp at h
  | t :: r, 0, j, _, hj => by
    simp only [List.flatMap_cons, Nat.zero_mul, Nat.zero_add]
    rw [List.getElem?_append_left (by simpa [tcells] using hj)]
    rfl
  | t :: r, i + 1, j, h, hj => by
    simp only [List.flatMap_cons]
    rw [List.getElem?_append_right (by simp [tcells]; omega), show (i + 1) * 5 + j - (tcells t).length = i * 5 + j by simp [tcells]; omega]
    exact flat5 r i j (by simpa using h) hj

theorem k19 {w : World} {F : Nat → Prop} {b : Nat} {st : Sst} {kv nv ov bv : Value} {key nonce other box : List UInt8} (hs : Su w.heap F b st) (hk : Bs w.heap kv key) (hn : Bs w.heap nv nonce) (ho : Bs w.heap ov other) (hb : Bs w.heap bv box)
    (hol : other.length ≤ 1073741824) (hbl : box.length ≤ 1073741824) (hN : stN st ≤ 1073741824) (hT : ∀ L, st = .signs L → ∀ t ∈ L, t.text.length < 1099511627776) :
    Calls Go.Proofs.Try.prog 19 #[.pointer (some ⟨b, 0, none⟩), kv, nv, ov, bv] w fun e w' => ∃ u, e = .returned (.tuple #[u, vi (openErr (sized key nonce) (openO st key nonce other box))]) ∧
      New w.heap.size w'.heap u (openTxt (sized key nonce) (openO st key nonce other box)) ∧ Ex w w' := by
  obtain ⟨ak, ck, rfl, hck, hnk⟩ := hk.parts
  obtain ⟨an, cn, rfl, hcn, hnn⟩ := hn.parts
  obtain ⟨ab, cb, rfl, hcb, hnb⟩ := hb.parts
  refine enter mo (args := [.pointer (some ⟨b, 0, none⟩), .slice ak key.length ck, .slice an nonce.length cn, ov, .slice ab box.length cb]) Go.Proofs.Try.func19 c19 (by simp [x19]) ?_
  simp only [x19, env0]
  cases st with
  | real seed d =>
    obtain ⟨⟨sv, hc, hsb, hF, hoo⟩, hlt⟩ := id hs
    have c0 : w.cell? ⟨b, 0, none⟩ = some (.bool true) := hc.cell 0
    simp -dsimp (disch := first | omega | rfl | simp only [all_cons, all_nil, plain_w32, plain_w8, plain_w64, plain_ws, plain_int, plain_bool, plain_slice, plain_ptr, plain_map, plain_iface, Bool.and_self]) only [↓pre, ↓pre2, ↓pre3, ↓look_cons, ↓look_bnd, ↓look_bnd0, ↓opd_tmp, ↓opd_const, ↓ite_f, ↓ite_t, ↓reduceIte, post, post2, decide_true, decide_false, opds, Nat.reduceEqDiff, Nat.reduceAdd, Nat.zero_add, Nat.add_zero, Nat.mul_one, Int.toNat_natCast, Int.reduceToNat, c0]
    refine call_rule (k62 hk hn ho hb hol hbl) ?_
    rintro en w1 ⟨u, rfl, hn1, hx1⟩
    refine ⟨_, rfl, ?_⟩
    simp -dsimp (disch := first | omega | rfl | simp only [all_cons, all_nil, plain_w32, plain_w8, plain_w64, plain_ws, plain_int, plain_bool, plain_slice, plain_ptr, plain_map, plain_iface, Bool.and_self]) only [↓pre, ↓pre2, ↓pre3, ↓look_cons, ↓look_bnd, ↓look_bnd0, ↓opd_tmp, ↓opd_const, ↓ite_f, ↓ite_t, ↓reduceIte, post, post2, decide_true, decide_false, opds, Nat.reduceEqDiff, Nat.reduceAdd, Nat.zero_add, Nat.add_zero, Nat.mul_one, Int.toNat_natCast, Int.reduceToNat]
    exact ⟨u, rfl, hn1, hx1⟩
  | signs L =>
    obtain ⟨⟨lv, mb, hc, hnw, _⟩, hlt⟩ := id hs
    obtain ⟨al, cl, rfl, hcl⟩ := hnw.rd
    simp only [stN] at hN
    have c0 : w.cell? ⟨b, 0, none⟩ = some (.bool false) := hc.cell 0
    simp -dsimp (disch := first | omega | rfl | simp only [all_cons, all_nil, plain_w32, plain_w8, plain_w64, plain_ws, plain_int, plain_bool, plain_slice, plain_ptr, plain_map, plain_iface, Bool.and_self]) only [↓pre, ↓pre2, ↓pre3, ↓look_cons, ↓look_bnd, ↓look_bnd0, ↓opd_tmp, ↓opd_const, ↓ite_f, ↓ite_t, ↓reduceIte, post, post2, decide_true, decide_false, opds, Nat.reduceEqDiff, Nat.reduceAdd, Nat.zero_add, Nat.add_zero, Nat.mul_one, Int.toNat_natCast, Int.reduceToNat, c0]
    refine call_rule k52 ?_
    rintro en w1 ⟨rfl, hx1⟩
    refine ⟨_, rfl, ?_⟩
    rw [show decide (key.length = 32 ∧ nonce.length = 12) = sized key nonce from rfl]
    by_cases hz : sized key nonce = true
    · simp only [hz]
      simp only [openO, openL]
      by_cases h16 : box.length < 16
      · rw [if_pos h16]
        simp -dsimp (disch := first | omega | rfl | simp only [all_cons, all_nil, plain_w32, plain_w8, plain_w64, plain_ws, plain_int, plain_bool, plain_slice, plain_ptr, plain_map, plain_iface, Bool.and_self]) only [↓pre, ↓pre2, ↓pre3, ↓look_cons, ↓look_bnd, ↓look_bnd0, ↓opd_tmp, ↓opd_const, ↓ite_f, ↓ite_t, ↓reduceIte, post, post2, decide_true, decide_false, opds, Nat.reduceEqDiff, Nat.reduceAdd, Nat.zero_add, Nat.add_zero, Nat.mul_one, Int.toNat_natCast, Int.reduceToNat, dec_t, dec_f]
        exact ⟨_, by first | (simp [openErr]; done) | (simp [openErr]; rfl), New.nil _ _, hx1⟩
      · rw [if_neg h16]
        simp -dsimp (disch := first | omega | rfl | simp only [all_cons, all_nil, plain_w32, plain_w8, plain_w64, plain_ws, plain_int, plain_bool, plain_slice, plain_ptr, plain_map, plain_iface, Bool.and_self]) only [↓pre, ↓pre2, ↓pre3, ↓look_cons, ↓look_bnd, ↓look_bnd0, ↓opd_tmp, ↓opd_const, ↓ite_f, ↓ite_t, ↓reduceIte, post, post2, decide_true, decide_false, opds, Nat.reduceEqDiff, Nat.reduceAdd, Nat.zero_add, Nat.add_zero, Nat.mul_one, Int.toNat_natCast, Int.reduceToNat, dec_t, dec_f]
        refine sl_rule (m := cb) (h := box.length) (l := box.length - 8) rfl rfl (by rw [bnd_ok (i := (box.length : Int) - 8) rfl (by omega) (by omega)]; congr 1; omega) ?_
        simp -dsimp (disch := first | omega | rfl | simp only [all_cons, all_nil, plain_w32, plain_w8, plain_w64, plain_ws, plain_int, plain_bool, plain_slice, plain_ptr, plain_map, plain_iface, Bool.and_self]) only [↓pre, ↓pre2, ↓pre3, ↓look_cons, ↓look_bnd, ↓look_bnd0, ↓opd_tmp, ↓opd_const, ↓ite_f, ↓ite_t, ↓reduceIte, post, post2, decide_true, decide_false, opds, Nat.reduceEqDiff, Nat.reduceAdd, Nat.zero_add, Nat.add_zero, Nat.mul_one, Int.toNat_natCast, Int.reduceToNat]
        obtain ⟨b0, o0, rfl⟩ := hnb (by intro h; subst h; simp at h16)
        have hcut := hb.cut (lo := box.length - 8) (hi := box.length) (m := cb) (by omega) (by omega) (by omega)
        rw [List.take_length] at hcut
        have hl8 : (box.drop (box.length - 8)).length = 8 := by simp; omega
        generalize hdr : box.drop (box.length - 8) = d8 at hcut hl8 ⊢
        have e8 : box.length - (box.length - 8) = 8 := by omega
        have hcv : cutv 1 (box.length - 8) box.length cb (some ⟨b0, o0, none⟩) = .slice (some ⟨b0, o0 + (box.length - 8), none⟩) 8 (cb - (box.length - 8)) := by
          unfold cutv; rw [if_neg (by omega), e8]; simp [add_addr]
        rw [hcv] at hcut ⊢
        simp -dsimp (disch := first | omega | rfl | simp only [all_cons, all_nil, plain_w32, plain_w8, plain_w64, plain_ws, plain_int, plain_bool, plain_slice, plain_ptr, plain_map, plain_iface, Bool.and_self]) only [↓pre, ↓pre2, ↓pre3, ↓look_cons, ↓look_bnd, ↓look_bnd0, ↓opd_tmp, ↓opd_const, ↓ite_f, ↓ite_t, ↓reduceIte, post, post2, decide_true, decide_false, opds, Nat.reduceEqDiff, Nat.reduceAdd, Nat.zero_add, Nat.add_zero, Nat.mul_one, Int.toNat_natCast, Int.reduceToNat]
        refine loop_rule (fun k : Nat × Int => [(43, vi k.1), (42, vi 8), (41, .slice (some ⟨b0, o0 + (box.length - 8), none⟩) 8 (cb - (box.length - 8))), (12, vi k.2), (0, .pointer (some ⟨b, 0, none⟩)), (1, .slice ak key.length ck), (2, .slice an nonce.length cn), (3, ov), (4, .slice (some ⟨b0, o0, none⟩) box.length cb)])
          (fun k v => k.1 ≤ 8 ∧ beI (d8.drop k.1) k.2 = beI d8 0 ∧ Ex w v) (fun k => 8 - k.1) (0, 0) (by simp [sub, look, bnd, add_addr]) ⟨by simp, by simp, hx1⟩ ?_
        rintro ⟨k, z⟩ v ⟨hk8, hbe, hE⟩
        simp only at hk8 hbe
        simp -dsimp (disch := first | omega | rfl | simp only [all_cons, all_nil, plain_w32, plain_w8, plain_w64, plain_ws, plain_int, plain_bool, plain_slice, plain_ptr, plain_map, plain_iface, Bool.and_self]) only [↓pre, ↓pre2, ↓pre3, ↓look_cons, ↓look_bnd, ↓look_bnd0, ↓opd_tmp, ↓opd_const, ↓ite_f, ↓ite_t, ↓reduceIte, post, post2, decide_true, decide_false, opds, Nat.reduceEqDiff, Nat.reduceAdd, Nat.zero_add, Nat.add_zero, Nat.mul_one, Int.toNat_natCast, Int.reduceToNat]
        refine cond_dec (fun hlt8 => ?_) (fun hge8 => ?_)
        · have hk9 : k < 8 := by omega
          obtain ⟨m, hm, hm1, hm2⟩ := wrap256 z
          have hsh : binv .shl (vi z) (w64 8#64) = some (vi (IntKind.i64.wrap (z * 256))) := rfl
          have hor := or_low m (d8.getD k 0) hm1 hm2
          simp -dsimp (disch := first | omega | rfl | simp only [all_cons, all_nil, plain_w32, plain_w8, plain_w64, plain_ws, plain_int, plain_bool, plain_slice, plain_ptr, plain_map, plain_iface, Bool.and_self]) only [↓pre, ↓pre2, ↓pre3, ↓look_cons, ↓look_bnd, ↓look_bnd0, ↓opd_tmp, ↓opd_const, ↓ite_f, ↓ite_t, ↓reduceIte, post, post2, decide_true, decide_false, opds, Nat.reduceEqDiff, Nat.reduceAdd, Nat.zero_add, Nat.add_zero, Nat.mul_one, Int.toNat_natCast, Int.reduceToNat, (hcut.ex hE).at, hsh, hm, hor]
          refine ⟨(k + 1, m * 256 + (d8.getD k 0).toNat), by simp [sub, look, bnd, add_addr], ⟨by simp only; omega, ?_, hE⟩, by simp only; omega⟩
          simp only
          rw [List.drop_eq_getElem_cons (by omega)] at hbe
          simp only [beI, hm] at hbe
          rw [← hbe]
          simp [List.getD, show k < d8.length by omega]
        · have hk9 : k = 8 := by omega
          subst hk9
          rw [List.drop_eq_nil_of_le (by omega)] at hbe
          simp only [beI] at hbe
          rw [← hbe]
          clear hbe
          have C3 : v.cell? ⟨b, 3, none⟩ = some (.slice al L.length cl) := (hc.ex hE).cell 3
          by_cases hz1 : z < 1
          · rw [if_pos (.inl hz1)]
            simp -dsimp (disch := first | omega | rfl | simp only [all_cons, all_nil, plain_w32, plain_w8, plain_w64, plain_ws, plain_int, plain_bool, plain_slice, plain_ptr, plain_map, plain_iface, Bool.and_self]) only [↓pre, ↓pre2, ↓pre3, ↓look_cons, ↓look_bnd, ↓look_bnd0, ↓opd_tmp, ↓opd_const, ↓ite_f, ↓ite_t, ↓reduceIte, post, post2, decide_true, decide_false, opds, Nat.reduceEqDiff, Nat.reduceAdd, Nat.zero_add, Nat.add_zero, Nat.mul_one, Int.toNat_natCast, Int.reduceToNat, dec_t, dec_f]
            exact ⟨_, by first | (simp [openErr]; done) | (simp [openErr]; rfl), New.nil _ _, hE⟩
          · by_cases hz2 : (L.length : Int) < z
            · rw [if_pos (.inr hz2)]
              simp -dsimp (disch := first | omega | rfl | simp only [all_cons, all_nil, plain_w32, plain_w8, plain_w64, plain_ws, plain_int, plain_bool, plain_slice, plain_ptr, plain_map, plain_iface, Bool.and_self]) only [↓pre, ↓pre2, ↓pre3, ↓look_cons, ↓look_bnd, ↓look_bnd0, ↓opd_tmp, ↓opd_const, ↓ite_f, ↓ite_t, ↓reduceIte, post, post2, decide_true, decide_false, opds, Nat.reduceEqDiff, Nat.reduceAdd, Nat.zero_add, Nat.add_zero, Nat.mul_one, Int.toNat_natCast, Int.reduceToNat, dec_t, dec_f, C3]
              exact ⟨_, by first | (simp [openErr]; done) | (simp [openErr]; rfl), New.nil _ _, hE⟩
            · rw [if_neg (fun h => h.elim hz1 hz2)]
              simp -dsimp (disch := first | omega | rfl | simp only [all_cons, all_nil, plain_w32, plain_w8, plain_w64, plain_ws, plain_int, plain_bool, plain_slice, plain_ptr, plain_map, plain_iface, Bool.and_self]) only [↓pre, ↓pre2, ↓pre3, ↓look_cons, ↓look_bnd, ↓look_bnd0, ↓opd_tmp, ↓opd_const, ↓ite_f, ↓ite_t, ↓reduceIte, post, post2, decide_true, decide_false, opds, Nat.reduceEqDiff, Nat.reduceAdd, Nat.zero_add, Nat.add_zero, Nat.mul_one, Int.toNat_natCast, Int.reduceToNat, dec_t, dec_f, C3]
              obtain ⟨i, hi⟩ : ∃ i : Nat, z = (i : Int) + 1 := ⟨(z - 1).toNat, by omega⟩
              subst hi
              have hiL : i < L.length := by omega
              rw [show ((i : Int) + 1).toNat - 1 = i by omega]
              obtain ⟨t, ht⟩ : ∃ t, t = L.getD i ⟨0, [], [], [], []⟩ := ⟨_, rfl⟩
              have htL : t ∈ L := by rw [ht]; simp [List.getD, hiL]
              have htl := hT L rfl t htL
              rw [← ht]
              obtain ⟨bl, ol, rfl, _⟩ := hcl.2.2 (by omega)
              have e1 : ((i : Int) + 1 - 1).toNat = i := by omega
              simp -dsimp (disch := first | omega | rfl | simp only [all_cons, all_nil, plain_w32, plain_w8, plain_w64, plain_ws, plain_int, plain_bool, plain_slice, plain_ptr, plain_map, plain_iface, Bool.and_self]) only [↓pre, ↓pre2, ↓pre3, ↓look_cons, ↓look_bnd, ↓look_bnd0, ↓opd_tmp, ↓opd_const, ↓ite_f, ↓ite_t, ↓reduceIte, post, post2, decide_true, decide_false, opds, Nat.reduceEqDiff, Nat.reduceAdd, Nat.zero_add, Nat.add_zero, Nat.mul_one, Int.toNat_natCast, Int.reduceToNat, e1]
              have hcell : ∀ j, j < 5 → v.cell? ⟨bl, ol + i * 5 + j, none⟩ = (tcells t)[j]? := fun j hj => by
                have := Rd.cell (hnw.rd.ex hE) (i := i * 5 + j) (by omega)
                rw [← Nat.add_assoc] at this
                rw [this, flat5 L i j hiL hj, ht]
              refine lda_rule (tcells t) rfl hcell ?_
              simp -dsimp (disch := first | omega | rfl | simp only [all_cons, all_nil, plain_w32, plain_w8, plain_w64, plain_ws, plain_int, plain_bool, plain_slice, plain_ptr, plain_map, plain_iface, Bool.and_self]) only [↓pre, ↓pre2, ↓pre3, ↓look_cons, ↓look_bnd, ↓look_bnd0, ↓opd_tmp, ↓opd_const, ↓ite_f, ↓ite_t, ↓reduceIte, post, post2, decide_true, decide_false, opds, Nat.reduceEqDiff, Nat.reduceAdd, Nat.zero_add, Nat.add_zero, Nat.mul_one, Int.toNat_natCast, Int.reduceToNat]
              refine alloc_rule (z := tcells ⟨0, [], [], [], []⟩) (by kernel_rfl) fun b15 w3 hb15 hc15 he3 hs3 => ?_
              simp -dsimp (disch := first | omega | rfl | simp only [all_cons, all_nil, plain_w32, plain_w8, plain_w64, plain_ws, plain_int, plain_bool, plain_slice, plain_ptr, plain_map, plain_iface, Bool.and_self]) only [↓pre, ↓pre2, ↓pre3, ↓look_cons, ↓look_bnd, ↓look_bnd0, ↓opd_tmp, ↓opd_const, ↓ite_f, ↓ite_t, ↓reduceIte, post, post2, decide_true, decide_false, opds, Nat.reduceEqDiff, Nat.reduceAdd, Nat.zero_add, Nat.add_zero, Nat.mul_one, Int.toNat_natCast, Int.reduceToNat]
              refine stores_all (cs := tcells t) hc15 (by simp [Value.cells]) rfl rfl rfl fun w4 hc4 hf4 hs4 => ?_
              have hE4 : Ex v w4 := Ex.young he3 hf4 (by omega)
              have hE4w := hE.trans hE4
              simp -dsimp (disch := first | omega | rfl | simp only [all_cons, all_nil, plain_w32, plain_w8, plain_w64, plain_ws, plain_int, plain_bool, plain_slice, plain_ptr, plain_map, plain_iface, Bool.and_self]) only [↓pre, ↓pre2, ↓pre3, ↓look_cons, ↓look_bnd, ↓look_bnd0, ↓opd_tmp, ↓opd_const, ↓ite_f, ↓ite_t, ↓reduceIte, post, post2, decide_true, decide_false, opds, Nat.reduceEqDiff, Nat.reduceAdd, Nat.zero_add, Nat.add_zero, Nat.mul_one, Int.toNat_natCast, Int.reduceToNat]
              refine par_ex ?_
              simp -dsimp (disch := first | omega | rfl | simp only [all_cons, all_nil, plain_w32, plain_w8, plain_w64, plain_ws, plain_int, plain_bool, plain_slice, plain_ptr, plain_map, plain_iface, Bool.and_self]) only [↓pre, ↓pre2, ↓pre3, ↓look_cons, ↓look_bnd, ↓look_bnd0, ↓opd_tmp, ↓opd_const, ↓ite_f, ↓ite_t, ↓reduceIte, post, post2, decide_true, decide_false, opds, Nat.reduceEqDiff, Nat.reduceAdd, Nat.zero_add, Nat.add_zero, Nat.mul_one, Int.toNat_natCast, Int.reduceToNat]
              refine lda_cw (w := w4.drew) hc4 rfl ?_
              simp -dsimp (disch := first | omega | rfl | simp only [all_cons, all_nil, plain_w32, plain_w8, plain_w64, plain_ws, plain_int, plain_bool, plain_slice, plain_ptr, plain_map, plain_iface, Bool.and_self]) only [↓pre, ↓pre2, ↓pre3, ↓look_cons, ↓look_bnd, ↓look_bnd0, ↓opd_tmp, ↓opd_const, ↓ite_f, ↓ite_t, ↓reduceIte, post, post2, decide_true, decide_false, opds, Nat.reduceEqDiff, Nat.reduceAdd, Nat.zero_add, Nat.add_zero, Nat.mul_one, Int.toNat_natCast, Int.reduceToNat]
              refine b2s_rule (w := w4.drew) (hk.ex hE4w.drew) ?_
              simp -dsimp (disch := first | omega | rfl | simp only [all_cons, all_nil, plain_w32, plain_w8, plain_w64, plain_ws, plain_int, plain_bool, plain_slice, plain_ptr, plain_map, plain_iface, Bool.and_self]) only [↓pre, ↓pre2, ↓pre3, ↓look_cons, ↓look_bnd, ↓look_bnd0, ↓opd_tmp, ↓opd_const, ↓ite_f, ↓ite_t, ↓reduceIte, post, post2, decide_true, decide_false, opds, Nat.reduceEqDiff, Nat.reduceAdd, Nat.zero_add, Nat.add_zero, Nat.mul_one, Int.toNat_natCast, Int.reduceToNat]
              refine b2s_rule (w := w4.drew) (hn.ex hE4w.drew) ?_
              have c153 : w4.drew.cell? ⟨b15, 3, none⟩ = some (ws t.text) := Cw.cell (w := w4.drew) hc4 3
              simp -dsimp (disch := first | omega | rfl | simp only [all_cons, all_nil, plain_w32, plain_w8, plain_w64, plain_ws, plain_int, plain_bool, plain_slice, plain_ptr, plain_map, plain_iface, Bool.and_self]) only [↓pre, ↓pre2, ↓pre3, ↓look_cons, ↓look_bnd, ↓look_bnd0, ↓opd_tmp, ↓opd_const, ↓ite_f, ↓ite_t, ↓reduceIte, post, post2, decide_true, decide_false, opds, Nat.reduceEqDiff, Nat.reduceAdd, Nat.zero_add, Nat.add_zero, Nat.mul_one, Int.toNat_natCast, Int.reduceToNat, c153]
              refine b2s_rule (w := w4.drew) (ho.ex hE4w.drew) ?_
              simp -dsimp (disch := first | omega | rfl | simp only [all_cons, all_nil, plain_w32, plain_w8, plain_w64, plain_ws, plain_int, plain_bool, plain_slice, plain_ptr, plain_map, plain_iface, Bool.and_self]) only [↓pre, ↓pre2, ↓pre3, ↓look_cons, ↓look_bnd, ↓look_bnd0, ↓opd_tmp, ↓opd_const, ↓ite_f, ↓ite_t, ↓reduceIte, post, post2, decide_true, decide_false, opds, Nat.reduceEqDiff, Nat.reduceAdd, Nat.zero_add, Nat.add_zero, Nat.mul_one, Int.toNat_natCast, Int.reduceToNat]
              refine neq_struct_rule (a := t) (b := ⟨66, key, nonce, t.text, other⟩) rfl rfl guard81 (eqT 9998 _ _ _) ?_
              by_cases hteq : t = ⟨66, key, nonce, t.text, other⟩
              · simp -dsimp (disch := first | omega | rfl | simp only [all_cons, all_nil, plain_w32, plain_w8, plain_w64, plain_ws, plain_int, plain_bool, plain_slice, plain_ptr, plain_map, plain_iface, Bool.and_self]) only [↓pre, ↓pre2, ↓pre3, ↓look_cons, ↓look_bnd, ↓look_bnd0, ↓opd_tmp, ↓opd_const, ↓ite_f, ↓ite_t, ↓reduceIte, post, post2, decide_true, decide_false, opds, Nat.reduceEqDiff, Nat.reduceAdd, Nat.zero_add, Nat.add_zero, Nat.mul_one, Int.toNat_natCast, Int.reduceToNat, dec_t, dec_f, c153]
                refine b2s_rule (w := w4.drew) (hb.ex hE4w.drew) ?_
                simp -dsimp (disch := first | omega | rfl | simp only [all_cons, all_nil, plain_w32, plain_w8, plain_w64, plain_ws, plain_int, plain_bool, plain_slice, plain_ptr, plain_map, plain_iface, Bool.and_self]) only [↓pre, ↓pre2, ↓pre3, ↓look_cons, ↓look_bnd, ↓look_bnd0, ↓opd_tmp, ↓opd_const, ↓ite_f, ↓ite_t, ↓reduceIte, post, post2, decide_true, decide_false, opds, Nat.reduceEqDiff, Nat.reduceAdd, Nat.zero_add, Nat.add_zero, Nat.mul_one, Int.toNat_natCast, Int.reduceToNat]
                refine call_rule (k54 ((i : Int) + 1) t.text.length htl) ?_
                rintro en w5 ⟨u5, rfl, hn5, hx5⟩
                refine ⟨_, rfl, keep_yes hx5 ?_⟩
                simp -dsimp (disch := first | omega | rfl | simp only [all_cons, all_nil, plain_w32, plain_w8, plain_w64, plain_ws, plain_int, plain_bool, plain_slice, plain_ptr, plain_map, plain_iface, Bool.and_self]) only [↓pre, ↓pre2, ↓pre3, ↓look_cons, ↓look_bnd, ↓look_bnd0, ↓opd_tmp, ↓opd_const, ↓ite_f, ↓ite_t, ↓reduceIte, post, post2, decide_true, decide_false, opds, Nat.reduceEqDiff, Nat.reduceAdd, Nat.zero_add, Nat.add_zero, Nat.mul_one, Int.toNat_natCast, Int.reduceToNat]
                refine b2s_rule hn5.bs ?_
                simp -dsimp (disch := first | omega | rfl | simp only [all_cons, all_nil, plain_w32, plain_w8, plain_w64, plain_ws, plain_int, plain_bool, plain_slice, plain_ptr, plain_map, plain_iface, Bool.and_self]) only [↓pre, ↓pre2, ↓pre3, ↓look_cons, ↓look_bnd, ↓look_bnd0, ↓opd_tmp, ↓opd_const, ↓ite_f, ↓ite_t, ↓reduceIte, post, post2, decide_true, decide_false, opds, Nat.reduceEqDiff, Nat.reduceAdd, Nat.zero_add, Nat.add_zero, Nat.mul_one, Int.toNat_natCast, Int.reduceToNat]
                have hneq : binv .neq (ws (bxs ((i : Int) + 1) t.text.length)) (ws box) = some (.bool (!decide (bxs ((i : Int) + 1) t.text.length = box))) := by
                  show some (Value.bool (!((ByteArray.mk _).toList == (ByteArray.mk _).toList))) = _
                  rw [ws_toList, ws_toList]
                  congr 3
                  by_cases h : bxs ((i : Int) + 1) t.text.length = box <;> simp [h]
                have hE5 := (hE4w.drew).trans hx5
                simp -dsimp (disch := first | omega | rfl | simp only [all_cons, all_nil, plain_w32, plain_w8, plain_w64, plain_ws, plain_int, plain_bool, plain_slice, plain_ptr, plain_map, plain_iface, Bool.and_self]) only [↓pre, ↓pre2, ↓pre3, ↓look_cons, ↓look_bnd, ↓look_bnd0, ↓opd_tmp, ↓opd_const, ↓ite_f, ↓ite_t, ↓reduceIte, post, post2, decide_true, decide_false, opds, Nat.reduceEqDiff, Nat.reduceAdd, Nat.zero_add, Nat.add_zero, Nat.mul_one, Int.toNat_natCast, Int.reduceToNat, hneq]
                refine cond_ndec (fun hne => ?_) (fun heq => ?_)
                · rw [if_neg (fun h => hne h.2)]
                  simp -dsimp (disch := first | omega | rfl | simp only [all_cons, all_nil, plain_w32, plain_w8, plain_w64, plain_ws, plain_int, plain_bool, plain_slice, plain_ptr, plain_map, plain_iface, Bool.and_self]) only [↓pre, ↓pre2, ↓pre3, ↓look_cons, ↓look_bnd, ↓look_bnd0, ↓opd_tmp, ↓opd_const, ↓ite_f, ↓ite_t, ↓reduceIte, post, post2, decide_true, decide_false, opds, Nat.reduceEqDiff, Nat.reduceAdd, Nat.zero_add, Nat.add_zero, Nat.mul_one, Int.toNat_natCast, Int.reduceToNat]
                  exact ⟨_, by first | (simp [openErr]; done) | (simp [openErr]; rfl), New.nil _ _, hE5⟩
                · rw [if_pos ⟨hteq, heq⟩]
                  have c153' : w5.cell? ⟨b15, 3, none⟩ = some (ws t.text) := (Cw.ex (w := w4.drew) hc4 hx5).cell 3
                  simp -dsimp (disch := first | omega | rfl | simp only [all_cons, all_nil, plain_w32, plain_w8, plain_w64, plain_ws, plain_int, plain_bool, plain_slice, plain_ptr, plain_map, plain_iface, Bool.and_self]) only [↓pre, ↓pre2, ↓pre3, ↓look_cons, ↓look_bnd, ↓look_bnd0, ↓opd_tmp, ↓opd_const, ↓ite_f, ↓ite_t, ↓reduceIte, post, post2, decide_true, decide_false, opds, Nat.reduceEqDiff, Nat.reduceAdd, Nat.zero_add, Nat.add_zero, Nat.mul_one, Int.toNat_natCast, Int.reduceToNat, c153']
                  refine s2b_rule und9 und22 und8 rfl fun v6 w6 hn6 he6 hb6 => ?_
                  simp -dsimp (disch := first | omega | rfl | simp only [all_cons, all_nil, plain_w32, plain_w8, plain_w64, plain_ws, plain_int, plain_bool, plain_slice, plain_ptr, plain_map, plain_iface, Bool.and_self]) only [↓pre, ↓pre2, ↓pre3, ↓look_cons, ↓look_bnd, ↓look_bnd0, ↓opd_tmp, ↓opd_const, ↓ite_f, ↓ite_t, ↓reduceIte, post, post2, decide_true, decide_false, opds, Nat.reduceEqDiff, Nat.reduceAdd, Nat.zero_add, Nat.add_zero, Nat.mul_one, Int.toNat_natCast, Int.reduceToNat]
                  exact ⟨_, by first | (simp [openErr]; done) | (simp [openErr]; rfl), hn6.mono hE5.size, hE5.trans he6⟩
              · rw [if_neg (fun h => hteq h.1)]
                simp -dsimp (disch := first | omega | rfl | simp only [all_cons, all_nil, plain_w32, plain_w8, plain_w64, plain_ws, plain_int, plain_bool, plain_slice, plain_ptr, plain_map, plain_iface, Bool.and_self]) only [↓pre, ↓pre2, ↓pre3, ↓look_cons, ↓look_bnd, ↓look_bnd0, ↓opd_tmp, ↓opd_const, ↓ite_f, ↓ite_t, ↓reduceIte, post, post2, decide_true, decide_false, opds, Nat.reduceEqDiff, Nat.reduceAdd, Nat.zero_add, Nat.add_zero, Nat.mul_one, Int.toNat_natCast, Int.reduceToNat, dec_t, dec_f]
                refine keep_yes (Fr.refl _) ?_
                simp -dsimp (disch := first | omega | rfl | simp only [all_cons, all_nil, plain_w32, plain_w8, plain_w64, plain_ws, plain_int, plain_bool, plain_slice, plain_ptr, plain_map, plain_iface, Bool.and_self]) only [↓pre, ↓pre2, ↓pre3, ↓look_cons, ↓look_bnd, ↓look_bnd0, ↓opd_tmp, ↓opd_const, ↓ite_f, ↓ite_t, ↓reduceIte, post, post2, decide_true, decide_false, opds, Nat.reduceEqDiff, Nat.reduceAdd, Nat.zero_add, Nat.add_zero, Nat.mul_one, Int.toNat_natCast, Int.reduceToNat]
                exact ⟨_, by first | (simp [openErr]; done) | (simp [openErr]; rfl), New.nil _ _, hE4w.drew⟩
    · have hz' : sized key nonce = false := by simpa using hz
      simp only [hz']
      simp -dsimp (disch := first | omega | rfl | simp only [all_cons, all_nil, plain_w32, plain_w8, plain_w64, plain_ws, plain_int, plain_bool, plain_slice, plain_ptr, plain_map, plain_iface, Bool.and_self]) only [↓pre, ↓pre2, ↓pre3, ↓look_cons, ↓look_bnd, ↓look_bnd0, ↓opd_tmp, ↓opd_const, ↓ite_f, ↓ite_t, ↓reduceIte, post, post2, decide_true, decide_false, opds, Nat.reduceEqDiff, Nat.reduceAdd, Nat.zero_add, Nat.add_zero, Nat.mul_one, Int.toNat_natCast, Int.reduceToNat]
      exact ⟨_, by first | (simp [openErr]; done) | (simp [openErr]; rfl), New.nil _ _, hx1⟩
end Go.Lk
