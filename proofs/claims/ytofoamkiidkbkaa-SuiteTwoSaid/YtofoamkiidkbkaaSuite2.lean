/- The suite: what is known already, sums, codes, keys. No statement of the seat is proved in this text. -/
import Derived.Test.YtofoamkiidkbkaaSuite
set_option linter.unusedSimpArgs false
set_option linter.unusedVariables false
set_option linter.unusedSectionVars false
set_option linter.unnecessarySimpa false
set_option maxRecDepth 10000
set_option maxHeartbeats 1000000
namespace Go.Lk

theorem map75 : Go.Proofs.Try.prog.underlying 75 = some (.map 81 3) := by kernel_rfl
theorem zero3 : (Go.Proofs.Try.prog.info? 3).bind (·.zero) = some (vi 0) := by kernel_rfl

/-- once: the number, and the list -/
def onceL (L : List Thing) (t : Thing) : List Thing := match thIdx t L 1 with | some _ => L | none => L ++ [t]
def onceN (L : List Thing) (t : Thing) : Nat := match thIdx t L 1 with | some n => n | none => L.length + 1

theorem k59 {w : World} {F : Nat → Prop} {b : Nat} {L : List Thing} (t : Thing) (ht : t.sort = 72 ∨ t.sort = 77) (hs : SuG w.heap F b L (known L 1)) (hL : L.length ≤ 1073741824) :
    Calls Go.Proofs.Try.prog 59 #[.pointer (some ⟨b, 0, none⟩), tval t] w fun e w' => e = .returned (vi (onceN L t)) ∧ ∃ F' : Nat → Prop, SuG w'.heap F' b (onceL L t) (known (onceL L t) 1) ∧ Fr F w w' ∧ ∀ k, F' k → F k ∨ w.heap.size ≤ k := by
  have hs0 := hs
  obtain ⟨⟨lv, mb, hc, hn, hm, hb, hmb, hne, ho⟩, hlt⟩ := hs
  refine enter mo (args := [.pointer (some ⟨b, 0, none⟩), tval t]) Go.Proofs.Try.func59 c59 (by simp [x59]) ?_
  simp only [x59, env0]
  simp -dsimp (disch := first | omega | rfl | simp only [all_cons, all_nil, plain_w32, plain_w8, plain_w64, plain_ws, plain_int, plain_bool, plain_slice, plain_ptr, plain_map, plain_iface, Bool.and_self]) only [↓pre, ↓pre2, ↓pre3, ↓look_cons, ↓look_bnd, ↓look_bnd0, ↓opd_tmp, ↓opd_const, ↓ite_f, ↓ite_t, ↓reduceIte, post, post2, decide_true, decide_false, opds, Nat.reduceEqDiff, Nat.reduceAdd, Nat.zero_add, Nat.add_zero, Nat.mul_one, Int.toNat_natCast, Int.reduceToNat]
  refine box_rule fun b3 w1 hb3 hc3 he1 hs1 => ?_
  have C3 : Cw w1.heap b3 (tcells t) := hc3
  simp -dsimp (disch := first | omega | rfl | simp only [all_cons, all_nil, plain_w32, plain_w8, plain_w64, plain_ws, plain_int, plain_bool, plain_slice, plain_ptr, plain_map, plain_iface, Bool.and_self]) only [↓pre, ↓pre2, ↓pre3, ↓look_cons, ↓look_bnd, ↓look_bnd0, ↓opd_tmp, ↓opd_const, ↓ite_f, ↓ite_t, ↓reduceIte, post, post2, decide_true, decide_false, opds, Nat.reduceEqDiff, Nat.reduceAdd, Nat.zero_add, Nat.add_zero, Nat.mul_one, Int.toNat_natCast, Int.reduceToNat]
  refine par_ex ?_
  have c4 : w1.drew.cell? ⟨b, 4, none⟩ = some (.map (some mb)) := (hc.ex he1.drew).cell 4
  simp -dsimp (disch := first | omega | rfl | simp only [all_cons, all_nil, plain_w32, plain_w8, plain_w64, plain_ws, plain_int, plain_bool, plain_slice, plain_ptr, plain_map, plain_iface, Bool.and_self]) only [↓pre, ↓pre2, ↓pre3, ↓look_cons, ↓look_bnd, ↓look_bnd0, ↓opd_tmp, ↓opd_const, ↓ite_f, ↓ite_t, ↓reduceIte, post, post2, decide_true, decide_false, opds, Nat.reduceEqDiff, Nat.reduceAdd, Nat.zero_add, Nat.add_zero, Nat.mul_one, Int.toNat_natCast, Int.reduceToNat, c4]
  refine lda_cw (w := w1.drew) C3 rfl ?_
  simp -dsimp (disch := first | omega | rfl | simp only [all_cons, all_nil, plain_w32, plain_w8, plain_w64, plain_ws, plain_int, plain_bool, plain_slice, plain_ptr, plain_map, plain_iface, Bool.and_self]) only [↓pre, ↓pre2, ↓pre3, ↓look_cons, ↓look_bnd, ↓look_bnd0, ↓opd_tmp, ↓opd_const, ↓ite_f, ↓ite_t, ↓reduceIte, post, post2, decide_true, decide_false, opds, Nat.reduceEqDiff, Nat.reduceAdd, Nat.zero_add, Nat.add_zero, Nat.mul_one, Int.toNat_natCast, Int.reduceToNat]
  have hg := getA_known ht L 1 0
  have hgA : getA t (known L 1) = (thIdx t L 1).map fun n : Nat => vi (n : Int) := hg
  unfold onceN onceL
  cases hti : thIdx t L 1 with
  | some n =>
    rw [hti, Option.map_some] at hgA
    refine lookup_some (a := t) keyT_thing map75 zero3 rfl rfl (Mp.ex hm (Ex.drew he1)) hgA ?_
    simp -dsimp (disch := first | omega | rfl | simp only [all_cons, all_nil, plain_w32, plain_w8, plain_w64, plain_ws, plain_int, plain_bool, plain_slice, plain_ptr, plain_map, plain_iface, Bool.and_self]) only [↓pre, ↓pre2, ↓pre3, ↓look_cons, ↓look_bnd, ↓look_bnd0, ↓opd_tmp, ↓opd_const, ↓ite_f, ↓ite_t, ↓reduceIte, post, post2, decide_true, decide_false, opds, Nat.reduceEqDiff, Nat.reduceAdd, Nat.zero_add, Nat.add_zero, Nat.mul_one, Int.toNat_natCast, Int.reduceToNat]
    exact ⟨by trivial, F, hs0.ex' he1.drew, (he1.drew).to, fun k hk => .inl hk⟩
  | none =>
    rw [hti, Option.map_none] at hgA
    refine lookup_none (a := t) keyT_thing map75 zero3 rfl rfl (Mp.ex hm (Ex.drew he1)) hgA ?_
    simp -dsimp (disch := first | omega | rfl | simp only [all_cons, all_nil, plain_w32, plain_w8, plain_w64, plain_ws, plain_int, plain_bool, plain_slice, plain_ptr, plain_map, plain_iface, Bool.and_self]) only [↓pre, ↓pre2, ↓pre3, ↓look_cons, ↓look_bnd, ↓look_bnd0, ↓opd_tmp, ↓opd_const, ↓ite_f, ↓ite_t, ↓reduceIte, post, post2, decide_true, decide_false, opds, Nat.reduceEqDiff, Nat.reduceAdd, Nat.zero_add, Nat.add_zero, Nat.mul_one, Int.toNat_natCast, Int.reduceToNat]
    refine lda_cw (w := w1.drew) C3 rfl ?_
    simp -dsimp (disch := first | omega | rfl | simp only [all_cons, all_nil, plain_w32, plain_w8, plain_w64, plain_ws, plain_int, plain_bool, plain_slice, plain_ptr, plain_map, plain_iface, Bool.and_self]) only [↓pre, ↓pre2, ↓pre3, ↓look_cons, ↓look_bnd, ↓look_bnd0, ↓opd_tmp, ↓opd_const, ↓ite_f, ↓ite_t, ↓reduceIte, post, post2, decide_true, decide_false, opds, Nat.reduceEqDiff, Nat.reduceAdd, Nat.zero_add, Nat.add_zero, Nat.mul_one, Int.toNat_natCast, Int.reduceToNat]
    have hE1 : Ex w w1.drew := he1.drew
    refine call_rule (k53 t (hs0.ex' hE1) hL) ?_
    rintro en w2 ⟨rfl, F2, h2, hf2, hsub2⟩
    refine ⟨_, rfl, ?_⟩
    simp -dsimp (disch := first | omega | rfl | simp only [all_cons, all_nil, plain_w32, plain_w8, plain_w64, plain_ws, plain_int, plain_bool, plain_slice, plain_ptr, plain_map, plain_iface, Bool.and_self]) only [↓pre, ↓pre2, ↓pre3, ↓look_cons, ↓look_bnd, ↓look_bnd0, ↓opd_tmp, ↓opd_const, ↓ite_f, ↓ite_t, ↓reduceIte, post, post2, decide_true, decide_false, opds, Nat.reduceEqDiff, Nat.reduceAdd, Nat.zero_add, Nat.add_zero, Nat.mul_one, Int.toNat_natCast, Int.reduceToNat]
    refine par_ex ?_
    obtain ⟨⟨lv2, mb2, hc2, hn2, hm2, hb2, hmb2, hne2, ho2⟩, hlt2⟩ := id h2
    have C3' : Cw w2.heap b3 (tcells t) := Cw.fr (w := w1.drew) C3 hf2 (fun h => by have := hlt b3 h; omega)
    have c4' : w2.drew.cell? ⟨b, 4, none⟩ = some (.map (some mb2)) := Cw.cell (w := w2.drew) hc2 4
    simp -dsimp (disch := first | omega | rfl | simp only [all_cons, all_nil, plain_w32, plain_w8, plain_w64, plain_ws, plain_int, plain_bool, plain_slice, plain_ptr, plain_map, plain_iface, Bool.and_self]) only [↓pre, ↓pre2, ↓pre3, ↓look_cons, ↓look_bnd, ↓look_bnd0, ↓opd_tmp, ↓opd_const, ↓ite_f, ↓ite_t, ↓reduceIte, post, post2, decide_true, decide_false, opds, Nat.reduceEqDiff, Nat.reduceAdd, Nat.zero_add, Nat.add_zero, Nat.mul_one, Int.toNat_natCast, Int.reduceToNat, c4']
    refine lda_cw (w := w2.drew) C3' rfl ?_
    simp -dsimp (disch := first | omega | rfl | simp only [all_cons, all_nil, plain_w32, plain_w8, plain_w64, plain_ws, plain_int, plain_bool, plain_slice, plain_ptr, plain_map, plain_iface, Bool.and_self]) only [↓pre, ↓pre2, ↓pre3, ↓look_cons, ↓look_bnd, ↓look_bnd0, ↓opd_tmp, ↓opd_const, ↓ite_f, ↓ite_t, ↓reduceIte, post, post2, decide_true, decide_false, opds, Nat.reduceEqDiff, Nat.reduceAdd, Nat.zero_add, Nat.add_zero, Nat.mul_one, Int.toNat_natCast, Int.reduceToNat]
    refine mapupd_rule (a := t) (mb := mb2) keyT_thing map75 rfl rfl rfl (Mp.ex hm2 (Fr.refl w2).drew) fun w3 hm3 hf3 hs3 => ?_
    simp -dsimp (disch := first | omega | rfl | simp only [all_cons, all_nil, plain_w32, plain_w8, plain_w64, plain_ws, plain_int, plain_bool, plain_slice, plain_ptr, plain_map, plain_iface, Bool.and_self]) only [↓pre, ↓pre2, ↓pre3, ↓look_cons, ↓look_bnd, ↓look_bnd0, ↓opd_tmp, ↓opd_const, ↓ite_f, ↓ite_t, ↓reduceIte, post, post2, decide_true, decide_false, opds, Nat.reduceEqDiff, Nat.reduceAdd, Nat.zero_add, Nat.add_zero, Nat.mul_one, Int.toNat_natCast, Int.reduceToNat]
    refine ⟨by trivial, F2, ⟨⟨lv2, mb2, Cw.fr (w := w2.drew) hc2 hf3 hne2, Nw.fr (w := w2.drew) hn2 hf3 (fun k hk _ _ e => (ho2 k hk).2.2 e), ?_, hb2, hmb2, hne2, ho2⟩, fun k hk => ?_⟩, ?_, ?_⟩
    · have : known (L ++ [t]) 1 = putA t (vi (L.length + 1 : Nat)) (known L 1) := by
        rw [known_app, if_pos ht]
        unfold putA
        have hnone : findA t (known L 1) 0 = none := by
          rw [hti] at hg
          simpa using hg
        rw [hnone, Nat.add_comm 1]
      rw [this]
      exact hm3
    · have := hlt2 k hk
      have := hf3.size
      exact Nat.lt_of_lt_of_le (hlt2 k hk) hf3.size
    · refine Fr.step (w1 := w2.drew) (hE1.to.step hf2 (fun k _ h => h)).drew hf3 (fun k hk h => ?_)
      rw [h] at hk ⊢
      rcases hsub2 mb2 hmb2 with h' | h'
      · exact h'
      · exfalso; have := hE1.size; omega
    · intro k hk
      rcases hsub2 k hk with h | h
      · exact .inl h
      · exact .inr (Nat.le_trans hE1.size h)

theorem k60 {w : World} {v : Value} {ps : List (List UInt8)} (hp : Ps w.heap v ps) (hl : ps.flatten.length ≤ 1099511627776) (hn : ps.length < 9223372036854775807) :
    Calls Go.Proofs.Try.prog 60 #[v] w fun e w' => e = .returned (ws ps.flatten) ∧ Ex w w' := by
  obtain ⟨a, c, rfl, hc, ha⟩ := hp.parts
  refine enter mo (args := [.slice a ps.length c]) Go.Proofs.Try.func60 c60 (by simp [x60]) ?_
  simp only [x60, env0]
  simp -dsimp (disch := first | omega | rfl | simp only [all_cons, all_nil, plain_w32, plain_w8, plain_w64, plain_ws, plain_int, plain_bool, plain_slice, plain_ptr, plain_map, plain_iface, Bool.and_self]) only [↓pre, ↓pre2, ↓pre3, ↓look_cons, ↓look_bnd, ↓look_bnd0, ↓opd_tmp, ↓opd_const, ↓ite_f, ↓ite_t, ↓reduceIte, post, post2, decide_true, decide_false, opds, Nat.reduceEqDiff, Nat.reduceAdd, Nat.zero_add, Nat.add_zero, Nat.mul_one, Int.toNat_natCast, Int.reduceToNat]
  refine loop_rule (fun k : Nat × Value => [(8, vi k.1), (7, vi ps.length), (6, .slice a ps.length c), (3, k.2)])
    (fun k v => k.1 ≤ ps.length ∧ New w.heap.size v.heap k.2 (ps.take k.1).flatten ∧ Ex w v) (fun k => ps.length - k.1) (0, .slice none 0 0) (by simp [sub, look, bnd, add_addr]) ⟨by simp, by simpa using New.nil _ _, Fr.refl w⟩ ?_
  rintro ⟨k, s⟩ v ⟨hk, hns, hE⟩
  simp only at hk hns
  simp -dsimp (disch := first | omega | rfl | simp only [all_cons, all_nil, plain_w32, plain_w8, plain_w64, plain_ws, plain_int, plain_bool, plain_slice, plain_ptr, plain_map, plain_iface, Bool.and_self]) only [↓pre, ↓pre2, ↓pre3, ↓look_cons, ↓look_bnd, ↓look_bnd0, ↓opd_tmp, ↓opd_const, ↓ite_f, ↓ite_t, ↓reduceIte, post, post2, decide_true, decide_false, opds, Nat.reduceEqDiff, Nat.reduceAdd, Nat.zero_add, Nat.add_zero, Nat.mul_one, Int.toNat_natCast, Int.reduceToNat]
  refine cond_dec (fun hlt => ?_) (fun hge => ?_)
  · have hk' : k < ps.length := by omega
    obtain ⟨b0, o0, rfl⟩ := ha k hk'
    obtain ⟨u, hu, hbu0⟩ := hp.at2 hE hk'
    have hbu := hbu0.ex hE
    simp -dsimp (disch := first | omega | rfl | simp only [all_cons, all_nil, plain_w32, plain_w8, plain_w64, plain_ws, plain_int, plain_bool, plain_slice, plain_ptr, plain_map, plain_iface, Bool.and_self]) only [↓pre, ↓pre2, ↓pre3, ↓look_cons, ↓look_bnd, ↓look_bnd0, ↓opd_tmp, ↓opd_const, ↓ite_f, ↓ite_t, ↓reduceIte, post, post2, decide_true, decide_false, opds, Nat.reduceEqDiff, Nat.reduceAdd, Nat.zero_add, Nat.add_zero, Nat.mul_one, Int.toNat_natCast, Int.reduceToNat, hu]
    have hbl : (ps.take k).flatten.length + (ps.getD k []).length ≤ ps.flatten.length := by
      have : ps.flatten = (ps.take k).flatten ++ (ps.drop k).flatten := by rw [← List.flatten_append, List.take_append_drop]
      rw [this, List.drop_eq_getElem_cons hk', List.flatten_cons, List.length_append, List.length_append]
      have e : ps.getD k [] = ps[k] := by simp [List.getD, hk']
      rw [e]
      omega
    refine app_bytes el8 rfl rfl hns hE.size hbu rfl (by omega) fun s2 w2 hn2 hf2 ho2 => ?_
    simp -dsimp (disch := first | omega | rfl | simp only [all_cons, all_nil, plain_w32, plain_w8, plain_w64, plain_ws, plain_int, plain_bool, plain_slice, plain_ptr, plain_map, plain_iface, Bool.and_self]) only [↓pre, ↓pre2, ↓pre3, ↓look_cons, ↓look_bnd, ↓look_bnd0, ↓opd_tmp, ↓opd_const, ↓ite_f, ↓ite_t, ↓reduceIte, post, post2, decide_true, decide_false, opds, Nat.reduceEqDiff, Nat.reduceAdd, Nat.zero_add, Nat.add_zero, Nat.mul_one, Int.toNat_natCast, Int.reduceToNat]
    refine ⟨(k + 1, s2), by simp [sub, look, bnd, add_addr], ⟨by simp only; omega, ?_, Fr.young hE hf2 (fun k hk => hk.2)⟩, by simp only; omega⟩
    simp only
    rw [List.take_succ_eq_append_getElem hk', List.flatten_append]
    simpa [List.getD, hk'] using hn2
  · have hk8 : k = ps.length := by omega
    subst hk8
    rw [List.take_length] at hns
    simp -dsimp (disch := first | omega | rfl | simp only [all_cons, all_nil, plain_w32, plain_w8, plain_w64, plain_ws, plain_int, plain_bool, plain_slice, plain_ptr, plain_map, plain_iface, Bool.and_self]) only [↓pre, ↓pre2, ↓pre3, ↓look_cons, ↓look_bnd, ↓look_bnd0, ↓opd_tmp, ↓opd_const, ↓ite_f, ↓ite_t, ↓reduceIte, post, post2, decide_true, decide_false, opds, Nat.reduceEqDiff, Nat.reduceAdd, Nat.zero_add, Nat.add_zero, Nat.mul_one, Int.toNat_natCast, Int.reduceToNat]
    refine b2s_rule hns.bs ?_
    simp -dsimp (disch := first | omega | rfl | simp only [all_cons, all_nil, plain_w32, plain_w8, plain_w64, plain_ws, plain_int, plain_bool, plain_slice, plain_ptr, plain_map, plain_iface, Bool.and_self]) only [↓pre, ↓pre2, ↓pre3, ↓look_cons, ↓look_bnd, ↓look_bnd0, ↓opd_tmp, ↓opd_const, ↓ite_f, ↓ite_t, ↓reduceIte, post, post2, decide_true, decide_false, opds, Nat.reduceEqDiff, Nat.reduceAdd, Nat.zero_add, Nat.add_zero, Nat.mul_one, Int.toNat_natCast, Int.reduceToNat]
    exact ⟨by trivial, hE⟩

/-- how many there are -/
def stN : Sst → Nat
  | .real _ d => d
  | .signs L => L.length

structure SPost (w w' : World) (F F' : Nat → Prop) (b : Nat) (st : Sst) : Prop where
  su : Su w'.heap F' b st
  fr : Fr F w w'
  sub : ∀ k, F' k → F k ∨ w.heap.size ≤ k
  keep : ∀ s d, st = .real s d → F' = F
/-- bytes that a call has made, and that are no part of F -/
structure NewO (B : Nat) (h : Hp) (F : Nat → Prop) (v : Value) (l : List UInt8) : Prop where
  new : New B h v l
  off : ∀ k, v.ownBlock = some k → ¬ F k

theorem NewO.im {B : Nat} {h : Hp} {F : Nat → Prop} {v : Value} {l : List UInt8} (hn : NewO B h F v l) : Im F (fun h => Bs h v l) h := hn.new.bs.im (fun _ => hn.off)
theorem NewO.of {B : Nat} {h : Hp} {F : Nat → Prop} {v : Value} {l : List UInt8} (hn : New B h v l) (hF : ∀ k, F k → k < B) : NewO B h F v l := ⟨hn, fun k hk hF' => by have := hn.from' k hk; have := hF k hF'; omega⟩
theorem NewO.mono {B B' : Nat} {h : Hp} {F : Nat → Prop} {v : Value} {l : List UInt8} (hn : NewO B h F v l) (hB : B' ≤ B) : NewO B' h F v l := ⟨hn.new.mono hB, hn.off⟩

theorem k17 {w : World} : Calls Go.Proofs.Try.prog 17 #[] w fun e w' => ∃ b F, e = .returned (.pointer (some ⟨b, 0, none⟩)) ∧ Su w'.heap F b (.signs []) ∧ Ex w w' ∧ ∀ k, F k → w.heap.size ≤ k := by
  refine enter mo (args := []) Go.Proofs.Try.func17 c17 (by simp [x17]) ?_
  simp only [x17, env0]
  simp -dsimp (disch := first | omega | rfl | simp only [all_cons, all_nil, plain_w32, plain_w8, plain_w64, plain_ws, plain_int, plain_bool, plain_slice, plain_ptr, plain_map, plain_iface, Bool.and_self]) only [↓pre, ↓pre2, ↓pre3, ↓look_cons, ↓look_bnd, ↓look_bnd0, ↓opd_tmp, ↓opd_const, ↓ite_f, ↓ite_t, ↓reduceIte, post, post2, decide_true, decide_false, opds, Nat.reduceEqDiff, Nat.reduceAdd, Nat.zero_add, Nat.add_zero, Nat.mul_one, Int.toNat_natCast, Int.reduceToNat]
  refine mkmap_rule (enc := tval) fun mb w1 hmb hm he1 hs1 => ?_
  simp -dsimp (disch := first | omega | rfl | simp only [all_cons, all_nil, plain_w32, plain_w8, plain_w64, plain_ws, plain_int, plain_bool, plain_slice, plain_ptr, plain_map, plain_iface, Bool.and_self]) only [↓pre, ↓pre2, ↓pre3, ↓look_cons, ↓look_bnd, ↓look_bnd0, ↓opd_tmp, ↓opd_const, ↓ite_f, ↓ite_t, ↓reduceIte, post, post2, decide_true, decide_false, opds, Nat.reduceEqDiff, Nat.reduceAdd, Nat.zero_add, Nat.add_zero, Nat.mul_one, Int.toNat_natCast, Int.reduceToNat]
  refine box_rule fun b w2 hb hc he2 hs2 => ?_
  simp -dsimp (disch := first | omega | rfl | simp only [all_cons, all_nil, plain_w32, plain_w8, plain_w64, plain_ws, plain_int, plain_bool, plain_slice, plain_ptr, plain_map, plain_iface, Bool.and_self]) only [↓pre, ↓pre2, ↓pre3, ↓look_cons, ↓look_bnd, ↓look_bnd0, ↓opd_tmp, ↓opd_const, ↓ite_f, ↓ite_t, ↓reduceIte, post, post2, decide_true, decide_false, opds, Nat.reduceEqDiff, Nat.reduceAdd, Nat.zero_add, Nat.add_zero, Nat.mul_one, Int.toNat_natCast, Int.reduceToNat]
  refine ⟨b, fun k => k = b ∨ k = mb, rfl, ⟨⟨.slice none 0 0, mb, by simpa [Value.cells] using hc, Nw.nil _ _ _, hm.ex he2, .inl rfl, .inr rfl, by omega, by simp [Value.ownBlock]⟩, ?_⟩, he1.trans he2, ?_⟩
  · rintro k (rfl | rfl) <;> omega
  · rintro k (rfl | rfl) <;> omega

theorem k13 {w : World} {sv : Value} {seed : List UInt8} (hb : Bs w.heap sv seed) (hl : seed.length ≤ 1099511627776) :
    Calls Go.Proofs.Try.prog 13 #[sv] w fun e w' => ∃ b F, e = .returned (.pointer (some ⟨b, 0, none⟩)) ∧ Su w'.heap F b (.real seed 0) ∧ Ex w w' ∧ ∀ k, F k → w.heap.size ≤ k := by
  obtain ⟨a, c, rfl, hc, hne⟩ := hb.parts
  refine enter mo (args := [.slice a seed.length c]) Go.Proofs.Try.func13 c13 (by simp [x13]) ?_
  simp only [x13, env0]
  simp -dsimp (disch := first | omega | rfl | simp only [all_cons, all_nil, plain_w32, plain_w8, plain_w64, plain_ws, plain_int, plain_bool, plain_slice, plain_ptr, plain_map, plain_iface, Bool.and_self]) only [↓pre, ↓pre2, ↓pre3, ↓look_cons, ↓look_bnd, ↓look_bnd0, ↓opd_tmp, ↓opd_const, ↓ite_f, ↓ite_t, ↓reduceIte, post, post2, decide_true, decide_false, opds, Nat.reduceEqDiff, Nat.reduceAdd, Nat.zero_add, Nat.add_zero, Nat.mul_one, Int.toNat_natCast, Int.reduceToNat]
  refine app_bytes el8 rfl rfl (New.nil w.heap.size _) (Nat.le_refl _) hb rfl (by simp; omega) fun s' w1 hn1 hf1 ho1 => ?_
  rw [List.nil_append] at hn1
  have hE1 : Ex w w1 := Fr.young (Fr.refl w) hf1 (fun k h => h.2)
  obtain ⟨a1, c1, rfl, hc1, hne1⟩ := hn1.bs.parts
  simp -dsimp (disch := first | omega | rfl | simp only [all_cons, all_nil, plain_w32, plain_w8, plain_w64, plain_ws, plain_int, plain_bool, plain_slice, plain_ptr, plain_map, plain_iface, Bool.and_self]) only [↓pre, ↓pre2, ↓pre3, ↓look_cons, ↓look_bnd, ↓look_bnd0, ↓opd_tmp, ↓opd_const, ↓ite_f, ↓ite_t, ↓reduceIte, post, post2, decide_true, decide_false, opds, Nat.reduceEqDiff, Nat.reduceAdd, Nat.zero_add, Nat.add_zero, Nat.mul_one, Int.toNat_natCast, Int.reduceToNat]
  refine box_rule fun b w2 hb2 hc2 he2 hs2 => ?_
  simp -dsimp (disch := first | omega | rfl | simp only [all_cons, all_nil, plain_w32, plain_w8, plain_w64, plain_ws, plain_int, plain_bool, plain_slice, plain_ptr, plain_map, plain_iface, Bool.and_self]) only [↓pre, ↓pre2, ↓pre3, ↓look_cons, ↓look_bnd, ↓look_bnd0, ↓opd_tmp, ↓opd_const, ↓ite_f, ↓ite_t, ↓reduceIte, post, post2, decide_true, decide_false, opds, Nat.reduceEqDiff, Nat.reduceAdd, Nat.zero_add, Nat.add_zero, Nat.mul_one, Int.toNat_natCast, Int.reduceToNat]
  refine ⟨b, fun k => k = b ∨ (seed ≠ [] ∧ (Value.slice a1 seed.length c1).ownBlock = some k), rfl, ⟨⟨_, by simpa [Value.cells] using hc2, hn1.bs.ex he2, .inl rfl, fun h k hk => ⟨.inr ⟨h, hk⟩, ?_⟩⟩, ?_⟩, hE1.trans he2, ?_⟩
  · have := hn1.bs.lt h hk; omega
  · rintro k (rfl | ⟨h, hk⟩)
    · omega
    · have := hn1.bs.lt h hk; omega
  · rintro k (rfl | ⟨h, hk⟩)
    · have := hE1.size; omega
    · exact hn1.from' k hk

/-- the sum of a text -/
def sumSt : Sst → List UInt8 → Sst
  | .real s d, _ => .real s d
  | .signs L, t => .signs (onceL L ⟨72, [], [], t, []⟩)
def sumB : Sst → List UInt8 → List UInt8
  | .real _ _, t => shaSum t
  | .signs L, t => sgn 72 (onceN L ⟨72, [], [], t, []⟩)

theorem k16 {w : World} {F : Nat → Prop} {b : Nat} {st : Sst} {v : Value} {ps : List (List UInt8)} (hs : Su w.heap F b st) (hp : Ps w.heap v ps) (hl : ps.flatten.length ≤ 1073741824) (hn : ps.length < 9223372036854775807) (hN : stN st ≤ 1073741824) :
    Calls Go.Proofs.Try.prog 16 #[.pointer (some ⟨b, 0, none⟩), v] w fun e w' => ∃ u F', e = .returned u ∧ SPost w w' F F' b (sumSt st ps.flatten) ∧ NewO w.heap.size w'.heap F' u (sumB st ps.flatten) := by
  refine enter mo (args := [.pointer (some ⟨b, 0, none⟩), v]) Go.Proofs.Try.func16 c16 (by simp [x16]) ?_
  simp only [x16, env0]
  cases st with
  | real seed d =>
    obtain ⟨⟨sv, hc, hb, hF, ho⟩, hlt⟩ := id hs
    have c0 : w.cell? ⟨b, 0, none⟩ = some (.bool true) := hc.cell 0
    simp -dsimp (disch := first | omega | rfl | simp only [all_cons, all_nil, plain_w32, plain_w8, plain_w64, plain_ws, plain_int, plain_bool, plain_slice, plain_ptr, plain_map, plain_iface, Bool.and_self]) only [↓pre, ↓pre2, ↓pre3, ↓look_cons, ↓look_bnd, ↓look_bnd0, ↓opd_tmp, ↓opd_const, ↓ite_f, ↓ite_t, ↓reduceIte, post, post2, decide_true, decide_false, opds, Nat.reduceEqDiff, Nat.reduceAdd, Nat.zero_add, Nat.add_zero, Nat.mul_one, Int.toNat_natCast, Int.reduceToNat, c0]
    refine call_rule (k58 hp (by omega) hn) ?_
    rintro en w1 ⟨u, rfl, hn1, hx1⟩
    refine ⟨_, rfl, ?_⟩
    simp -dsimp (disch := first | omega | rfl | simp only [all_cons, all_nil, plain_w32, plain_w8, plain_w64, plain_ws, plain_int, plain_bool, plain_slice, plain_ptr, plain_map, plain_iface, Bool.and_self]) only [↓pre, ↓pre2, ↓pre3, ↓look_cons, ↓look_bnd, ↓look_bnd0, ↓opd_tmp, ↓opd_const, ↓ite_f, ↓ite_t, ↓reduceIte, post, post2, decide_true, decide_false, opds, Nat.reduceEqDiff, Nat.reduceAdd, Nat.zero_add, Nat.add_zero, Nat.mul_one, Int.toNat_natCast, Int.reduceToNat]
    exact ⟨u, F, rfl, ⟨hs.ex hx1, hx1.to, fun k h => .inl h, fun _ _ _ => rfl⟩, NewO.of hn1 hlt⟩
  | signs L =>
    obtain ⟨⟨lv, mb, hc, _⟩, hlt⟩ := id hs
    have c0 : w.cell? ⟨b, 0, none⟩ = some (.bool false) := hc.cell 0
    simp -dsimp (disch := first | omega | rfl | simp only [all_cons, all_nil, plain_w32, plain_w8, plain_w64, plain_ws, plain_int, plain_bool, plain_slice, plain_ptr, plain_map, plain_iface, Bool.and_self]) only [↓pre, ↓pre2, ↓pre3, ↓look_cons, ↓look_bnd, ↓look_bnd0, ↓opd_tmp, ↓opd_const, ↓ite_f, ↓ite_t, ↓reduceIte, post, post2, decide_true, decide_false, opds, Nat.reduceEqDiff, Nat.reduceAdd, Nat.zero_add, Nat.add_zero, Nat.mul_one, Int.toNat_natCast, Int.reduceToNat, c0]
    refine call_rule (k60 hp (by omega) hn) ?_
    rintro en w1 ⟨rfl, hx1⟩
    refine ⟨_, rfl, ?_⟩
    simp -dsimp (disch := first | omega | rfl | simp only [all_cons, all_nil, plain_w32, plain_w8, plain_w64, plain_ws, plain_int, plain_bool, plain_slice, plain_ptr, plain_map, plain_iface, Bool.and_self]) only [↓pre, ↓pre2, ↓pre3, ↓look_cons, ↓look_bnd, ↓look_bnd0, ↓opd_tmp, ↓opd_const, ↓ite_f, ↓ite_t, ↓reduceIte, post, post2, decide_true, decide_false, opds, Nat.reduceEqDiff, Nat.reduceAdd, Nat.zero_add, Nat.add_zero, Nat.mul_one, Int.toNat_natCast, Int.reduceToNat]
    refine call_rule (k59 ⟨72, [], [], ps.flatten, []⟩ (.inl rfl) (SuG.ex' hs hx1) hN) ?_
    rintro en w2 ⟨rfl, F2, h2, hf2, hsub2⟩
    refine ⟨_, rfl, ?_⟩
    simp -dsimp (disch := first | omega | rfl | simp only [all_cons, all_nil, plain_w32, plain_w8, plain_w64, plain_ws, plain_int, plain_bool, plain_slice, plain_ptr, plain_map, plain_iface, Bool.and_self]) only [↓pre, ↓pre2, ↓pre3, ↓look_cons, ↓look_bnd, ↓look_bnd0, ↓opd_tmp, ↓opd_const, ↓ite_f, ↓ite_t, ↓reduceIte, post, post2, decide_true, decide_false, opds, Nat.reduceEqDiff, Nat.reduceAdd, Nat.zero_add, Nat.add_zero, Nat.mul_one, Int.toNat_natCast, Int.reduceToNat]
    refine call_rule (k57 72 (onceN L ⟨72, [], [], ps.flatten, []⟩ : Nat)) ?_
    rintro en w3 ⟨u, rfl, hn3, hx3⟩
    refine ⟨_, rfl, ?_⟩
    simp -dsimp (disch := first | omega | rfl | simp only [all_cons, all_nil, plain_w32, plain_w8, plain_w64, plain_ws, plain_int, plain_bool, plain_slice, plain_ptr, plain_map, plain_iface, Bool.and_self]) only [↓pre, ↓pre2, ↓pre3, ↓look_cons, ↓look_bnd, ↓look_bnd0, ↓opd_tmp, ↓opd_const, ↓ite_f, ↓ite_t, ↓reduceIte, post, post2, decide_true, decide_false, opds, Nat.reduceEqDiff, Nat.reduceAdd, Nat.zero_add, Nat.add_zero, Nat.mul_one, Int.toNat_natCast, Int.reduceToNat]
    have hfr : Fr F w w2 := hx1.to.step hf2 (fun _ _ h => h)
    refine ⟨u, F2, rfl, ⟨SuG.ex' h2 hx3, hfr.step hx3 (fun _ _ h => h.elim), fun k hk => (hsub2 k hk).imp id (fun h => Nat.le_trans hx1.size h), fun _ _ h => by first | cases h | simp [sumSt] at h⟩, (NewO.of hn3 h2.lt).mono hfr.size⟩
end Go.Lk
