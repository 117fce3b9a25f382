/- Rules for loops, slices and conditions; the facts of the slice types. No statement of the seat is proved in this text. -/
import Derived.Test.YtofoamkiidkbkaaRaw
import Derived.Test.YtofoamkiidkbkaaProg
set_option linter.unusedSimpArgs false
set_option linter.unusedVariables false
set_option linter.unusedSectionVars false
set_option linter.unnecessarySimpa false
namespace Go.Lk

theorem mo : Go.Proofs.Try.prog.follows .mixedOrders = true := by kernel_rfl

theorem loop_rule {S : Post → Env → World → Prop} {Q : Post} {e : Env} {w : World} {t : Tg S} {t' : Tg Q} {t'' : Tg e} {κ : Type} (E : κ → Env) (I : κ → World → Prop) (μ : κ → Nat) (k0 : κ) (h0 : sub (E k0) e) (hI : I k0 w)
    (h : ∀ k w, I k w → S (thenX (fun e' w' => ∃ k', sub (E k') e' ∧ I k' w' ∧ μ k' < μ k) Q) (E k) w) : LoopR S Q e w t t' t'' := ⟨κ, E, I, μ, ⟨k0, h0, hI⟩, h⟩

theorem cond_by {p q : Prop} {b : Bool} {t : Tg p} {t' : Tg q} (h1 : b = true → p) (h2 : b = false → q) : CondR p q b t t' := ⟨h1, h2⟩
theorem cond_dec {c : Prop} [Decidable c] {p q : Prop} {t : Tg p} {t' : Tg q} (h1 : c → p) (h2 : ¬ c → q) : CondR p q (decide c) t t' := CondW_dec h1 h2

theorem sl_rule {f : Value → Prop} {sz n c m h l : Nat} {e : Env} {lo hi mx : Option Operand} {a : Option Addr} {t : Tg f} (hm : bndv e mx c c = some m) (hh : bndv e hi n m = some h) (hl : bndv e lo 0 h = some l)
    (hf : f (cutv sz l h m a)) : SlR f sz e lo hi mx (.slice a n c) t := by
  simp only [SlR, hm, B_some, hh, hl]
  exact hf

theorem sla_rule {f : Value → Prop} {n sz m h l : Nat} {e : Env} {lo hi mx : Option Operand} {a : Addr} {t : Tg f} (hm : bndv e mx n n = some m) (hh : bndv e hi n m = some h) (hl : bndv e lo 0 h = some l)
    (hf : f (.slice (some (if m = l then a else a.add (l * sz))) (h - l) (m - l))) : SlaR f n sz e lo hi mx (.pointer (some a)) t := by
  simp only [SlaR, hm, B_some, hh, hl]
  exact hf

theorem el8 : El Go.Proofs.Try.prog 22 5 [w8 0] 1 1 := .mk' (zv := w8 0) [w8 0] (by kernel_rfl) (by kernel_rfl) rfl rfl (by omega)
theorem ell : El Go.Proofs.Try.prog 84 22 [.slice none 0 0] 1 24 := .mk' (zv := .slice none 0 0) _ (by kernel_rfl) (by kernel_rfl) rfl rfl (by omega)
theorem eli : El Go.Proofs.Try.prog 88 3 [vi 0] 1 8 := .mk' (zv := vi 0) _ (by kernel_rfl) (by kernel_rfl) rfl rfl (by omega)
theorem und8 : Go.Proofs.Try.prog.underlying 5 = some (.int .u8) := by kernel_rfl
theorem und22 : Go.Proofs.Try.prog.underlying 22 = some (.slice 5) := by kernel_rfl

theorem fin_ca {s n b : Nat} {R : Ending → World → Prop} {e : Env} {w : World} {xs : List Value} (hs : look e s = some (.pointer (some ⟨b, 0, none⟩))) (hc : Cw w.heap b xs) (hl : xs.length = n) (h : R (.returned (.agg xs.toArray)) w) : fin [.ca s n] R e w :=
  ⟨[.agg xs.toArray], ⟨⟨_, xs, hs, hl, fun i _ => by rw [add_addr, Nat.zero_add, hc.cell], rfl⟩, trivial⟩, h⟩

theorem fin_ca_t {s n b s' : Nat} {v : Value} {R : Ending → World → Prop} {e : Env} {w : World} {xs : List Value} (hs : look e s = some (.pointer (some ⟨b, 0, none⟩))) (hs' : look e s' = some v) (hc : Cw w.heap b xs) (hl : xs.length = n) (h : R (.returned (.tuple #[.agg xs.toArray, v])) w) : fin [.ca s n, .t s'] R e w :=
  ⟨[.agg xs.toArray, v], ⟨⟨_, xs, hs, hl, fun i _ => by rw [add_addr, Nat.zero_add, hc.cell], rfl⟩, hs', trivial⟩, h⟩

theorem alloc_rule {K : Env → World → Prop} {P : Program} {d T t : Nat} {z : List Value} {e : Env} {w : World} {g : Tg K} {g' : Tg (Op.alloc T)} (hz : ((P.info? T).bind (·.zero)).map (fun v => v.cells.toList) = some z)
    (h : ∀ b w', w.heap.size = b → Cw w'.heap b z → Ex w w' → w'.heap.size = w.heap.size + 1 → K ((d, .pointer (some ⟨b, 0, none⟩)) :: e) w') : RawR K P (some d) (.alloc T) t e w g g' := by
  obtain ⟨zv, h1, h2⟩ := Option.map_eq_some_iff.1 hz
  obtain ⟨i, hi, h3⟩ := Option.bind_eq_some_iff.1 h1
  refine raw_value (v := .pointer (some ⟨w.heap.size, 0, none⟩)) (w' := { w with heap := w.heap.push (.cells zv.cells T) }) rfl ?_ (h _ _ rfl ?_ (push_ex _ _) (by simp))
  · simp only [execOp, Instr.alloc, Sem.run_bind, zeroValue, typeInfo, run_program, hi, Sem.run_pure, Result.andThen_ok, h3, newVar, newRow, run_newObj]
  · have := push_cw w zv.cells T
    rw [h2] at this
    exact this

theorem putCells_size : ∀ (l : List Value) (w : World) (a : Addr) (i : Nat), (putCells w a l i).heap.size = w.heap.size
  | [], w, a, i => rfl
  | v :: r, w, a, i => by
    simp only [putCells]
    rw [putCells_size r]
    simp [World.setCell]

/-- a store of many cells -/
theorem stores_rule {f : World → Prop} {w : World} {b o n : Nat} {v : Value} {t : Tg f} {xs cs : List Value} (hc : Cw w.heap b xs) (hv : v.cells.toList = cs) (hl : cs.length = n) (ho : o + n ≤ xs.length) (hp : cs.all plain = true)
    (h : ∀ w', Cw w'.heap b (xs.take o ++ cs ++ xs.drop (o + n)) → Fr (· = b) w w' → w'.heap.size = w.heap.size → f w') : StoresR f w (.pointer (some ⟨b, o, none⟩)) v n t := by
  refine ⟨by rw [← hl, ← hv]; simp, by rw [hv]; exact hp, fun i hi => ?_, ?_⟩
  · rw [add_addr]
    exact ⟨by rw [hc.cell]; simp; omega, hc.free (by omega)⟩
  · rw [hv]
    refine h _ ?_ (putCells_fr cs w b o 0) (putCells_size _ _ _ _)
    obtain ⟨c0, E, fr, h1, h2, h3⟩ := hc
    subst h2
    simp only [Array.length_toList] at ho
    obtain ⟨c1, h4, h5, h6⟩ := putCells_cells cs w b o 0 c0 E fr h1 (by omega)
    refine ⟨c1, E, fr, h4, ?_, by rw [h5]; exact h3⟩
    apply List.ext_getElem?
    intro j
    rw [Array.getElem?_toList, h6 j]
    simp only [Nat.add_zero, List.append_assoc]
    by_cases h7 : j < o
    · rw [if_neg (by omega), List.getElem?_append_left (by simp; omega)]
      simp [List.getElem?_take, h7]
    · by_cases h8 : j < o + cs.length
      · rw [if_pos (by omega), List.getElem?_append_right (by simp; omega)]
        simp only [List.length_take, Array.length_toList]
        rw [Nat.min_eq_left (by omega), List.getElem?_append_left (by omega)]
      · rw [if_neg (by omega), List.getElem?_append_right (by simp; omega)]
        simp only [List.length_take, Array.length_toList]
        rw [Nat.min_eq_left (by omega), List.getElem?_append_right (by omega), List.getElem?_drop]
        rw [Array.getElem?_toList]
        congr 1
        omega

/-- a store over a whole block -/
theorem stores_all {f : World → Prop} {w : World} {b n : Nat} {v : Value} {t : Tg f} {xs cs : List Value} (hc : Cw w.heap b xs) (hv : v.cells.toList = cs) (hl : cs.length = n) (ho : xs.length = n) (hp : cs.all plain = true)
    (h : ∀ w', Cw w'.heap b cs → Fr (· = b) w w' → w'.heap.size = w.heap.size → f w') : StoresR f w (.pointer (some ⟨b, 0, none⟩)) v n t :=
  stores_rule hc hv hl (by omega) hp fun w' h1 => h w' (by
    have : xs.drop (0 + n) = [] := by simp [ho]
    rw [this] at h1
    simpa using h1)

theorem Ex.young {w w1 w2 : World} {b : Nat} (h1 : Ex w w1) (h2 : Fr (· = b) w1 w2) (hb : w.heap.size ≤ b) : Ex w w2 := Fr.young h1 h2 (fun k hk => by rw [hk]; exact hb)
theorem Fr.drew {M : Nat → Prop} {w w' : World} (h : Fr M w w') : Fr M w w'.drew := h.trans ⟨rfl, rfl, rfl, Nat.le_refl _, fun _ _ _ => rfl⟩
theorem Ex.drew {w w' : World} (h : Ex w w') : Ex w w'.drew := Fr.drew h
theorem drew_heap (w : World) : w.drew.heap = w.heap := rfl

theorem par_ex {P : Program} {Q : Post} {p : PlanX} {e : Env} {w : World} {t : Tg Q} {t' : Tg p} {t'' : Tg e} (h : runX P Q (fun _ => False) p e w) : ParR P Q p e w t t' t'' := ParW_ex h
theorem par_of {P : Program} {Q : Post} {p : PlanX} {e : Env} {w : World} {t : Tg Q} {t' : Tg p} {t'' : Tg e} (M : Nat → Prop) (h : runX P Q M p e w) : ParR P Q p e w t t' t'' := ParW_of M h
theorem keep_yes {M : Nat → Prop} {w w' : World} {p : Prop} {t : Tg p} (h : Fr M w w') (hp : p) : KeepR p M w w' t := KeepW_yes h hp

theorem runX_norm {P : Program} {Q : Post} {M : Nat → Prop} : ∀ p, runX P Q M p = runX P (fun _ => Q .normal) M p := by
  intro p
  induction p with
  | done => rfl
  | take x t ih => funext e w; simp only [runX, ih]
  | step k x t more ih1 ih2 => funext e w; simp only [runX, ih1, ih2]
  | stop => rfl
  | bad => rfl

/-- a region with many orders: what holds behind it is said once -/
theorem par_share {P : Program} {Q : Post} {p : PlanX} {e : Env} {w : World} {t : Tg Q} {t' : Tg p} {t'' : Tg e} (M : Nat → Prop) (I : Env → World → Prop) (h1 : ∀ e w, I e w → Q .normal e w)
    (h2 : ∀ N : Env → World → Prop, (∀ e w, I e w → N e w) → runX P (fun _ => N) M p e w) : ParR P Q p e w t t' t'' :=
  ParW_of M (by rw [runX_norm]; exact h2 _ h1)

theorem step2 {P : Program} {Q : Post} {M : Nat → Prop} {x : XI} {t more : PlanX} {e : Env} {w : World} (h1 : sxi P x (fun e' w' => KeepR (runX P Q M t e' w') M w w' ⟨⟩) e w) (h2 : runX P Q M more e w) : runX P Q M (.step true x t more) e w := ⟨h1, h2⟩

theorem scope1_rule {S R : Post → Env → World → Prop} {l : Nat} {Q : Post} {e : Env} {w : World} {t : Tg S} {t' : Tg R} {t'' : Tg Q} {κ : Type} (E : κ → Env) (I : κ → World → Prop) (μ : κ → Nat)
    (h1 : S (jumpX (fun j e' w' => j = l ∧ ∃ k, sub (E k) e' ∧ I k w') Q) e w) (h2 : ∀ k w, I k w → R (jumpX (fun j e' w' => j = l ∧ ∃ k', sub (E k') e' ∧ I k' w' ∧ μ k' < μ k) Q) (E k) w) : Scope1R S R l Q e w t t' t'' :=
  ⟨κ, E, I, μ, h1, h2⟩

theorem cond_ndec {c : Prop} [Decidable c] {p q : Prop} {t : Tg p} {t' : Tg q} (h1 : ¬ c → p) (h2 : c → q) : CondR p q (!decide c) t t' :=
  ⟨fun h => h1 (by simpa using h), fun h => h2 (by simpa using h)⟩

theorem Cw.bs {h : Hp} {b c : Nat} {l : List UInt8} (hc : Cw h b (l.map w8)) (hn : l.length ≤ c) : Bs h (.slice (some ⟨b, 0, none⟩) l.length c) l := Cw.rd hc (by simp) hn

theorem Rd.lt {h : Hp} {sz n b : Nat} {v : Value} {xs : List Value} (hr : Rd h sz v n xs) (hn : 0 < n) (hb : v.ownBlock = some b) : b < h.size := by
  obtain ⟨a, c, rfl, _, _, hx⟩ := hr
  obtain ⟨b', o, rfl, cs, E, fr, h1, _⟩ := hx hn
  simp only [Value.ownBlock, Option.some.injEq] at hb
  subst hb
  exact (Array.getElem?_eq_some_iff.1 h1).1
theorem Bs.lt {h : Hp} {b : Nat} {v : Value} {l : List UInt8} (hr : Bs h v l) (hn : l ≠ []) (hb : v.ownBlock = some b) : b < h.size := Rd.lt hr (List.length_pos_iff.2 hn) hb
theorem Bs.fr1 {M : Nat → Prop} {w w' : World} {v : Value} {l : List UInt8} (hr : Bs w.heap v l) (hf : Fr M w w') (hM : l ≠ [] → ∀ b, v.ownBlock = some b → b < w.heap.size → ¬ M b) : Bs w'.heap v l := by
  by_cases hl : l = []
  · subst hl
    obtain ⟨a, c, rfl, hc, h1, _⟩ := hr
    exact ⟨a, c, rfl, hc, h1, fun h => absurd h (by simp)⟩
  · exact hr.fr hf (hM hl)

inductive All2 {α β : Type} (R : α → β → Prop) : List α → List β → Prop where
  | nil : All2 R [] []
  | cons {a : α} {b : β} {l : List α} {r : List β} (h1 : R a b) (h2 : All2 R l r) : All2 R (a :: l) (b :: r)

/-- a list of slices of bytes -/
def Ps (h : Hp) (v : Value) (ps : List (List UInt8)) : Prop := ∃ vs, Rd h 1 v ps.length vs ∧ All2 (Bs h) vs ps

theorem All2_imp {α β : Type} {R S : α → β → Prop} (h : ∀ a b, R a b → S a b) : ∀ {l : List α} {r : List β}, All2 R l r → All2 S l r
  | _, _, .nil => .nil
  | _, _, .cons h1 h2 => .cons (h _ _ h1) (All2_imp h h2)
theorem All2_get {α β : Type} {R : α → β → Prop} : ∀ {l : List α} {r : List β}, All2 R l r → ∀ {i : Nat} {a : α} {b : β}, l[i]? = some a → r[i]? = some b → R a b
  | _, _, .cons h1 h2, 0, a, b, ha, hb => by simp at ha hb; subst ha; subst hb; exact h1
  | _, _, .cons h1 h2, i + 1, a, b, ha, hb => All2_get h2 (by simpa using ha) (by simpa using hb)
theorem All2_len {α β : Type} {R : α → β → Prop} : ∀ {l : List α} {r : List β}, All2 R l r → l.length = r.length
  | _, _, .nil => rfl
  | _, _, .cons _ h2 => by simp [All2_len h2]

theorem Ps.ex {w w' : World} {v : Value} {ps : List (List UInt8)} (hp : Ps w.heap v ps) (he : Ex w w') : Ps w'.heap v ps := by
  obtain ⟨vs, h1, h2⟩ := hp
  exact ⟨vs, h1.ex he, All2_imp (fun _ _ h => h.ex he) h2⟩

theorem Ps.parts {h : Hp} {v : Value} {ps : List (List UInt8)} (hp : Ps h v ps) : ∃ a c, v = .slice a ps.length c ∧ ps.length ≤ c ∧ (∀ i, i < ps.length → ∃ b o, a = some ⟨b, o, none⟩) := by
  obtain ⟨vs, ⟨a, c, rfl, hc, _, hx⟩, _⟩ := hp
  exact ⟨a, c, rfl, hc, fun i hi => by obtain ⟨b, o, h, _⟩ := hx (by omega); exact ⟨b, o, h⟩⟩

/-- part i -/
theorem Ps.at {w : World} {b o n c : Nat} {ps : List (List UInt8)} (hp : Ps w.heap (.slice (some ⟨b, o, none⟩) n c) ps) {i : Nat} (hi : i < ps.length) : ∃ u, w.cell? ⟨b, o + i, none⟩ = some u ∧ Bs w.heap u (ps.getD i []) := by
  obtain ⟨vs, h1, h2⟩ := hp
  have hl := All2_len h2
  have hn : n = ps.length := by obtain ⟨a, c', he, _⟩ := h1; injection he
  subst hn
  have := Rd.cell h1 (i := i) (by omega)
  refine ⟨vs[i]'(by omega), ?_, ?_⟩
  · rw [this]; simp
  · refine All2_get h2 (i := i) (by simp) ?_
    simp [List.getD, hi]

theorem Ps.at2 {w w' : World} {b o n c : Nat} {ps : List (List UInt8)} (hp : Ps w.heap (.slice (some ⟨b, o, none⟩) n c) ps) (he : Ex w w') {i : Nat} (hi : i < ps.length) : ∃ u, w'.cell? ⟨b, o + i, none⟩ = some u ∧ Bs w.heap u (ps.getD i []) := by
  obtain ⟨vs, h1, h2⟩ := hp
  have hl := All2_len h2
  have hn : n = ps.length := by obtain ⟨a, c', he, _⟩ := h1; injection he
  subst hn
  have := Rd.cell (h1.ex he) (i := i) (by omega)
  refine ⟨vs[i]'(by omega), ?_, ?_⟩
  · rw [this]; simp
  · refine All2_get h2 (i := i) (by simp) ?_
    simp [List.getD, hi]

/-- copy into a whole block, from bytes that are no more -/
theorem copy_rule {K : Env → World → Prop} {P : Program} {d T et bytes ty b n : Nat} {z xs : List Value} {l : List UInt8} {v : Value} {x y : Operand} {e : Env} {w : World} {g : Tg K} {g' : Tg (Op.call ⟨.builtin .copy, #[x, y], #[T, T]⟩)}
    (he : El P T et z 1 bytes) (hx : opd e x = some (.slice (some ⟨b, 0, none⟩) n n)) (hy : opd e y = some v) (hc : Cw w.heap b xs) (hn : xs.length = n) (hv : Bs w.heap v l) (hl : l.length ≤ n)
    (h : ∀ w', Cw w'.heap b (l.map w8 ++ xs.drop l.length) → Fr (· = b) w w' → w'.heap.size = w.heap.size → K ((d, vi l.length) :: e) w') :
    RawR K P (some d) (.call ⟨.builtin .copy, #[x, y], #[T, T]⟩) ty e w g g' := by
  obtain ⟨hu, ⟨i, zv, hi, hz, hzc, hs, hby⟩, hpos, hlen⟩ := he
  have hfc := first_run (P := P) hv
  obtain ⟨a2, c2, rfl, hc2, _⟩ := hv.parts
  have hput := putCells_run (P := P) (a := ⟨b, 0, none⟩) (l.map w8) 0 w (by simp [plain, w8]) (fun j hj => by
    rw [Nat.zero_add, add_addr, Nat.zero_add]
    simp only [List.length_map] at hj
    exact ⟨by rw [hc.cell]; simp; omega, hc.free (by omega)⟩)
  refine raw_value (v := vi l.length) (w' := putCells w ⟨b, 0, none⟩ (l.map w8) 0) ?_ ?_ (h _ ?_ (putCells_fr _ w b 0 0) (putCells_size _ _ _ _))
  · show (opds e [x, y]).isSome = true
    rw [opds_cons hx (opds_cons hy (opds_nil e))]; rfl
  · rw [raw_builtin]
    have hmin : Nat.min l.length n = l.length := Nat.min_eq_left hl
    simp only [builtin, List.map_toArray, List.map_cons, List.map_nil, evd_of hx, evd_of hy, Sem.run_bind]
    unfold Builtin.copy_
    simp only [List.getElem?_toArray, List.getElem?_cons_zero, List.getElem?_cons_succ, Sem.run_bind, und_run hu, Result.andThen_ok, sizeOf, typeInfo, run_program, hi, Sem.run_pure, len_run, hs, hmin, hfc, hput]
    rfl
  · obtain ⟨c0, E, fr, h1, h2, h3⟩ := hc
    subst h2
    simp only [Array.length_toList] at hn
    obtain ⟨c1, h4, h5, h6⟩ := putCells_cells (l.map w8) w b 0 0 c0 E fr h1 (by simp; omega)
    refine ⟨c1, E, fr, h4, ?_, by rw [h5]; exact h3⟩
    apply List.ext_getElem?
    intro j
    rw [Array.getElem?_toList, h6 j]
    by_cases h8 : j < l.length
    · rw [if_pos (by simp; omega), List.getElem?_append_left (by simpa using h8)]
      simp
    · rw [if_neg (by simp; omega), List.getElem?_append_right (by simp; omega), List.getElem?_drop, Array.getElem?_toList]
      congr 1
      simp; omega

/-- a cut of bytes -/
theorem Bs.cut {h : Hp} {a : Option Addr} {n c : Nat} {l : List UInt8} (hb : Bs h (.slice a n c) l) {lo hi m : Nat} (h1 : lo ≤ hi) (h2 : hi ≤ n) (h3 : hi ≤ m) : Bs h (cutv 1 lo hi m a) ((l.take hi).drop lo) := by
  obtain ⟨a', c', he, hc, hl, hx⟩ := hb
  injection he with e1 e2 e3
  subst e1; subst e2; subst e3
  have hlen : ((l.take hi).drop lo).length = hi - lo := by simp [Nat.min_eq_left h2]
  refine ⟨if m = lo then a else a.map (·.add (lo * 1)), m - lo, by unfold cutv; rw [hlen], by omega, by simp, fun hpos => ?_⟩
  rw [hlen] at hpos
  obtain ⟨b, o, rfl, cs, E, fr, h4, h5⟩ := hx (by omega)
  refine ⟨b, o + lo, by rw [if_neg (by omega)]; simp [add_addr], cs, E, fr, h4, fun i hi' => ?_⟩
  rw [hlen, Nat.mul_one] at hi'
  rw [Nat.add_assoc, h5 (lo + i) (by omega)]
  simp only [List.getElem?_map, List.getElem?_drop, List.getElem?_take]
  rw [if_pos (by omega)]
end Go.Lk
