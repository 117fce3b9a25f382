/- Regions whose order Go leaves open: one plan of walking them serves every order. No statement of the seat is proved in this text. -/
import Derived.Test.YtofoamkiidkbkaaSound3
set_option linter.unusedSimpArgs false
set_option linter.unusedVariables false
set_option linter.unusedSectionVars false
set_option linter.unnecessarySimpa false
namespace Go.Lk

/-- What was there stands as it stood, but for blocks of M; there may be more. -/
structure Fr (M : Nat → Prop) (w w' : World) : Prop where
  os : w'.os = w.os
  tape : w'.tape = w.tape
  output : w'.output = w.output
  size : w.heap.size ≤ w'.heap.size
  block : ∀ k, k < w.heap.size → ¬ M k → w'.heap[k]? = w.heap[k]?

abbrev Ex (w w' : World) : Prop := Fr (fun _ => False) w w'

theorem Fr.refl {M : Nat → Prop} (w : World) : Fr M w w := ⟨rfl, rfl, rfl, Nat.le_refl _, fun _ _ _ => rfl⟩
theorem Fr.trans {M : Nat → Prop} {a b c : World} (h : Fr M a b) (k : Fr M b c) : Fr M a c :=
  ⟨k.os.trans h.os, k.tape.trans h.tape, k.output.trans h.output, Nat.le_trans h.size k.size, fun i hi hM => (k.block i (Nat.lt_of_lt_of_le hi h.size) hM).trans (h.block i hi hM)⟩
theorem cell_lt {w : World} {p : Addr} {v : Value} (hp : w.cell? p = some v) : p.block < w.heap.size := by
  unfold World.cell? at hp
  rcases Nat.lt_or_ge p.block w.heap.size with h' | h'
  · exact h'
  · rw [Array.getElem?_eq_none h'] at hp; simp at hp
theorem Fr.cell {M : Nat → Prop} {w w' : World} (h : Fr M w w') {p : Addr} {v : Value} (hp : w.cell? p = some v) (hM : ¬ M p.block) : w'.cell? p = some v := by
  have hb := cell_lt hp
  unfold World.cell? at *
  rw [h.block _ hb hM]
  exact hp

/-! ### the plan -/
inductive Plan where
  | done
  | take (i : Nat) (t : Plan)
  | step (i : Nat) (t more : Plan)
  | stop
  | bad

inductive PlanX where
  | done
  | take (x : XI) (t : PlanX)
  | step (keep : Bool) (x : XI) (t more : PlanX)
  | stop
  | bad

/-- reads memory, if it is quiet -/
def isLoad (o : Oper) : Bool :=
  match o.op with
  | .load _ _ => true
  | .convert _ _ _ => true
  | _ => false

/-- Yields its value in whatever world, or (a load) in every world that has grown out of the first one. -/
def quietX : XOp → Bool
  | .mv .. | .bin .. | .eqb .. | .un .. | .cvi .. | .ext .. | .fld .. | .fa .. | .ix .. | .ixa .. | .idx .. | .ids .. | .nc .. | .len .. | .lens .. | .pick .. | .mki .. | .bld .. | .mkf .. | .sl .. | .sls .. | .sla .. | .ld .. | .lda .. | .b2s .. => true
  | _ => false

/-- all that stands ahead of an operation, as bits -/
def bef (acc : List Nat) (o : Oper) : Nat :=
  o.after.toList.foldl (fun s e => if Region.binds .any e then s ||| 2 ^ e.on ||| acc.getD e.on 0 else s) 0

def befs (l : List Oper) : List Nat := l.foldl (fun acc o => acc ++ [bef acc o]) []

theorem bef_bit {acc : List Nat} {i : Nat} : ∀ (l : List Edge) (s : Nat), (l.foldl (fun s e => if Region.binds .any e then s ||| 2 ^ e.on ||| acc.getD e.on 0 else s) s).testBit i = true →
    s.testBit i = true ∨ ∃ e ∈ l, Region.binds .any e = true ∧ (e.on = i ∨ (acc.getD e.on 0).testBit i = true)
  | [], s, h => .inl h
  | e :: r, s, h => by
    simp only [List.foldl_cons] at h
    rcases bef_bit r _ h with h1 | ⟨e', he', h1⟩
    · split at h1
      · rename_i hb
        rw [Nat.testBit_or, Nat.testBit_or, Nat.testBit_two_pow] at h1
        simp only [Bool.or_eq_true, decide_eq_true_eq] at h1
        rcases h1 with (h1 | h1) | h1
        · exact .inl h1
        · exact .inr ⟨e, by simp, hb, .inl h1⟩
        · exact .inr ⟨e, by simp, hb, .inr h1⟩
      · exact .inl h1
    · exact .inr ⟨e', by simp [he'], h1⟩

theorem befs_snoc (l : List Oper) (o : Oper) : befs (l ++ [o]) = befs l ++ [bef (befs l) o] := by simp [befs]

theorem befs_length (l : List Oper) : (befs l).length = l.length := by
  have : ∀ (l : List Oper) (acc : List Nat), (l.foldl (fun acc o => acc ++ [bef acc o]) acc).length = acc.length + l.length := by
    intro l
    induction l with
    | nil => intro acc; simp
    | cons o r ih => intro acc; rw [List.foldl_cons, ih]; simp; omega
  have := this l []
  simpa [befs] using this

/-- Behind whatever is listed stands all that must stand ahead of it. -/
def Clo (ops : Array Oper) (listed : Array Bool) : Prop :=
  ∀ k o, ops[k]? = some o → listed.getD k false = true → ∀ e ∈ o.after, Region.binds .any e = true → listed.getD e.on false = true

theorem befs_listed {ops : Array Oper} {listed : Array Bool} (hc : Clo ops listed) {i : Nat} : ∀ (m : Nat), m ≤ ops.size → ∀ k, k < m → ((befs (ops.toList.take m)).getD k 0).testBit i = true →
    (∀ o, ops[k]? = some o → ∀ e ∈ o.after, Region.binds .any e = true → listed.getD e.on false = true) → listed.getD i false = true
  | 0, _, k, hk, _, _ => by omega
  | m + 1, hm, k, hk, hb, hl => by
    have hlt : m < ops.toList.length := by simp; omega
    have hsn : ops.toList.take (m + 1) = ops.toList.take m ++ [ops.toList[m]] := by rw [List.take_succ_eq_append_getElem hlt]
    have hlen : (befs (ops.toList.take m)).length = m := by rw [befs_length]; simp; omega
    rw [hsn, befs_snoc] at hb
    by_cases hkm : k < m
    · rw [List.getD_eq_getElem?_getD, List.getElem?_append_left (by omega), ← List.getD_eq_getElem?_getD] at hb
      exact befs_listed hc m (by omega) k hkm hb hl
    · have : k = m := by omega
      subst this
      simp only [List.getD_eq_getElem?_getD] at hb
      rw [List.getElem?_append_right (by omega)] at hb
      simp only [hlen, Nat.sub_self, List.getElem?_cons_zero, Option.getD_some] at hb
      have hop : ops[k]? = some ops.toList[k] := by simp at hlt; simp [hlt]
      rcases bef_bit _ _ hb with h1 | ⟨e, he, hbi, h1⟩
      · simp at h1
      · have hL := hl _ hop e (by simpa using he) hbi
        rcases h1 with h1 | h1
        · rw [h1] at hL; exact hL
        · have hlt' : e.on < k := by
            rcases Nat.lt_or_ge e.on k with h' | h'
            · exact h'
            · rw [List.getD_eq_getElem?_getD, List.getElem?_eq_none (by omega)] at h1; simp at h1
          exact befs_listed hc k (by omega) e.on hlt' h1 (fun o ho e' he' hb' => hc e.on o ho hL e' he' hb')

def reads (P : Program) (n : Nat) : List Oper → Nat → List Nat
  | [], _ => []
  | o :: r, i => if isLoad o then i :: reads P n r (i + 1) else reads P n r (i + 1)

/-- Must a step leave what is read? Not, where every reading stands behind it or ahead of it. -/
def keepM (bs : List Nat) (rs : List Nat) (j : Nat) : Bool := rs.any fun i => i != j && !(bs.getD j 0).testBit i && !(bs.getD i 0).testBit j

theorem reads_mem {P : Program} {n : Nat} : ∀ (l : List Oper) (s i : Nat) (o : Oper), l[i]? = some o → isLoad o = true → (s + i) ∈ reads P n l s
  | [], _, i, o, h, _ => by simp at h
  | x :: r, s, 0, o, h, hl => by
    simp at h
    subst h
    simp [reads, hl]
  | x :: r, s, i + 1, o, h, hl => by
    have := reads_mem (P := P) (n := n) r (s + 1) i o (by simpa using h) hl
    rw [show s + 1 + i = s + (i + 1) by omega] at this
    simp only [reads]
    split
    · exact List.mem_cons_of_mem _ this
    · exact this

theorem keep_of {P : Program} {n : Nat} {ops : Array Oper} {i j : Nat} {o : Oper} (ho : ops[i]? = some o) (hl : isLoad o = true) (hij : i ≠ j)
    (h1 : ((befs ops.toList).getD j 0).testBit i = false) (h2 : ((befs ops.toList).getD i 0).testBit j = false) : keepM (befs ops.toList) (reads P n ops.toList 0) j = true := by
  unfold keepM
  rw [List.any_eq_true]
  have := reads_mem (P := P) (n := n) ops.toList 0 i o (by simpa using ho) hl
  rw [Nat.zero_add] at this
  refine ⟨i, this, ?_⟩
  rw [h1, h2]
  simpa using hij

theorem ready_bit {ops : Array Oper} {listed : Array Bool} (hc : Clo ops listed) {i j : Nat} (hj : j ∈ Region.ready .any ops listed) (hb : ((befs ops.toList).getD j 0).testBit i = true) : listed.getD i false = true := by
  obtain ⟨_, oj, hoj, hall⟩ := mem_ready.1 hj
  have hlt : j < ops.size := (Array.getElem?_eq_some_iff.1 hoj).1
  refine befs_listed hc ops.size (Nat.le_refl _) j hlt (by rw [← Array.length_toList, List.take_length]; exact hb) (fun o ho e he hbi => ?_)
  rw [hoj] at ho
  injection ho with ho
  subst ho
  exact hall e he hbi

theorem Clo.add {ops : Array Oper} {listed : Array Bool} (hc : Clo ops listed) {j : Nat} (hj : j ∈ Region.ready .any ops listed) : Clo ops (listed.setIfInBounds j true) := by
  intro k o ho hk e he hb
  apply getD_set_true
  by_cases hjk : j = k
  · subst hjk
    obtain ⟨_, oj, hoj, hall⟩ := mem_ready.1 hj
    rw [hoj] at ho
    injection ho with ho
    subst ho
    exact hall e he hb
  · rw [getD_set_ne false hjk] at hk
    exact hc k o ho hk e he hb

/-! ### the plan is made with bits -/
def edgeMask (o : Oper) : Nat := o.after.toList.foldl (fun s e => if Region.binds .any e then s ||| 2 ^ e.on else s) 0

def rd (m : Nat) : Nat → List Nat → List Nat
  | _, [] => []
  | i, k :: ks => if !m.testBit i && (k &&& m == k) then i :: rd m (i + 1) ks else rd m (i + 1) ks

/-- What may be taken as soon as it may come up: what is quiet. -/
def earlyM (P : Program) (n : Nat) : List Oper → Nat → Nat → Nat
  | [], _, acc => acc
  | o :: r, i, acc => earlyM P n r (i + 1) (if quietX (cop P n o) then acc ||| 2 ^ i else acc)

def mk (masks : List Nat) (early : Nat) : Nat → Nat → Plan
  | fuel, m =>
    match rd m 0 masks with
    | [] => .done
    | r :: rs =>
      match fuel with
      | 0 => .bad
      | fuel + 1 =>
        match (r :: rs).find? (fun i => early.testBit i) with
        | some i => .take i (mk masks early fuel (m ||| 2 ^ i))
        | none => (r :: rs).foldr (fun i more => .step i (mk masks early fuel (m ||| 2 ^ i)) more) .stop

def quietI : XI → Bool
  | .i x => quietX x
  | .g _ _ _ x => quietX x

def toX (P : Program) (n : Nat) (ops : Array Oper) (bs : List Nat) (lm : List Nat) : Plan → PlanX
  | .done => .done
  | .take i t => match ops[i]? with
    | some o => let x := copI P n ops o; if quietI x then .take x (toX P n ops bs lm t) else .bad
    | none => .bad
  | .step i t more => match ops[i]? with
    | some o => .step (keepM bs lm i) (copI P n ops o) (toX P n ops bs lm t) (toX P n ops bs lm more)
    | none => .bad
  | .stop => .stop
  | .bad => .bad

/-- Of two operations one stands ahead of the other, or they are apart. -/
def allOk (ops : Array Oper) : Bool :=
  let l := ops.toList.zipIdx.map fun (o, i) => (i, o, edgeMask o)
  l.all fun (i, oi, mi) => l.all fun (j, oj, mj) => i == j || mj.testBit i || mi.testBit j || oi.apart ops oj

def plan (P : Program) (n : Nat) (ops : Array Oper) : PlanX :=
  if Region.noSelect ops && allOk ops then
    toX P n ops (befs ops.toList) (reads P n ops.toList 0) (mk (ops.toList.map edgeMask) (earlyM P n ops.toList 0 0) ops.size 0)
  else .bad

/-- The operation is taken out of its turn: what it reads must stay. -/
def sq (P : Program) (M : Nat → Prop) : XOp → (Env → Prop) → Env → World → Prop
  | .ld d x, K, e, w => B (opd e x) fun u => match u with
      | .pointer (some a) => ¬ M a.block ∧ B (w.cell? a) fun v => K ((d, v) :: e)
      | _ => False
  | .lda d x n, K, e, w => B (opd e x) fun u => match u with
      | .pointer (some a) => ¬ M a.block ∧ LdaW w a n fun v => K ((d, v) :: e)
      | _ => False
  | .b2s d x, K, e, w => B (opd e x) fun u => (∀ a, u.ownBlock = some a → ¬ M a) ∧ B2sW w u fun v => K ((d, v) :: e)
  | x, K, e, w => sx P x (fun e _ => K e) e w

def sqi (P : Program) (M : Nat → Prop) : XI → (Env → Prop) → Env → World → Prop
  | .i x, K, e, w => sq P M x K e w
  | .g s want d x, K, e, w => B (look e s) fun v => if boolv v = some want then sq P M x K e w else K (bnd e d undef)

def KeepW (k : Bool) (M : Nat → Prop) (w w' : World) (p : Prop) : Prop := (k = true → Fr M w w') ∧ p
def StepW (p q : Prop) : Prop := p ∧ q

def runX (P : Program) (Q : Exit → Env → World → Prop) (M : Nat → Prop) : PlanX → Env → World → Prop
  | .done, e, w => Q .normal e w
  | .take x t, e, w => sqi P M x (fun e => runX P Q M t e w) e w
  | .step k x t more, e, w => StepW (sxi P x (fun e' w' => KeepW k M w w' (runX P Q M t e' w')) e w) (runX P Q M more e w)
  | .stop, _, _ => True
  | .bad, _, _ => False

/-- the same, and behind a step fewer blocks may be turned -/
def runY (P : Program) (Q : Exit → Env → World → Prop) : PlanX → (Nat → Prop) → Env → World → Prop
  | .done, _, e, w => Q .normal e w
  | .take x t, M, e, w => sqi P M x (fun e => runY P Q t M e w) e w
  | .step k x t more, M, e, w => StepW (sxi P x (fun e' w' => KeepW k M w w' (∃ M' : Nat → Prop, (∀ b, M' b → M b) ∧ runY P Q t M' e' w')) e w) (runY P Q more M e w)
  | .stop, _, _, _ => True
  | .bad, _, _, _ => False

/-! ### it serves every order -/
section
variable {P : Program} {ops : Array Oper} {Q : Exit → Act → World → Prop} {M : Nat → Prop} {kp : Nat → Bool}

def xopi (P : Program) (ops : Array Oper) (i : Nat) (R : Act → World → Prop) (a : Act) (w : World) : Prop :=
  match ops[i]? with
  | none => R a w
  | some o => xop P ops o R a w

theorem xopi_mono {i : Nat} {R R' : Act → World → Prop} {a : Act} {w : World} (hr : ∀ a w, R a w → R' a w) (h : xopi P ops i R a w) : xopi P ops i R' a w := by
  unfold xopi at *
  split <;> rename_i ho <;> rw [ho] at h
  · exact hr _ _ h
  · exact xop_mono hr h

def wK (P : Program) (ops : Array Oper) (Q : Exit → Act → World → Prop) (M : Nat → Prop) (kp : Nat → Bool) : Nat → Array Bool → Act → World → Prop
  | 0, listed, a, w => Region.ready .any ops listed = [] ∧ Q .normal a w
  | fuel + 1, listed, a, w =>
    (Region.ready .any ops listed = [] → Q .normal a w) ∧
    ∀ i ∈ Region.ready .any ops listed, xopi P ops i (fun a' w' => (kp i = true → Fr M w w') ∧ wK P ops Q M kp fuel (listed.setIfInBounds i true) a' w') a w

theorem wK_sub {M' : Nat → Prop} (hs : ∀ b, M' b → M b) : ∀ (fuel : Nat) (listed : Array Bool) (a : Act) (w : World), wK P ops Q M' kp fuel listed a w → wK P ops Q M kp fuel listed a w
  | 0, _, _, _, h => h
  | fuel + 1, _, _, _, h => ⟨h.1, fun i hi => xopi_mono (fun a' w' h' => ⟨fun hk => ⟨(h'.1 hk).os, (h'.1 hk).tape, (h'.1 hk).output, (h'.1 hk).size, fun b hb hn => (h'.1 hk).block b hb (fun hm => hn (hs b hm))⟩, wK_sub hs fuel _ a' w' h'.2⟩) (h.2 i hi)⟩

theorem xopi_wp {i : Nat} {R : Act → World → Prop} {a : Act} {w : World} (h : xopi P ops i R a w) : wpOp P ops Q i R a w := by
  unfold xopi at h
  unfold wpOp
  split <;> rename_i ho <;> rw [ho] at h
  · exact h
  · unfold xop at h
    simp only [] at h
    split
    · rename_i hw; rw [if_pos hw] at h; exact .inl (exec_wp h)
    · rename_i hw; rw [if_neg hw] at h; exact h

theorem wK_any : ∀ (fuel : Nat) (listed : Array Bool) (a : Act) (w : World), wK P ops Q M kp fuel listed a w → wpAny P .any ops Q fuel listed a w
  | 0, _, _, _, h => h
  | fuel + 1, _, _, _, h => ⟨h.1, fun i hi => wpOp_mono (fun a' w' h' => wK_any fuel _ a' w' h'.2) (xopi_wp (h.2 i hi))⟩

/-- in every world of C the operation yields v and nothing else -/
def QY (P : Program) (ops : Array Oper) (C : World → Prop) (o : Oper) (v : Value) (a : Act) : Prop :=
  (Region.wanted o (yielded ops a.tmps) = true ∧ ∀ w, C w → (execOp a.eval o).run P w = .ok (.value v) w) ∨
  (Region.wanted o (yielded ops a.tmps) = false ∧ v = undef)

theorem QY.same {C : World → Prop} {o : Oper} {v : Value} {a a' : Act} (h : QY P ops C o v a) (he : execOp a'.eval o = execOp a.eval o)
    (hw : Region.wanted o (yielded ops a'.tmps) = Region.wanted o (yielded ops a.tmps)) : QY P ops C o v a' := by
  unfold QY at *
  rw [he, hw]
  exact h

theorem QY.xop {C : World → Prop} {i : Nat} {o : Oper} {v : Value} {a : Act} {w : World} {R : Act → World → Prop} (hi : ops[i]? = some o) (h : QY P ops C o v a) (hC : C w) (hr : R (a.put o.dst v) w) : xopi P ops i R a w := by
  unfold xopi
  rw [hi]
  simp only []
  unfold Lk.xop
  rcases h with ⟨h1, h2⟩ | ⟨h1, rfl⟩
  · rw [if_pos h1]; exact exec_pure (h2 w hC) hr
  · rw [if_neg (by simp [h1])]; exact hr

theorem xopi_put {C : World → Prop} {j : Nat} {oi oj : Oper} {v : Value} (hj : ops[j]? = some oj) (hap : oi.apart ops oj = true)
    (hsi : ∀ cs b, oi.op ≠ .select cs b) (hsj : ∀ cs b, oj.op ≠ .select cs b) {R : Act → World → Prop} {a : Act} {w : World}
    (hy : QY P ops C oi v a) (h : xopi P ops j R (a.put oi.dst v) w) :
    xopi P ops j (fun a' w' => QY P ops C oi v a' ∧ R (a'.put oi.dst v) w') a w := by
  obtain ⟨h1, h2, h3⟩ := Oper.apart_spec hap
  have keep : ∀ u, QY P ops C oi v (a.put oj.dst u) := fun u => hy.same (execOp_put oi hsi a oj.dst u h3) (wanted_put oi a oj.dst u h3)
  unfold xopi at *
  rw [hj] at h ⊢
  simp only [] at h ⊢
  unfold xop at *
  rw [wanted_put oj a oi.dst v h1] at h
  split
  · rename_i hw
    rw [if_pos hw] at h
    unfold exec at *
    rw [execOp_put oj hsj a oi.dst v h1] at h
    generalize (execOp a.eval oj).run P w = r at *
    cases r with
    | ok m w' =>
      cases m <;> simp only [after] at h ⊢
      case value u => exact ⟨keep u, by rw [← Act.put_comm a v u h2]; exact h⟩
      case skip => exact ⟨keep undef, by rw [← Act.put_comm a v undef h2]; exact h⟩
      case enter f args => exact h.mono fun en w'' ⟨u, hu, hr⟩ => ⟨u, hu, keep u, by rw [← Act.put_comm a v u h2]; exact hr⟩
    | halt x w' => simp only [after] at h
  · rename_i hw
    rw [if_neg hw] at h
    exact ⟨keep undef, by rw [← Act.put_comm a v undef h2]; exact h⟩

theorem wK_take {C : World → Prop} {i : Nat} {oi : Oper} {v : Value} (hi : ops[i]? = some oi) (hsel : ∀ (j : Nat) (o : Oper) cs b, ops[j]? = some o → o.op ≠ .select cs b)
    (hCk : ∀ j, j ≠ i → ((befs ops.toList).getD j 0).testBit i = false → ((befs ops.toList).getD i 0).testBit j = false → ∀ w w', C w → (kp j = true → Fr M w w') → C w') :
    ∀ (fuel : Nat) (listed : Array Bool) (a : Act) (w : World), Clo ops listed →
      (∀ j oj, ops[j]? = some oj → j ≠ i → listed.getD j true = false → (∀ e ∈ oj.after, Region.binds .any e = true → e.on ≠ i) → oi.apart ops oj = true) →
      i ∈ Region.ready .any ops listed → QY P ops C oi v a → C w →
      wK P ops Q M kp fuel (listed.setIfInBounds i true) (a.put oi.dst v) w → wK P ops Q M kp (fuel + 1) listed a w := by
  intro fuel
  induction fuel with
  | zero =>
    intro listed a w _ _ hr hy hC H
    refine ⟨fun h => (by rw [h] at hr; cases hr), fun j hj => ?_⟩
    by_cases hji : j = i
    · subst hji; exact hy.xop hi hC ⟨fun _ => Fr.refl _, H⟩
    · have := ready_mono hj hji
      rw [H.1] at this
      cases this
  | succ fuel ih =>
    intro listed a w hclo hfree hr hy hC H
    refine ⟨fun h => (by rw [h] at hr; cases hr), fun j hj => ?_⟩
    by_cases hji : j = i
    · subst hji; exact hy.xop hi hC ⟨fun _ => Fr.refl _, H⟩
    · have h1 := H.2 j (ready_mono hj hji)
      obtain ⟨hjun, oj, hoj, hall⟩ := mem_ready.1 hj
      have hnot : ∀ e ∈ oj.after, Region.binds .any e = true → e.on ≠ i := fun e he hb heq => by
        have h1 := hall e he hb
        have h0 := (mem_ready.1 hr).1
        rw [heq] at h1
        rcases Nat.lt_or_ge i listed.size with h' | h'
        · simp [h'] at h0 h1; rw [h0] at h1; cases h1
        · simp [Array.getElem?_eq_none h'] at h1
      have h2 := xopi_put hoj (hfree j oj hoj hji hjun hnot) (fun cs b => hsel i oi cs b hi) (fun cs b => hsel j oj cs b hoj) hy h1
      have hfree' : ∀ k ok, ops[k]? = some ok → k ≠ i → (listed.setIfInBounds j true).getD k true = false →
          (∀ e ∈ ok.after, Region.binds .any e = true → e.on ≠ i) → oi.apart ops ok = true := fun k ok hk hki hun hno => by
        refine hfree k ok hk hki ?_ hno
        by_cases hjk : j = k
        · subst hjk; exact hjun
        · rw [getD_set_ne true hjk] at hun; exact hun
      have hbit : ((befs ops.toList).getD j 0).testBit i = false := by
        cases hb : ((befs ops.toList).getD j 0).testBit i with
        | false => rfl
        | true =>
          have h1 := ready_bit hclo hj hb
          have h0 := (mem_ready.1 hr).1
          rcases Nat.lt_or_ge i listed.size with h' | h'
          · simp [h'] at h0 h1; rw [h0] at h1; cases h1
          · simp [Array.getElem?_eq_none h'] at h1
      have hbit' : ((befs ops.toList).getD i 0).testBit j = false := by
        cases hb : ((befs ops.toList).getD i 0).testBit j with
        | false => rfl
        | true =>
          have h1 := ready_bit hclo hr hb
          rcases Nat.lt_or_ge j listed.size with h' | h'
          · simp [h'] at hjun h1; rw [hjun] at h1; cases h1
          · simp [Array.getElem?_eq_none h'] at h1
      refine xopi_mono (fun a' w' h3 => ⟨h3.2.1, ih (listed.setIfInBounds j true) a' w' (hclo.add hj) hfree' (ready_mono hr (Ne.symm hji)) h3.1 (hCk j hji hbit hbit' w w' hC h3.2.1) ?_⟩) h2
      rw [Array.setIfInBounds_comm _ _ hji]
      exact h3.2.2
end
end Go.Lk
