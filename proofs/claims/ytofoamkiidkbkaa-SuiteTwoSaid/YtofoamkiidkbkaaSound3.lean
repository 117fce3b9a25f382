/- Soundness of one compact operation, whatever it is, and of a list of them. No statement of the seat is proved in this text. -/
import Derived.Test.YtofoamkiidkbkaaSound2
set_option linter.unusedSimpArgs false
set_option linter.unusedVariables false
set_option linter.unusedSectionVars false
set_option linter.unnecessarySimpa false
namespace Go.Lk

section
variable {P : Program} {n : Nat} {a : Act} {e : Env} {w : World} {K : Env → World → Prop} {t : Nat} {pos : String} {af : Array Edge} {g : Option (Nat × Bool)}

theorem Agr.bnd {d : Option Nat} (ha : Agr n a e) (hd : ∀ k, d = some k → k < n) (v : Value) : Agr n (a.put d v) (bnd e d v) := by
  cases d with
  | none => exact ha
  | some k => exact ha.put (hd k rfl) v

theorem execOp_bare (ρ : Operand → Value) (d : Option Tmp) (op : Op) : execOp ρ ⟨d, op, t, pos, af, g⟩ = execOp ρ ⟨d, op, t, "", #[], none⟩ := by
  cases op <;> rfl

theorem raw_sound {d : Option Nat} {op : Op} (hs : ∀ cs b, op ≠ .select cs b) (ha : Agr n a e) (hd : ∀ k, d = some k → k < n) (h : raws P d op t K e w) :
    exec P ⟨d, op, t, pos, af, g⟩ a w (Next n K) := by
  obtain ⟨h1, h2⟩ := h
  have hc : execOp a.eval ⟨d, op, t, "", #[], none⟩ = execOp (evd e) ⟨d, op, t, "", #[], none⟩ := execOp_congr _ hs fun x hx => by
    obtain ⟨v, hv⟩ := opds_mem h1 x (by simpa using hx)
    rw [ha.opd hv, evd, hv]; rfl
  unfold exec
  rw [execOp_bare, hc]
  generalize (execOp (evd e) ⟨d, op, t, "", #[], none⟩).run P w = r at *
  cases r with
  | ok m w' =>
    cases m <;> simp only [] at h2 <;> simp only [after]
    case value v => exact ⟨_, ha.bnd hd v, h2⟩
    case skip => exact ⟨_, ha.bnd hd undef, h2⟩
    case enter f args => exact h2.mono fun en w'' ⟨v, hv, hk⟩ => ⟨v, hv, _, ha.bnd hd v, hk⟩
  | halt x w' => simp only [] at h2

theorem copN_sound {op : Op} {x : XOp} (hc : copN P op = some x) (ha : Agr n a e) (h : sx P x K e w) :
    exec P ⟨none, op, t, pos, af, g⟩ a w (Next n K) := by
  cases op <;> simp only [copN] at hc <;> (try (simp at hc; done))
  case store T y z =>
    split at hc <;> (try (simp at hc; done))
    · rename_i hb hs
      injection hc with hc; subst hc
      obtain ⟨u, hu, hh⟩ := B_out h
      clear h
      obtain ⟨v, hv, h⟩ := B_out hh
      clear hh
      cases u <;> (try (exact (show False from h).elim))
      rename_i ad
      cases ad <;> (try (exact (show False from h).elim))
      rename_i ad
      obtain ⟨h1, h2, h3, h4⟩ := h
      obtain ⟨old, ho⟩ := Option.isSome_iff_exists.1 h2
      have hcs : v.cells = #[v] := by cases v <;> first | rfl | simp [plain] at h1
      have hone : v.oneCell' = true := by cases v <;> first | rfl | simp [plain] at h1
      have hst : (store ad v).run P w = .ok () (w.setCell ad v) := by
        rw [run_store P w ad v .plain hone, ho]
        simp [h3]
      have hadd : ad.add 0 = ad := rfl
      unfold exec
      simp only [execOp, Instr.storeAt, ha.opd hu, ha.opd hv, Instr.sureAddr, storeVar, hcs, Sem.run_bind, Sem.run_pure, Result.andThen_ok, size_run hs]
      simp only [List.size_toArray, List.length_cons, List.length_nil, ne_eq, not_true_eq_false, if_false, storeCells, Sem.run_bind, hadd, hst, Result.andThen_ok, Sem.run_pure, after, Nat.zero_add]
      exact ⟨e, ha, h4⟩
    · rename_i m hb hs
      injection hc with hc; subst hc
      obtain ⟨u, hu, hh⟩ := B_out h
      clear h
      obtain ⟨v, hv, h⟩ := B_out hh
      clear hh
      cases u <;> (try (exact (show False from h).elim))
      rename_i ad
      cases ad <;> (try (exact (show False from h).elim))
      rename_i ad
      obtain ⟨h1, h2, h3, h4⟩ := h
      have hst := putCells_run (P := P) (a := ad) v.cells.toList 0 w h2 (fun j hj => by rw [Nat.zero_add]; exact h3 j (by simpa [h1] using hj))
      unfold exec
      simp only [execOp, Instr.storeAt, ha.opd hu, ha.opd hv, Instr.sureAddr, storeVar, Sem.run_bind, Sem.run_pure, Result.andThen_ok, size_run hs, h1, ne_eq, not_true_eq_false, if_false, hst, after]
      exact ⟨e, ha, h4⟩
  case call c =>
    obtain ⟨callee, args, ats⟩ := c
    simp only [] at hc
    split at hc <;> (try (simp at hc; done))
    rename_i f
    split at hc <;> (try (simp at hc; done))
    rename_i hf
    injection hc with hc; subst hc
    obtain ⟨vs, hv, h⟩ := B_out h
    unfold exec
    rw [call_run hf rfl]
    simp only [after]
    have hargs : args.map a.eval = vs.toArray := by rw [← opds_eval ha hv]; apply Array.ext'; simp
    rw [hargs]
    exact h.mono fun en w' ⟨v, hv, hk⟩ => ⟨v, hv, _, ha, hk⟩

theorem cop_sound {o : Oper} (hs : ∀ cs b, o.op ≠ .select cs b) (ha : Agr n a e) (h : sx P (cop P n o) K e w) : exec P o a w (Next n K) := by
  obtain ⟨d, op, t, pos, af, g⟩ := o
  unfold cop at h
  cases d with
  | some d =>
    simp only [] at h
    split at h
    · rename_i hd
      cases hc : copD P d op with
      | some x => rw [hc] at h; exact copD_sound hc ha hd h
      | none => rw [hc] at h; exact raw_sound hs ha (fun k hk => by cases hk; exact hd) h
    · exact (show False from h).elim
  | none =>
    simp only [] at h
    cases hc : copN P op with
    | some x => rw [hc] at h; exact copN_sound hc ha h
    | none => rw [hc] at h; exact raw_sound hs ha (fun k hk => by cases hk) h
end

/-! ### operations with a guard -/
inductive XI where
  | i (x : XOp)
  | g (slot : Nat) (want : Bool) (d : Option Nat) (x : XOp)

def copI (P : Program) (n : Nat) (ops : Array Oper) (o : Oper) : XI :=
  match o.guard with
  | none => .i (cop P n o)
  | some (j, want) =>
    match (ops[j]?).bind (·.dst), (match o.dst with | some d => decide (d < n) | none => true) with
    | some s, true => .g s want o.dst (cop P n o)
    | _, _ => .i .bad

def sxi (P : Program) : XI → (Env → World → Prop) → Env → World → Prop
  | .i x, K, e, w => sx P x K e w
  | .g s want d x, K, e, w => B (look e s) fun v => if boolv v = some want then sx P x K e w else K (bnd e d undef) w

def xop (P : Program) (ops : Array Oper) (o : Oper) (R : Act → World → Prop) (a : Act) (w : World) : Prop :=
  if Region.wanted o (yielded ops a.tmps) = true then exec P o a w R else R (a.put o.dst undef) w

theorem xop_mono {P : Program} {ops : Array Oper} {o : Oper} {R R' : Act → World → Prop} {a : Act} {w : World} (hr : ∀ a w, R a w → R' a w) (h : xop P ops o R a w) : xop P ops o R' a w := by
  unfold xop at *
  split
  · rename_i hw; rw [if_pos hw] at h; exact exec_mono hr h
  · rename_i hw; rw [if_neg hw] at h; exact hr _ _ h

theorem guard_sound {P : Program} {n : Nat} {a : Act} {e : Env} {ops : Array Oper} {o : Oper} {j s : Nat} {want : Bool} {v : Value} (ha : Agr n a e) (hg : o.guard = some (j, want)) (hj : ((ops[j]?).bind (·.dst) : Option Tmp) = some s) (hv : look e s = some v) :
    Region.wanted o (yielded ops a.tmps) = (boolv v == some want) := by
  have h1 := ha.2.2 s v hv
  have h2 : yielded ops a.tmps j = boolv v := by
    unfold yielded
    rw [show ((ops[j]?).bind (·.dst) : Option Tmp) = some s from hj]
    simp only [Option.bind_some, h1]
    cases v <;> rfl
  unfold Region.wanted
  rw [hg]
  simp only [h2]

theorem sxi_sound {P : Program} {n : Nat} {a : Act} {e : Env} {w : World} {K : Env → World → Prop} {ops : Array Oper} {o : Oper} (hs : ∀ cs b, o.op ≠ .select cs b) (ha : Agr n a e) (h : sxi P (copI P n ops o) K e w) :
    xop P ops o (Next n K) a w := by
  unfold copI at h
  unfold xop
  cases hg : o.guard with
  | none =>
    rw [hg] at h
    rw [if_pos (by simp [Region.wanted, hg])]
    exact cop_sound hs ha h
  | some p =>
    obtain ⟨j, want⟩ := p
    rw [hg] at h
    simp only [] at h
    split at h
    · rename_i s hj hd
      obtain ⟨v, hv, h⟩ := B_out h
      rw [guard_sound (P := P) ha hg hj hv]
      by_cases hb : boolv v = some want
      · rw [if_pos hb] at h
        rw [if_pos (by simpa using hb)]
        exact cop_sound hs ha h
      · rw [if_neg hb] at h
        rw [if_neg (by simpa using hb)]
        refine ⟨_, ha.bnd (fun k hk => ?_) undef, h⟩
        rw [hk] at hd
        simpa using hd
    · exact (show False from h).elim

/-! ### a list of operations -/
def Sl (P : Program) (Q : Exit → Env → World → Prop) : List XI → Env → World → Prop
  | [], e, w => Q .normal e w
  | x :: r, e, w => sxi P x (fun e w => Sl P Q r e w) e w

def Qn (n : Nat) (Q : Exit → Env → World → Prop) (x : Exit) (a : Act) (w : World) : Prop := ∃ e, Agr n a e ∧ Q x e w

theorem Sl_sound {P : Program} {n : Nat} {Q : Exit → Env → World → Prop} {ops : Array Oper} : ∀ (l : List Oper) (a : Act) (e : Env) (w : World),
    (∀ o ∈ l, ∀ cs b, o.op ≠ .select cs b) → Agr n a e → Sl P Q (l.map (copI P n ops)) e w → wpList P ops (Qn n Q) l a w
  | [], a, e, w, _, ha, h => ⟨e, ha, h⟩
  | o :: r, a, e, w, hs, ha, h => by
    have h1 := sxi_sound (hs o (by simp)) ha (show sxi P (copI P n ops o) (fun e w => Sl P Q (r.map (copI P n ops)) e w) e w from h)
    unfold xop at h1
    unfold wpList
    split
    · rename_i hw
      rw [if_pos hw] at h1
      exact .inl (exec_wp (exec_mono (fun a' w' ⟨e', ha', hk⟩ => Sl_sound r a' e' w' (fun o ho => hs o (by simp [ho])) ha' hk) h1))
    · rename_i hw
      rw [if_neg hw] at h1
      obtain ⟨e', ha', hk⟩ := h1
      exact Sl_sound r _ e' w (fun o ho => hs o (by simp [ho])) ha' hk
end Go.Lk
