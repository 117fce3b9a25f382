/- Whole code read as compact code, its meaning, and that it is sound; the entry into a function. No statement of the seat is proved in this text. -/
import Derived.Test.YtofoamkiidkbkaaRun
set_option linter.unusedSimpArgs false
set_option linter.unusedVariables false
set_option linter.unusedSectionVars false
set_option linter.unnecessarySimpa false
namespace Go.Lk

inductive XCode where
  | skip
  | ops (l : List XI)
  | par (t : PlanX)
  | seq (a b : XCode)
  | cond (c : Operand) (a b : XCode)
  | block (id : Nat) (b : XCode)
  | loop (b : XCode)
  | exit (id : Nat)
  | scope0 (b : XCode)
  | scope1 (b : XCode) (l : Nat) (r : XCode)
  | scope2 (b : XCode) (l : Nat) (r : XCode) (l' : Nat) (r' : XCode)
  | label (l : Nat)
  | goto (l : Nat)
  | ret
  | bad

def flX : XCode → Nat → Option XCode
  | .seq a b, l => match flX a l with
    | some r => some (.seq r b)
    | none => flX b l
  | .label l', l => if l' == l then some .skip else none
  | _, _ => none

def labelsX : XCode → List Nat
  | .seq a b => labelsX a ++ labelsX b
  | .label l => [l]
  | _ => []

def mkScope (b : XCode) : XCode :=
  match labelsX b with
  | [] => .scope0 b
  | [l] => match flX b l with
    | some r => .scope1 b l r
    | none => .bad
  | [l, l'] => match flX b l, flX b l' with
    | some r, some r' => .scope2 b l r l' r'
    | _, _ => .bad
  | _ => .bad

def cc (P : Program) (n : Nat) : Code → XCode
  | .skip => .skip
  | .region _ ops false => if Region.noSelect ops then .ops (ops.toList.map (copI P n ops)) else .bad
  | .region _ ops true => if inside ops then .par (plan P n ops) else .bad
  | .seq a b => .seq (cc P n a) (cc P n b)
  | .cond c a b => .cond c (cc P n a) (cc P n b)
  | .block id b => .block id (cc P n b)
  | .loop b => .loop (cc P n b)
  | .exit id => .exit id
  | .scope b => mkScope (cc P n b)
  | .label l => .label l
  | .goto l => .goto l
  | .ret => .ret
  | _ => .bad

/-! ### meaning -/
abbrev Post := Exit → Env → World → Prop

def sub : Env → Env → Prop
  | [], _ => True
  | (t, v) :: r, e => look e t = some v ∧ sub r e

def thenX (N : Env → World → Prop) (Q : Post) : Post
  | .normal, e, w => N e w
  | x, e, w => Q x e w

def blockX (id : Nat) (Q : Post) : Post
  | .exit i, e, w => if i = id then Q .normal e w else Q (.exit i) e w
  | x, e, w => Q x e w

def jumpX (J : Nat → Env → World → Prop) (Q : Post) : Post
  | .goto l, e, w => J l e w
  | x, e, w => Q x e w

def LoopW (S : Post → Env → World → Prop) (Q : Post) (e : Env) (w : World) : Prop :=
  ∃ (κ : Type) (E : κ → Env) (I : κ → World → Prop) (μ : κ → Nat), (∃ k, sub (E k) e ∧ I k w) ∧
    ∀ k w, I k w → S (thenX (fun e' w' => ∃ k', sub (E k') e' ∧ I k' w' ∧ μ k' < μ k) Q) (E k) w

def Scope1W (S R : Post → Env → World → Prop) (l : Nat) (Q : Post) (e : Env) (w : World) : Prop :=
  ∃ (κ : Type) (E : κ → Env) (I : κ → World → Prop) (μ : κ → Nat),
    S (jumpX (fun j e' w' => j = l ∧ ∃ k, sub (E k) e' ∧ I k w') Q) e w ∧
    ∀ k w, I k w → R (jumpX (fun j e' w' => j = l ∧ ∃ k', sub (E k') e' ∧ I k' w' ∧ μ k' < μ k) Q) (E k) w

def Scope2W (S R R' : Post → Env → World → Prop) (l l' : Nat) (Q : Post) (e : Env) (w : World) : Prop :=
  ∃ (κ : Type) (E : Nat → κ → Env) (I : Nat → κ → World → Prop) (μ : Nat → κ → Nat),
    S (jumpX (fun j e' w' => ∃ k, sub (E j k) e' ∧ I j k w') Q) e w ∧
    (∀ k w, I l k w → R (jumpX (fun j e' w' => ∃ k', sub (E j k') e' ∧ I j k' w' ∧ μ j k' < μ l k) Q) (E l k) w) ∧
    (∀ k w, I l' k w → R' (jumpX (fun j e' w' => ∃ k', sub (E j k') e' ∧ I j k' w' ∧ μ j k' < μ l' k) Q) (E l' k) w) ∧
    ∀ j k w, I j k w → j = l ∨ j = l'

def ParW (P : Program) (Q : Post) (t : PlanX) (e : Env) (w : World) : Prop := (∃ M, runX P Q M t e w) ∨ ∃ M, runY P Q t M e w

def St (P : Program) : XCode → Post → Env → World → Prop
  | .skip, Q, e, w => Q .normal e w
  | .ops l, Q, e, w => Sl P Q l e w
  | .par t, Q, e, w => ParW P Q t e w.drew
  | .seq a b, Q, e, w => St P a (thenX (St P b Q) Q) e w
  | .cond c a b, Q, e, w => B (opd e c) fun v => B (boolv v) fun t => CondW t (St P a Q e w) (St P b Q e w)
  | .block id b, Q, e, w => St P b (blockX id Q) e w
  | .loop b, Q, e, w => LoopW (St P b) Q e w
  | .exit id, Q, e, w => Q (.exit id) e w
  | .scope0 b, Q, e, w => St P b (jumpX (fun _ _ _ => False) Q) e w
  | .scope1 b l r, Q, e, w => Scope1W (St P b) (St P r) l Q e w
  | .scope2 b l r l' r', Q, e, w => Scope2W (St P b) (St P r) (St P r') l l' Q e w
  | .label _, Q, e, w => Q .normal e w
  | .goto l, Q, e, w => Q (.goto l) e w
  | .ret, Q, e, w => Q .ret e w
  | .bad, _, _, _ => False

/-! ### soundness -/
theorem sub_agr {n : Nat} {a : Act} {e : Env} (ha : Agr n a e) : ∀ {E : Env}, sub E e → Agr n a E
  | [], _ => ⟨ha.1, ha.2.1, fun t v h => by simp [look] at h⟩
  | (t, v) :: r, h => ⟨ha.1, ha.2.1, fun t' v' h' => by
      simp only [look] at h'
      by_cases ht : t = t'
      · subst ht; simp at h'; subst h'; exact ha.2.2 t v h.1
      · simp [ht] at h'; exact (sub_agr ha h.2).2.2 t' v' h'⟩

theorem exists_min {p : Nat → Prop} (h : ∃ m, p m) : ∃ m, p m ∧ ∀ j, p j → m ≤ j := by
  obtain ⟨m, hm⟩ := h
  induction m using Nat.strongRecOn with
  | _ m ih =>
    by_cases hj : ∃ j, p j ∧ j < m
    · obtain ⟨j, hp, hlt⟩ := hj
      exact ih j hlt hp
    · refine ⟨m, hm, fun j hp => ?_⟩
      rcases Nat.lt_or_ge j m with hlt | hge
      · exact absurd ⟨j, hp, hlt⟩ hj
      · exact hge

open Classical in
theorem wp_loop_min {P : Program} {c : Code} {Q : Exit → Act → World → Prop} {κ : Type} (J : κ → Act → World → Prop) (μ : κ → Nat) {a : Act} {w : World} (h0 : ∃ k, J k a w)
    (round : ∀ k a w, J k a w → c.wp P (Exit.then (fun a' w' => ∃ k', J k' a' w' ∧ μ k' < μ k) Q) a w) : (Code.loop c).wp P Q a w := by
  let M : Act → World → Nat := fun a w => if h : ∃ m k, J k a w ∧ μ k = m then Classical.choose (exists_min h) else 0
  have hM : ∀ a w, (∃ k, J k a w) → (∃ k, J k a w ∧ μ k = M a w) ∧ ∀ k, J k a w → M a w ≤ μ k := by
    intro a w ⟨k, hk⟩
    have h : ∃ m k, J k a w ∧ μ k = m := ⟨_, k, hk, rfl⟩
    have hs := Classical.choose_spec (exists_min h)
    have he : M a w = Classical.choose (exists_min h) := by simp only [M]; rw [dif_pos h]
    rw [he]
    exact ⟨hs.1, fun k hk => hs.2 _ ⟨k, hk, rfl⟩⟩
  refine wp_loop (fun a w => ∃ k, J k a w) M h0 fun a w hI => ?_
  obtain ⟨⟨k, hk, hmu⟩, _⟩ := hM a w hI
  refine Go.wp_mono (round k a w hk) fun x a' w' hq => ?_
  cases x <;> simp only [Exit.then] at hq ⊢ <;> (try exact hq)
  obtain ⟨k', hk', hlt⟩ := hq
  refine ⟨⟨k', hk'⟩, ?_⟩
  have := (hM a' w' ⟨k', hk'⟩).2 k' hk'
  omega

def Exit.jumps (J : Nat → Act → World → Prop) (Q : Exit → Act → World → Prop) : Exit → Act → World → Prop
  | .goto l, a, w => J l a w
  | x, a, w => Q x a w

theorem wp_scope_all {P : Program} {c : Code} {Q : Exit → Act → World → Prop} {κ : Type} (J : Nat → κ → Act → World → Prop) (μ : Nat → κ → Nat) {a : Act} {w : World}
    (first : c.wp P (Exit.jumps (fun l a w => ∃ k, J l k a w) Q) a w)
    (pass : ∀ l k a w, J l k a w → ∃ rest, findLabel c l = some rest ∧ rest.wp P (Exit.jumps (fun l' a' w' => ∃ k', J l' k' a' w' ∧ μ l' k' < μ l k) Q) a w) : (Code.scope c).wp P Q a w := by
  intro b ks cs
  have key : ∀ m l k a w, μ l k = m → J l k a w → ∃ rest, gotoIn l (.inScope c :: ks) = some (.code rest :: .inScope c :: ks) ∧ ∃ e a' w', Q e a' w' ∧ Arrives P (lone (b.at a (.code rest :: .inScope c :: ks)) cs w) b ks cs e a' w' := by
    intro m
    induction m using Nat.strongRecOn with
    | _ m ih =>
      intro l k a w hm hJ
      obtain ⟨rest, hf, hr⟩ := pass l k a w hJ
      refine ⟨rest, by simp [gotoIn, hf], ?_⟩
      obtain ⟨e, a₁, w₁, hq, harr⟩ := hr b (.inScope c :: ks) cs
      cases e with
      | normal => exact ⟨.normal, a₁, w₁, hq, Steps.trans harr (.one step_inScope)⟩
      | exit id => exact ⟨.exit id, a₁, w₁, hq, fun k' hk => harr k' (by simp [exitTo, hk])⟩
      | goto l' =>
        obtain ⟨k', hJ', hlt⟩ := hq
        obtain ⟨rest', hg', e₂, a₂, w₂, hq₂, harr₂⟩ := ih _ (by omega) l' k' a₁ w₁ rfl hJ'
        exact ⟨e₂, a₂, w₂, hq₂, .of_steps (harr _ hg') harr₂⟩
      | ret => exact ⟨_, a₁, w₁, hq, harr⟩
      | panic ch => exact ⟨_, a₁, w₁, hq, harr⟩
      | outgrown => exact ⟨_, a₁, w₁, hq, harr⟩
  obtain ⟨e, a₁, w₁, hq, harr⟩ := first b (.inScope c :: ks) cs
  cases e with
  | normal => exact ⟨.normal, a₁, w₁, hq, .head step_scope (Steps.trans harr (.one step_inScope))⟩
  | exit id => exact ⟨.exit id, a₁, w₁, hq, fun k' hk => .head step_scope (harr k' (by simp [exitTo, hk]))⟩
  | goto l' =>
    obtain ⟨k', hJ'⟩ := hq
    obtain ⟨rest', hg', e₂, a₂, w₂, hq₂, harr₂⟩ := key _ l' k' a₁ w₁ rfl hJ'
    exact ⟨e₂, a₂, w₂, hq₂, .of_steps (.head step_scope (harr _ hg')) harr₂⟩
  | ret => exact ⟨_, a₁, w₁, hq, .of_steps (.one step_scope) harr⟩
  | panic ch => exact ⟨_, a₁, w₁, hq, .of_steps (.one step_scope) harr⟩
  | outgrown => exact ⟨_, a₁, w₁, hq, .of_steps (b := b) (k := ks) (cs := cs) (e := .outgrown) (.one step_scope) harr⟩

theorem fl_cc {P : Program} {n : Nat} : ∀ (c : Code) (l : Nat) (r : XCode), flX (cc P n c) l = some r → ∃ rest, findLabel c l = some rest ∧ cc P n rest = r
  | .seq a b, l, r, h => by
    simp only [cc, flX] at h
    cases ha : flX (cc P n a) l with
    | some r' =>
      rw [ha] at h
      injection h with h
      obtain ⟨rest, h1, h2⟩ := fl_cc a l r' ha
      exact ⟨.seq rest b, by simp [findLabel, h1], by simp [cc, h2, h]⟩
    | none =>
      rw [ha] at h
      obtain ⟨rest, h1, h2⟩ := fl_cc b l r h
      have : findLabel a l = none := by
        cases hfa : findLabel a l with
        | none => rfl
        | some ra =>
          exfalso
          have : ∀ (c : Code) (l : Nat) (rc : Code), findLabel c l = some rc → ∃ r, flX (cc P n c) l = some r := by
            intro c
            induction c with
            | seq x y ihx ihy =>
              intro l rc hc
              simp only [findLabel] at hc
              simp only [cc, flX]
              cases hx : flX (cc P n x) l with
              | some r => exact ⟨_, rfl⟩
              | none =>
                cases hfx : findLabel x l with
                | some rx =>
                  obtain ⟨r, hr⟩ := ihx l rx hfx
                  rw [hx] at hr; cases hr
                | none => rw [hfx] at hc; exact ihy l rc hc
            | label l' =>
              intro l rc hc
              simp only [findLabel] at hc
              simp only [cc, flX]
              split at hc
              · rename_i hl; rw [if_pos hl]; exact ⟨_, rfl⟩
              · cases hc
            | _ => intro l rc hc; simp [findLabel] at hc
          obtain ⟨r', hr'⟩ := this a l ra hfa
          rw [ha] at hr'; cases hr'
      exact ⟨rest, by simp [findLabel, this, h1], h2⟩
  | .label l', l, r, h => by
    simp only [cc, flX] at h
    split at h
    · rename_i hl
      injection h with h
      exact ⟨.skip, by simp only [findLabel]; rw [if_pos hl], by rw [← h]; rfl⟩
    · cases h
  | .skip, l, r, h => by simp [cc, flX] at h
  | .region id ops d, l, r, h => by
    cases d <;> simp only [cc] at h <;> split at h <;> simp [flX] at h
  | .cond c a b, l, r, h => by simp [cc, flX] at h
  | .block id b, l, r, h => by simp [cc, flX] at h
  | .loop b, l, r, h => by simp [cc, flX] at h
  | .rangeFunc .., l, r, h => by simp [cc, flX] at h
  | .exit id, l, r, h => by simp [cc, flX] at h
  | .scope b, l, r, h => by
    simp only [cc, mkScope] at h
    revert h
    (repeat' split) <;> simp [flX]
  | .goto l', l, r, h => by simp [cc, flX] at h
  | .ret, l, r, h => by simp [cc, flX] at h
  | .refuse _, l, r, h => by simp [cc, flX] at h

section
variable {P : Program} {n : Nat}

theorem qn_then {N : Env → World → Prop} {Q : Post} {NA : Act → World → Prop} (hN : ∀ a w e, Agr n a e → N e w → NA a w) : ∀ x a w, Qn n (thenX N Q) x a w → Exit.then NA (Qn n Q) x a w := by
  intro x a w ⟨e, ha, h⟩
  cases x <;> simp only [thenX, Exit.then] at h ⊢ <;> first | exact hN _ _ _ ha h | exact ⟨e, ha, h⟩

theorem qn_jump {J : Nat → Env → World → Prop} {Q : Post} {JA : Nat → Act → World → Prop} (hJ : ∀ l a w e, Agr n a e → J l e w → JA l a w) : ∀ x a w, Qn n (jumpX J Q) x a w → Exit.jumps JA (Qn n Q) x a w := by
  intro x a w ⟨e, ha, h⟩
  cases x <;> simp only [jumpX, Exit.jumps] at h ⊢ <;> first | exact hJ _ _ _ _ ha h | exact ⟨e, ha, h⟩

def Snd (P : Program) (n : Nat) (c : Code) : Prop := ∀ (Q : Post) (a : Act) (e : Env) (w : World), Agr n a e → St P (cc P n c) Q e w → c.wp P (Qn n Q) a w

theorem Snd.seq {x y : Code} (hx : Snd P n x) (hy : Snd P n y) : Snd P n (.seq x y) := fun Q a e w ha h =>
  wp_seq (Go.wp_mono (hx _ a e w ha h) (qn_then fun a w e ha h => hy Q a e w ha h))

theorem Snd.skip : Snd P n .skip := fun Q a e w ha h => wp_skip ⟨e, ha, h⟩

theorem St_both (hm : P.follows .mixedOrders = true) : ∀ (c : Code), Snd P n c ∧ ∀ l rest, findLabel c l = some rest → Snd P n rest := by
  intro c
  induction c with
  | skip => exact ⟨Snd.skip, fun l rest h => by simp [findLabel] at h⟩
  | region id ops d =>
    refine ⟨?_, fun l rest h => by simp [findLabel] at h⟩
    intro Q a e w ha h
    cases d with
    | false =>
      simp only [cc] at h
      split at h
      · rename_i hs
        refine wp_region_list (Sl_sound ops.toList a e w (fun o ho => ?_) ha h)
        obtain ⟨i, hi⟩ := List.getElem?_of_mem ho
        exact fun cs b => Region.noSelect_spec hs i o cs b (by simpa using hi)
      · exact (show False from h).elim
    | true =>
      simp only [cc] at h
      split at h
      · rename_i hs
        rcases (show (∃ M, runX P Q M (plan P n ops) e w.drew) ∨ ∃ M, runY P Q (plan P n ops) M e w.drew from h) with ⟨M, h⟩ | ⟨M, h⟩
        · exact par_sound hm hs ha h
        · exact parY_sound hm hs ha h
      · exact (show False from h).elim
  | seq x y ihx ihy =>
    refine ⟨ihx.1.seq ihy.1, fun l rest h => ?_⟩
    simp only [findLabel] at h
    split at h
    · rename_i r hr
      injection h with h; subst h
      exact (ihx.2 l r hr).seq ihy.1
    · exact ihy.2 l rest h
  | cond c x y ihx ihy =>
    refine ⟨?_, fun l rest h => by simp [findLabel] at h⟩
    intro Q a e w ha h
    obtain ⟨v, hv, h⟩ := B_out (show B _ _ from h)
    obtain ⟨t, ht, h1, h2⟩ := B_out h
    have hc : a.eval c = .bool t := by
      rw [ha.opd hv]
      cases v <;> simp [boolv] at ht
      rw [ht]
    exact wp_cond_split hc (fun h => ihx.1 Q a e w ha (h1 h)) (fun h => ihy.1 Q a e w ha (h2 h))
  | block id b ih =>
    refine ⟨?_, fun l rest h => by simp [findLabel] at h⟩
    intro Q a e w ha h
    refine wp_block (Go.wp_mono (ih.1 _ a e w ha h) fun x a w ⟨e, ha, h⟩ => ?_)
    cases x <;> simp only [blockX, Exit.inBlock] at h ⊢ <;> (try exact ⟨e, ha, h⟩)
    split <;> rename_i hid
    · rw [if_pos hid] at h; exact ⟨e, ha, h⟩
    · rw [if_neg hid] at h; exact ⟨e, ha, h⟩
  | loop b ih =>
    refine ⟨?_, fun l rest h => by simp [findLabel] at h⟩
    intro Q a e w ha h
    obtain ⟨κ, E, I, μ, ⟨k0, hs0, hI0⟩, hround⟩ := (show LoopW _ _ _ _ from h)
    refine wp_loop_min (fun k a w => Agr n a (E k) ∧ I k w) μ ⟨k0, sub_agr ha hs0, hI0⟩ fun k a w ⟨ha, hI⟩ => ?_
    refine Go.wp_mono (ih.1 _ a (E k) w ha (hround k w hI)) (qn_then fun a w e ha ⟨k', hs, hI', hlt⟩ => ⟨k', ⟨sub_agr ha hs, hI'⟩, hlt⟩)
  | exit id => exact ⟨fun Q a e w ha h => wp_exit ⟨e, ha, h⟩, fun l rest h => by simp [findLabel] at h⟩
  | label l =>
    refine ⟨fun Q a e w ha h => wp_label ⟨e, ha, h⟩, fun l rest h => ?_⟩
    simp only [findLabel] at h
    split at h
    · injection h with h; subst h; exact Snd.skip
    · cases h
  | goto l => exact ⟨fun Q a e w ha h => wp_goto ⟨e, ha, h⟩, fun l rest h => by simp [findLabel] at h⟩
  | ret => exact ⟨fun Q a e w ha h => wp_ret ⟨e, ha, h⟩, fun l rest h => by simp [findLabel] at h⟩
  | scope b ih =>
    refine ⟨?_, fun l rest h => by simp [findLabel] at h⟩
    intro Q a e w ha h
    have hrest : ∀ l r, flX (cc P n b) l = some r → ∀ Q a e w, Agr n a e → St P r Q e w → ∃ rest, findLabel b l = some rest ∧ rest.wp P (Qn n Q) a w := by
      intro l r hr Q a e w ha h
      obtain ⟨rest, hf, hcr⟩ := fl_cc b l r hr
      subst hcr
      exact ⟨rest, hf, ih.2 l rest hf Q a e w ha h⟩
    simp only [cc, mkScope] at h
    split at h
    · exact wp_scope_all (κ := Unit) (fun _ _ _ _ => False) (fun _ _ => 0) (Go.wp_mono (ih.1 _ a e w ha h) (qn_jump fun l a w e _ h => h.elim)) (fun _ _ _ _ h => h.elim)
    · rename_i l _
      split at h
      · rename_i r hr
        obtain ⟨κ, E, I, μ, h1, h2⟩ := (show Scope1W _ _ _ _ _ _ from h)
        refine wp_scope_all (κ := κ) (fun j k a w => j = l ∧ Agr n a (E k) ∧ I k w) (fun _ k => μ k) (Go.wp_mono (ih.1 _ a e w ha h1) (qn_jump fun j a w e ha ⟨hj, k, hs, hI⟩ => ⟨k, hj, sub_agr ha hs, hI⟩)) ?_
        intro j k a w ⟨hj, ha, hI⟩
        subst hj
        obtain ⟨rest, hf, hw⟩ := hrest j r hr _ a (E k) w ha (h2 k w hI)
        exact ⟨rest, hf, Go.wp_mono hw (qn_jump fun j' a w e ha ⟨hj', k', hs, hI', hlt⟩ => ⟨k', ⟨hj', sub_agr ha hs, hI'⟩, hlt⟩)⟩
      · exact (show False from h).elim
    · rename_i l l' _
      split at h
      · rename_i r r' hr hr'
        obtain ⟨κ, E, I, μ, h1, h2, h3, h4⟩ := (show Scope2W _ _ _ _ _ _ _ _ from h)
        refine wp_scope_all (κ := κ) (fun j k a w => Agr n a (E j k) ∧ I j k w) μ (Go.wp_mono (ih.1 _ a e w ha h1) (qn_jump fun j a w e ha ⟨k, hs, hI⟩ => ⟨k, sub_agr ha hs, hI⟩)) ?_
        intro j k a w ⟨ha, hI⟩
        rcases h4 j k w hI with hj | hj
        · subst hj
          obtain ⟨rest, hf, hw⟩ := hrest _ r hr _ a (E _ k) w ha (h2 k w hI)
          exact ⟨rest, hf, Go.wp_mono hw (qn_jump fun j' a w e ha ⟨k', hs, hI', hlt⟩ => ⟨k', ⟨sub_agr ha hs, hI'⟩, hlt⟩)⟩
        · subst hj
          obtain ⟨rest, hf, hw⟩ := hrest _ r' hr' _ a (E _ k) w ha (h3 k w hI)
          exact ⟨rest, hf, Go.wp_mono hw (qn_jump fun j' a w e ha ⟨k', hs, hI', hlt⟩ => ⟨k', ⟨sub_agr ha hs, hI'⟩, hlt⟩)⟩
      · exact (show False from h).elim
    · exact (show False from h).elim
  | rangeFunc => exact ⟨fun Q a e w ha h => (show False from h).elim, fun l rest h => by simp [findLabel] at h⟩
  | refuse => exact ⟨fun Q a e w ha h => (show False from h).elim, fun l rest h => by simp [findLabel] at h⟩

/-! ### a whole function -/
inductive XRes where
  | t (s : Nat)
  | c1 (s : Nat)
  | ca (s n : Nat)

def cres (P : Program) : ResultVar → Option XRes
  | .tmp t => some (.t t)
  | .cell s t => match aggT P t, sizeT P t with
    | some false, _ => some (.c1 s)
    | some true, some n => some (.ca s n)
    | _, _ => none

def cresl (P : Program) : List ResultVar → Option (List XRes)
  | [] => some []
  | r :: rs => match cres P r, cresl P rs with
    | some x, some xs => some (x :: xs)
    | _, _ => none

def resR (e : Env) (w : World) : XRes → Value → Prop
  | .t s, v => look e s = some v
  | .c1 s, v => ∃ a, look e s = some (.pointer (some a)) ∧ w.cell? a = some v
  | .ca s n, v => ∃ a cs, look e s = some (.pointer (some a)) ∧ cs.length = n ∧ (∀ i, i < n → w.cell? (a.add i) = cs[i]?) ∧ v = .agg (List.toArray cs)

def resL (e : Env) (w : World) : List XRes → List Value → Prop
  | [], [] => True
  | r :: rs, v :: vs => resR e w r v ∧ resL e w rs vs
  | _, _ => False

def packV : List Value → Value
  | [v] => v
  | vs => .tuple vs.toArray

def resOf (tmps : Array Value) : ResultVar → Sem Value
  | .tmp t => pure (tmps.getD t undef)
  | .cell s t => do loadVar t (← asAddr (tmps.getD s undef))

theorem results_eq (fn : Func) (tmps : Array Value) : results fn tmps = (do
    let vs ← fn.results.mapM (resOf tmps)
    pure (if h : vs.size = 1 then vs[0] else .tuple vs)) := rfl

def fin (rs : List XRes) (R : Ending → World → Prop) (e : Env) (w : World) : Prop :=
  match rs with
  | [] => R (.returned (.tuple #[])) w
  | [.t s] => B (look e s) fun v => R (.returned v) w
  | [.t s, .t s'] => B (look e s) fun v => B (look e s') fun u => R (.returned (.tuple #[v, u])) w
  | rs => ∃ vs, resL e w rs vs ∧ R (.returned (packV vs)) w

def finQ (rs : List XRes) (R : Ending → World → Prop) : Post
  | .normal, e, w => fin rs R e w
  | .ret, e, w => fin rs R e w
  | _, _, _ => False

structure XFn where
  n : Nat
  body : XCode
  res : List XRes

def cfn (P : Program) (fn : Func) : Option XFn :=
  match fn.body, cresl P fn.results.toList with
  | some c, some rs => some ⟨fn.ntmps, cc P fn.ntmps c, rs⟩
  | _, _ => none

def env0 : Nat → List Value → Env
  | _, [] => []
  | i, v :: r => (i, v) :: env0 (i + 1) r

theorem look_env0 : ∀ (l : List Value) (i t : Nat) (v : Value), look (env0 i l) t = some v → i ≤ t ∧ l[t - i]? = some v
  | [], i, t, v, h => by simp [env0, look] at h
  | x :: r, i, t, v, h => by
    simp only [env0, look] at h
    by_cases hit : i = t
    · subst hit; simp at h; subst h; simp
    · simp [hit] at h
      obtain ⟨h1, h2⟩ := look_env0 r (i + 1) t v h
      refine ⟨by omega, ?_⟩
      rw [show t - i = (t - (i + 1)) + 1 by omega]
      simpa using h2

theorem resL_run {a : Act} {e : Env} {w : World} (ha : Agr n a e) : ∀ {rvs : List ResultVar} {rs : List XRes} {vs : List Value}, cresl P rvs = some rs → resL e w rs vs →
    (rvs.mapM (resOf a.tmps) : Sem (List Value)).run P w = .ok vs w
  | [], rs, vs, h, hr => by
    simp [cresl] at h; subst h
    cases vs with
    | nil => simp
    | cons => exact hr.elim
  | rv :: rvs, rs, vs, h, hr => by
    simp only [cresl] at h
    split at h
    · rename_i x xs hx hxs
      injection h with h; subst h
      cases vs with
      | nil => exact hr.elim
      | cons v vs =>
        obtain ⟨h1, h2⟩ := hr
        have ih := resL_run ha hxs h2
        have h0 : (resOf a.tmps rv).run P w = .ok v w := by
          cases rv with
          | tmp t =>
            simp [cres] at hx; subst hx
            have := ha.2.2 t v h1
            simp [resOf, this]
          | cell s t =>
            simp only [cres] at hx
            split at hx
            · rename_i hb
              injection hx with hx; subst hx
              obtain ⟨ad, h3, h4⟩ := h1
              have := ha.2.2 s _ h3
              simp [resOf, this, asAddr, loadVar, agg_run hb, h4]
            · rename_i m hb hs
              injection hx with hx; subst hx
              obtain ⟨ad, cs, h3, h4, h5, h6⟩ := h1
              have := ha.2.2 s _ h3
              have hl := loadCellsFrom_run (P := P) (w := w) (a := ad) m 0 #[] cs h4 (fun j hj => by rw [Nat.zero_add]; exact h5 j hj)
              subst h6
              simp [resOf, this, asAddr, loadVar, agg_run hb, size_run hs, loadCells, hl]
            · cases hx
        rw [List.mapM_cons, Sem.run_bind, h0]
        simp only [Result.andThen_ok, Sem.run_bind, ih, Sem.run_pure]
    · cases h

theorem results_run {fn : Func} {a : Act} {e : Env} {w : World} (ha : Agr n a e) {rs : List XRes} {vs : List Value} (hc : cresl P fn.results.toList = some rs) (hr : resL e w rs vs) :
    (results fn a.tmps).run P w = .ok (packV vs) w := by
  have h1 := resL_run (P := P) ha hc hr
  have h2 : (fn.results.mapM (resOf a.tmps) : Sem (Array Value)).run P w = .ok vs.toArray w := by
    rw [Array.mapM_eq_mapM_toList, Sem.run_map, h1]
    rfl
  rw [results_eq, Sem.run_bind, h2]
  simp only [Result.andThen_ok]
  cases vs with
  | nil => rfl
  | cons v vs => cases vs <;> rfl

theorem fin_run {fn : Func} {a : Act} {e : Env} {w : World} {R : Ending → World → Prop} (ha : Agr n a e) {rs : List XRes} (hc : cresl P fn.results.toList = some rs) (h : fin rs R e w) :
    a.defers = [] ∧ ∃ v, (results fn a.tmps).run P w = .ok v w ∧ R (.returned v) w := by
  refine ⟨ha.2.1, ?_⟩
  unfold fin at h
  split at h
  · exact ⟨_, results_run (vs := []) ha hc trivial, h⟩
  · obtain ⟨v, hv, h⟩ := B_out h
    exact ⟨_, results_run (vs := [v]) ha hc ⟨hv, trivial⟩, h⟩
  · obtain ⟨v, hv, h⟩ := B_out h
    obtain ⟨u, hu, h⟩ := B_out h
    exact ⟨_, results_run (vs := [v, u]) ha hc ⟨hv, hu, trivial⟩, h⟩
  · obtain ⟨vs, hv, h⟩ := h
    exact ⟨_, results_run ha hc hv, h⟩

/-- THE ENTRY. -/
theorem enter (hm : P.follows .mixedOrders = true) {f : Nat} {fn : Func} {x : XFn} {args : List Value} {w : World} {R : Ending → World → Prop} (hf : P.funcs[f]? = some fn) (hx : cfn P fn = some x)
    (hl : args.length ≤ x.n) (h : St P x.body (finQ x.res R) (env0 0 args) w) : Calls P f args.toArray w R := by
  unfold cfn at hx
  split at hx
  · rename_i c rs hb hrs
    injection hx with hx; subst hx
    refine calls_of_wp hf hb ?_
    refine Go.wp_mono ((St_both hm c).1 _ _ _ w ⟨?_, rfl, ?_⟩ h) ?_
    · simp; simp at hl; omega
    · intro t v ht
      obtain ⟨_, h2⟩ := look_env0 args 0 t v ht
      rw [Nat.sub_zero] at h2
      have hlt := (List.getElem?_eq_some_iff.1 h2).1
      rw [Array.getElem?_append_left (by simpa using hlt)]
      simpa using h2
    · intro x a w ⟨e, ha, hq⟩
      cases x <;> simp only [finQ] at hq <;> first | exact fin_run ha hrs hq | exact hq.elim
  · cases hx
end
end Go.Lk
