/- For every input, locketlaw07.SuiteTwo returns true and each argument reads behind the call as it read before. Conditions: none beyond the row's own. -/
import Derived.Test.YtofoamkiidkbkaaRows
import Derived.Test.YtofoamkiidkbkaaChecked
import Derived.Test.YtofoamkiidkbkaaTwo
import Derived.Test.YtofoamkiidkbkaaRow
set_option linter.unusedSimpArgs false
set_option linter.unusedVariables false
set_option linter.unusedSectionVars false
set_option linter.unnecessarySimpa false
namespace Go.Proofs.Ytofoamkiidkbkaa
open Go.ChangeShapes Go.WideShapes Go.ChangeAt Go.RowKit Go.Lk

theorem Try.ownk : ownKnob Try.prog.godebug = none := by kernel_rfl
theorem Try.kidsk : Kids Try.prog (· < Try.prog.types.size) := kids_rows (by kernel_rfl) (by kernel_rfl)
theorem Try.fullk : ∀ t e, t < Try.prog.types.size → Try.prog.underlying t = some (.slice e) → 0 < Try.prog.cellsOf e := slices_full_of Try.prog (by kernel_rfl)

set_option maxRecDepth 100000 in
theorem two_lifted (os : Os) (started : os.Started) (H : Type) (enc : TypeId × Value → H) :
    ReturnsInHanded {} Try.checked os 3 .any (Rows.suiteTwoSpec.pre6 enc Try.prog Try.f3 Rows.suiteTwoRow.domain false) (Rows.suiteTwoSpec.post enc Try.prog Try.f3 false true false false) := by
  refine returnsInHanded_of_change (C := Try.checked) Try.ownk started (by kernel_rfl) Try.func3
    (ChangeSpec.witness6 (enc := enc) (C := Try.checked) false ⟨#[], #[.slice none 0 0, .slice none 0 0, .agg (Array.replicate 32 (.int .u8 0)), .slice none 0 0], []⟩ 8 (by kernel_rfl) (by kernel_rfl) (by kernel_rfl) (by kernel_rfl)) ?_
  intro W base args ds gs before hval0 hW _ _
  have hval : ∀ (j : Nat) t v, Try.f3.params[j]? = some t → args[j]? = some v → Value.okWide Try.prog W .any base t v := hval0
  have hW' := hW
  obtain ⟨p, q, hA0, hV, rfl, _, _⟩ := hW
  have hA : DataW.TrodAll enc Try.prog W 0 (fun _ => true) true Try.f3.params.toList args.toList ds p := hA0
  rw [Try.params3] at hA hval
  obtain ⟨v0, vs0, d0, ds0, p0, q0, ea, rfl, rfl, h0, hr0⟩ := trodAll_cons hA
  obtain ⟨v1, vs1, d1, ds1, p1, q1, rfl, rfl, rfl, h1, hr1⟩ := trodAll_cons hr0
  obtain ⟨v2, vs2, d2, ds2, p2, q2, rfl, rfl, rfl, h2, hr2⟩ := trodAll_cons hr1
  obtain ⟨v3, vs3, d3, ds3, p3, q3, rfl, rfl, rfl, h3, hr3⟩ := trodAll_cons hr2
  obtain ⟨rfl, rfl, rfl⟩ := trodAll_nil hr3
  obtain rfl : args = #[v0, v1, v2, v3] := by cases args; simp_all
  obtain ⟨rfl, rfl⟩ := trodVars_none hV
  have hu5 : Try.prog.underlying 5 = some (.int .u8) := by kernel_rfl
  have hu23 : Try.prog.underlying 23 = some (.array 32 5) := by kernel_rfl
  have hc5 : Try.prog.cellsOf 5 = 1 := by kernel_rfl
  have hc23 : Try.prog.cellsOf 23 = 32 := by kernel_rfl
  obtain ⟨s, hs⟩ := trod_bytes und22 hu5 hc5 (okWide_slice und22 (hval 0 22 v0 rfl rfl)) h0
  obtain ⟨o, ho⟩ := trod_bytes und22 hu5 hc5 (okWide_slice und22 (hval 1 22 v1 rfl rfl)) h1
  obtain ⟨cs, rfl, hcs⟩ := okWide_array hu23 (hval 2 23 v2 rfl rfl)
  obtain ⟨key, hkey, rfl⟩ := trod_key hu23 hu5 hc5 hc23 hcs h2
  obtain ⟨t, ht⟩ := trod_bytes und22 hu5 hc5 (okWide_slice und22 (hval 3 22 v3 rfl rfl)) h3
  refine (k3 hs ho hkey ht).mono fun e W' ⟨he, hx⟩ => ?_
  subst he
  exact ⟨_, rfl, law_post (t := 4) Try.kidsk Try.fullk (by rw [Try.params3]; decide) hW' hx rfl (by kernel_rfl) (by kernel_rfl) rfl⟩

theorem suiteTwo_holds : Rows.SuiteTwoSaid :=
  OpenClaim.holds_of_wide 3 Try.f3 rfl rfl rfl rfl rfl rfl rfl ⟨rfl, rfl, rfl, rfl, rfl⟩ rfl rfl rfl rfl rfl (by kernel_rfl) Try.func3 (by kernel_rfl)
    (of_decide_eq_true (by kernel_rfl)) (by unfold Func.isWrapper; first | (rw [if_pos (by decide +kernel)]; kernel_rfl) | (rw [if_neg (by decide +kernel)]; exact ⟨rfl, rfl⟩))
    (fun os started H enc _ => two_lifted os started H enc)

#print axioms suiteTwo_holds
end Go.Proofs.Ytofoamkiidkbkaa
