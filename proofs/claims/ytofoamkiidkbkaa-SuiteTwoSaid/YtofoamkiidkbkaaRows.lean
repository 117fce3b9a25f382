/-
  No cell of these rows narrows 'for every input' (looked for: loops, veiled, ifaces, maps, wideKeys, modest, calm, conditions, laid).
  DERIVED. THE GIVEN ROWS OF THIS SEAT. 9 by the template 'for every input the law returns true; each argument reads behind the call as it read before'; 0 by the template 'total and deterministic' (their statements: YtofoamkiidkbkaaTotals.lean).
  GIVEN WITH THE SEED: the statements are not yours to turn. If you find one false, say at which input.
  Laid BY PROGRAM, IN A SANDBOX (cutbox-rows.mjs): the forced cells as the released guide's own fill.sh prints them over the translation e56feef8a4b8ec96… (all of the seat's roots in one cut). By AI agents, Wed Nov 11 2026. No macro, syntax, notation, axiom, sorry.
-/
import Derived.Test.YtofoamkiidkbkaaChecked
import GoSem.Claim
import GoSem.ClaimJoined
import GoSem.ClaimMapViews
import Derived.JoinedTies
import Derived.KernelRfl
namespace Go.Proofs.Ytofoamkiidkbkaa
/- THE CELL 'sum', in the pinned program and in every row, IS THE sha256 OF THE DUMP (.gsa) THAT YtofoamkiidkbkaaProg.lean LOADS. Nothing in Lean hashes anything: it is a label: what it is worth is what the hold of that sum in a sandbox is worth. -/
noncomputable def Try.pinned : Pinned := { name := "ytofoamkiidkbkaa", sum := "e56feef8a4b8ec96e17d6b4b68c798fa5f10ce55d1e624a9fe1c4a9f83966e99", checked := Try.checked }
namespace Rows
def none {H : Type} : Left H := { results := [], args := [] }

/-- 'locketlaw07.SuiteTwo': WHATEVER THE INPUT: true; the input reads as it did. -/
def suiteTwoSpec : ChangeSpec := { name := "suiteTwo", fn := fun _ => fun
  | [d1, d2, d3, d4] => { results := [.lit (.bool true)], args := [d1, d2, d3, d4] }
  | _ => none }
def suiteTwoRow : OpenClaim := { program := "ytofoamkiidkbkaa", sum := "e56feef8a4b8ec96e17d6b4b68c798fa5f10ce55d1e624a9fe1c4a9f83966e99", func := "locket/locketlaw07.SuiteTwo", spec := "suiteTwo", inPlace := ["math/bits.Add64"], plainKeys := false, apart := false }
def SuiteTwoSaid : Prop := suiteTwoRow.holds Try.pinned (OpenSpec.ofChange suiteTwoSpec)

/-- ITS FALSE NEIGHBOUR: 'it returns false'. Refute it at one input. -/
def suiteTwoWrong : ChangeSpec := { name := "suiteTwo", fn := fun _ => fun
  | [d1, d2, d3, d4] => { results := [.lit (.bool false)], args := [d1, d2, d3, d4] }
  | _ => none }
def SuiteTwoWrongFalsely : Prop := suiteTwoRow.holds Try.pinned (OpenSpec.ofChange suiteTwoWrong)

/-- 'locketlaw07.SuiteReal': WHATEVER THE INPUT: true; the input reads as it did. -/
def suiteRealSpec : ChangeSpec := { name := "suiteReal", fn := fun _ => fun
  | [d1, d2, d3, d4, d5] => { results := [.lit (.bool true)], args := [d1, d2, d3, d4, d5] }
  | _ => none }
def suiteRealRow : OpenClaim := { program := "ytofoamkiidkbkaa", sum := "e56feef8a4b8ec96e17d6b4b68c798fa5f10ce55d1e624a9fe1c4a9f83966e99", func := "locket/locketlaw07.SuiteReal", spec := "suiteReal", inPlace := ["math/bits.Add64"], plainKeys := false, apart := false }
def SuiteRealSaid : Prop := suiteRealRow.holds Try.pinned (OpenSpec.ofChange suiteRealSpec)

/-- ITS FALSE NEIGHBOUR: 'it returns false'. Refute it at one input. -/
def suiteRealWrong : ChangeSpec := { name := "suiteReal", fn := fun _ => fun
  | [d1, d2, d3, d4, d5] => { results := [.lit (.bool false)], args := [d1, d2, d3, d4, d5] }
  | _ => none }
def SuiteRealWrongFalsely : Prop := suiteRealRow.holds Try.pinned (OpenSpec.ofChange suiteRealWrong)

/-- 'locketlaw14.RingReal': WHATEVER THE INPUT: true; the input reads as it did. -/
def ringRealSpec : ChangeSpec := { name := "ringReal", fn := fun _ => fun
  | [d1, d2, d3, d4] => { results := [.lit (.bool true)], args := [d1, d2, d3, d4] }
  | _ => none }
def ringRealRow : OpenClaim := { program := "ytofoamkiidkbkaa", sum := "e56feef8a4b8ec96e17d6b4b68c798fa5f10ce55d1e624a9fe1c4a9f83966e99", func := "locket/locketlaw14.RingReal", spec := "ringReal", inPlace := ["math/bits.Add64"], plainKeys := false, apart := false }
def RingRealSaid : Prop := ringRealRow.holds Try.pinned (OpenSpec.ofChange ringRealSpec)

/-- ITS FALSE NEIGHBOUR: 'it returns false'. Refute it at one input. -/
def ringRealWrong : ChangeSpec := { name := "ringReal", fn := fun _ => fun
  | [d1, d2, d3, d4] => { results := [.lit (.bool false)], args := [d1, d2, d3, d4] }
  | _ => none }
def RingRealWrongFalsely : Prop := ringRealRow.holds Try.pinned (OpenSpec.ofChange ringRealWrong)

/-- 'locketlaw15.SealedHides': WHATEVER THE INPUT: true; the input reads as it did. -/
def sealedHidesSpec : ChangeSpec := { name := "sealedHides", fn := fun _ => fun
  | [d1, d2, d3, d4] => { results := [.lit (.bool true)], args := [d1, d2, d3, d4] }
  | _ => none }
def sealedHidesRow : OpenClaim := { program := "ytofoamkiidkbkaa", sum := "e56feef8a4b8ec96e17d6b4b68c798fa5f10ce55d1e624a9fe1c4a9f83966e99", func := "locket/locketlaw15.SealedHides", spec := "sealedHides", inPlace := ["math/bits.Add64"], unfollowed := true, recurses := true, plainKeys := false, apart := false }
def SealedHidesSaid : Prop := sealedHidesRow.holds Try.pinned (OpenSpec.ofChange sealedHidesSpec)

/-- ITS FALSE NEIGHBOUR: 'it returns false'. Refute it at one input. -/
def sealedHidesWrong : ChangeSpec := { name := "sealedHides", fn := fun _ => fun
  | [d1, d2, d3, d4] => { results := [.lit (.bool false)], args := [d1, d2, d3, d4] }
  | _ => none }
def SealedHidesWrongFalsely : Prop := sealedHidesRow.holds Try.pinned (OpenSpec.ofChange sealedHidesWrong)

/-- 'locketlaw15.SealedMarks': WHATEVER THE INPUT: true; the input reads as it did. -/
def sealedMarksSpec : ChangeSpec := { name := "sealedMarks", fn := fun _ => fun
  | [d1, d2, d3] => { results := [.lit (.bool true)], args := [d1, d2, d3] }
  | _ => none }
def sealedMarksRow : OpenClaim := { program := "ytofoamkiidkbkaa", sum := "e56feef8a4b8ec96e17d6b4b68c798fa5f10ce55d1e624a9fe1c4a9f83966e99", func := "locket/locketlaw15.SealedMarks", spec := "sealedMarks", inPlace := ["math/bits.Add64"], unfollowed := true, recurses := true, plainKeys := false, apart := false }
def SealedMarksSaid : Prop := sealedMarksRow.holds Try.pinned (OpenSpec.ofChange sealedMarksSpec)

/-- ITS FALSE NEIGHBOUR: 'it returns false'. Refute it at one input. -/
def sealedMarksWrong : ChangeSpec := { name := "sealedMarks", fn := fun _ => fun
  | [d1, d2, d3] => { results := [.lit (.bool false)], args := [d1, d2, d3] }
  | _ => none }
def SealedMarksWrongFalsely : Prop := sealedMarksRow.holds Try.pinned (OpenSpec.ofChange sealedMarksWrong)

/-- 'locketlaw15.SealedReal': WHATEVER THE INPUT: true; the input reads as it did. -/
def sealedRealSpec : ChangeSpec := { name := "sealedReal", fn := fun _ => fun
  | [d1, d2, d3, d4, d5, d6] => { results := [.lit (.bool true)], args := [d1, d2, d3, d4, d5, d6] }
  | _ => none }
def sealedRealRow : OpenClaim := { program := "ytofoamkiidkbkaa", sum := "e56feef8a4b8ec96e17d6b4b68c798fa5f10ce55d1e624a9fe1c4a9f83966e99", func := "locket/locketlaw15.SealedReal", spec := "sealedReal", inPlace := ["math/bits.Add64"], unfollowed := true, recurses := true, plainKeys := false, apart := false }
def SealedRealSaid : Prop := sealedRealRow.holds Try.pinned (OpenSpec.ofChange sealedRealSpec)

/-- ITS FALSE NEIGHBOUR: 'it returns false'. Refute it at one input. -/
def sealedRealWrong : ChangeSpec := { name := "sealedReal", fn := fun _ => fun
  | [d1, d2, d3, d4, d5, d6] => { results := [.lit (.bool false)], args := [d1, d2, d3, d4, d5, d6] }
  | _ => none }
def SealedRealWrongFalsely : Prop := sealedRealRow.holds Try.pinned (OpenSpec.ofChange sealedRealWrong)

/-- 'locketlaw15.SealedEncodes': WHATEVER THE INPUT: true; the input reads as it did. -/
def sealedEncodesSpec : ChangeSpec := { name := "sealedEncodes", fn := fun _ => fun
  | [d] => { results := [.lit (.bool true)], args := [d] }
  | _ => none }
def sealedEncodesRow : OpenClaim := { program := "ytofoamkiidkbkaa", sum := "e56feef8a4b8ec96e17d6b4b68c798fa5f10ce55d1e624a9fe1c4a9f83966e99", func := "locket/locketlaw15.SealedEncodes", spec := "sealedEncodes", inPlace := ["math/bits.Add64"], unfollowed := true, recurses := true, plainKeys := false, apart := false }
def SealedEncodesSaid : Prop := sealedEncodesRow.holds Try.pinned (OpenSpec.ofChange sealedEncodesSpec)

/-- ITS FALSE NEIGHBOUR: 'it returns false'. Refute it at one input. -/
def sealedEncodesWrong : ChangeSpec := { name := "sealedEncodes", fn := fun _ => fun
  | [d] => { results := [.lit (.bool false)], args := [d] }
  | _ => none }
def SealedEncodesWrongFalsely : Prop := sealedEncodesRow.holds Try.pinned (OpenSpec.ofChange sealedEncodesWrong)

/-- 'locketlaw15.SealedDecodes': WHATEVER THE INPUT: true; the input reads as it did. -/
def sealedDecodesSpec : ChangeSpec := { name := "sealedDecodes", fn := fun _ => fun
  | [d] => { results := [.lit (.bool true)], args := [d] }
  | _ => none }
def sealedDecodesRow : OpenClaim := { program := "ytofoamkiidkbkaa", sum := "e56feef8a4b8ec96e17d6b4b68c798fa5f10ce55d1e624a9fe1c4a9f83966e99", func := "locket/locketlaw15.SealedDecodes", spec := "sealedDecodes", inPlace := ["math/bits.Add64"], unfollowed := true, recurses := true, plainKeys := false, apart := false }
def SealedDecodesSaid : Prop := sealedDecodesRow.holds Try.pinned (OpenSpec.ofChange sealedDecodesSpec)

/-- ITS FALSE NEIGHBOUR: 'it returns false'. Refute it at one input. -/
def sealedDecodesWrong : ChangeSpec := { name := "sealedDecodes", fn := fun _ => fun
  | [d] => { results := [.lit (.bool false)], args := [d] }
  | _ => none }
def SealedDecodesWrongFalsely : Prop := sealedDecodesRow.holds Try.pinned (OpenSpec.ofChange sealedDecodesWrong)

/-- 'locketlaw15.SealedCuts': WHATEVER THE INPUT: true; the input reads as it did. -/
def sealedCutsSpec : ChangeSpec := { name := "sealedCuts", fn := fun _ => fun
  | [d1, d2, d3] => { results := [.lit (.bool true)], args := [d1, d2, d3] }
  | _ => none }
def sealedCutsRow : OpenClaim := { program := "ytofoamkiidkbkaa", sum := "e56feef8a4b8ec96e17d6b4b68c798fa5f10ce55d1e624a9fe1c4a9f83966e99", func := "locket/locketlaw15.SealedCuts", spec := "sealedCuts", inPlace := ["math/bits.Add64"], unfollowed := true, recurses := true, plainKeys := false, apart := false }
def SealedCutsSaid : Prop := sealedCutsRow.holds Try.pinned (OpenSpec.ofChange sealedCutsSpec)

/-- ITS FALSE NEIGHBOUR: 'it returns false'. Refute it at one input. -/
def sealedCutsWrong : ChangeSpec := { name := "sealedCuts", fn := fun _ => fun
  | [d1, d2, d3] => { results := [.lit (.bool false)], args := [d1, d2, d3] }
  | _ => none }
def SealedCutsWrongFalsely : Prop := sealedCutsRow.holds Try.pinned (OpenSpec.ofChange sealedCutsWrong)

/- THE SECOND FORM. 'bulk': how many values and letters a reading holds, each counted each time it is reached (what is shared counts as often as it is met; a slice's spare places count too). A statement '..UptoSaid' is the law's where the arguments, and the package variables that the reading takes, are together of bulk at most 1048576: NARROWER than '..Said'. Prove '..Said' where nothing that the law and all that it calls make is longer than what came in: it says more and counts as full. Else prove '..UptoSaid'. A law counts once. -/
mutual
def uptoBulk {H : Type} : DataW H → Nat
  | .lit (.string bytes) => bytes.length + 1
  | .lit _ => 1
  | .nil => 1
  | .ptr d => uptoBulk d + 1
  | .slice elems spare => uptoBulkAll elems + uptoBulkAll spare + 1
  | .agg parts => uptoBulkAll parts + 1
  | .iface _ d => uptoBulk d + 1
  | .map entries => uptoBulkEntries entries + 1
  | .held _ => 1
def uptoBulkAll {H : Type} : List (DataW H) → Nat
  | [] => 0
  | d :: r => uptoBulk d + uptoBulkAll r
def uptoBulkEntries {H : Type} : List (Lit × DataW H) → Nat
  | [] => 0
  | x :: r => uptoBulkEntry x + uptoBulkEntries r
def uptoBulkEntry {H : Type} : Lit × DataW H → Nat
  | (.string bytes, d) => bytes.length + uptoBulk d + 1
  | (_, d) => uptoBulk d + 1
 end
def uptoSmall : (H : Type) → List (DataW H) → Bool := fun _ ds => decide (uptoBulkAll ds ≤ 1048576)
def OpenSpec.upto (s : _root_.Go.ChangeSpec) : _root_.Go.OpenSpec := { _root_.Go.OpenSpec.ofChange s with cond := some uptoSmall }

/-- 'locketlaw07.SuiteTwo', WHERE WHAT IT READS IS OF BULK AT MOST 1048576: true; the input reads as it did. -/
def suiteTwoUptoRow : OpenClaim := { program := "ytofoamkiidkbkaa", sum := "e56feef8a4b8ec96e17d6b4b68c798fa5f10ce55d1e624a9fe1c4a9f83966e99", func := "locket/locketlaw07.SuiteTwo", spec := "suiteTwo", inPlace := ["math/bits.Add64"], plainKeys := false, apart := false, narrowed := true }
def SuiteTwoUptoSaid : Prop := suiteTwoUptoRow.holds Try.pinned (OpenSpec.upto suiteTwoSpec)

/-- 'locketlaw07.SuiteReal', WHERE WHAT IT READS IS OF BULK AT MOST 1048576: true; the input reads as it did. -/
def suiteRealUptoRow : OpenClaim := { program := "ytofoamkiidkbkaa", sum := "e56feef8a4b8ec96e17d6b4b68c798fa5f10ce55d1e624a9fe1c4a9f83966e99", func := "locket/locketlaw07.SuiteReal", spec := "suiteReal", inPlace := ["math/bits.Add64"], plainKeys := false, apart := false, narrowed := true }
def SuiteRealUptoSaid : Prop := suiteRealUptoRow.holds Try.pinned (OpenSpec.upto suiteRealSpec)

/-- 'locketlaw14.RingReal', WHERE WHAT IT READS IS OF BULK AT MOST 1048576: true; the input reads as it did. -/
def ringRealUptoRow : OpenClaim := { program := "ytofoamkiidkbkaa", sum := "e56feef8a4b8ec96e17d6b4b68c798fa5f10ce55d1e624a9fe1c4a9f83966e99", func := "locket/locketlaw14.RingReal", spec := "ringReal", inPlace := ["math/bits.Add64"], plainKeys := false, apart := false, narrowed := true }
def RingRealUptoSaid : Prop := ringRealUptoRow.holds Try.pinned (OpenSpec.upto ringRealSpec)

/-- 'locketlaw15.SealedHides', WHERE WHAT IT READS IS OF BULK AT MOST 1048576: true; the input reads as it did. -/
def sealedHidesUptoRow : OpenClaim := { program := "ytofoamkiidkbkaa", sum := "e56feef8a4b8ec96e17d6b4b68c798fa5f10ce55d1e624a9fe1c4a9f83966e99", func := "locket/locketlaw15.SealedHides", spec := "sealedHides", inPlace := ["math/bits.Add64"], unfollowed := true, recurses := true, plainKeys := false, apart := false, narrowed := true }
def SealedHidesUptoSaid : Prop := sealedHidesUptoRow.holds Try.pinned (OpenSpec.upto sealedHidesSpec)

/-- 'locketlaw15.SealedMarks', WHERE WHAT IT READS IS OF BULK AT MOST 1048576: true; the input reads as it did. -/
def sealedMarksUptoRow : OpenClaim := { program := "ytofoamkiidkbkaa", sum := "e56feef8a4b8ec96e17d6b4b68c798fa5f10ce55d1e624a9fe1c4a9f83966e99", func := "locket/locketlaw15.SealedMarks", spec := "sealedMarks", inPlace := ["math/bits.Add64"], unfollowed := true, recurses := true, plainKeys := false, apart := false, narrowed := true }
def SealedMarksUptoSaid : Prop := sealedMarksUptoRow.holds Try.pinned (OpenSpec.upto sealedMarksSpec)

/-- 'locketlaw15.SealedReal', WHERE WHAT IT READS IS OF BULK AT MOST 1048576: true; the input reads as it did. -/
def sealedRealUptoRow : OpenClaim := { program := "ytofoamkiidkbkaa", sum := "e56feef8a4b8ec96e17d6b4b68c798fa5f10ce55d1e624a9fe1c4a9f83966e99", func := "locket/locketlaw15.SealedReal", spec := "sealedReal", inPlace := ["math/bits.Add64"], unfollowed := true, recurses := true, plainKeys := false, apart := false, narrowed := true }
def SealedRealUptoSaid : Prop := sealedRealUptoRow.holds Try.pinned (OpenSpec.upto sealedRealSpec)

/-- 'locketlaw15.SealedEncodes', WHERE WHAT IT READS IS OF BULK AT MOST 1048576: true; the input reads as it did. -/
def sealedEncodesUptoRow : OpenClaim := { program := "ytofoamkiidkbkaa", sum := "e56feef8a4b8ec96e17d6b4b68c798fa5f10ce55d1e624a9fe1c4a9f83966e99", func := "locket/locketlaw15.SealedEncodes", spec := "sealedEncodes", inPlace := ["math/bits.Add64"], unfollowed := true, recurses := true, plainKeys := false, apart := false, narrowed := true }
def SealedEncodesUptoSaid : Prop := sealedEncodesUptoRow.holds Try.pinned (OpenSpec.upto sealedEncodesSpec)

/-- 'locketlaw15.SealedDecodes', WHERE WHAT IT READS IS OF BULK AT MOST 1048576: true; the input reads as it did. -/
def sealedDecodesUptoRow : OpenClaim := { program := "ytofoamkiidkbkaa", sum := "e56feef8a4b8ec96e17d6b4b68c798fa5f10ce55d1e624a9fe1c4a9f83966e99", func := "locket/locketlaw15.SealedDecodes", spec := "sealedDecodes", inPlace := ["math/bits.Add64"], unfollowed := true, recurses := true, plainKeys := false, apart := false, narrowed := true }
def SealedDecodesUptoSaid : Prop := sealedDecodesUptoRow.holds Try.pinned (OpenSpec.upto sealedDecodesSpec)

/-- 'locketlaw15.SealedCuts', WHERE WHAT IT READS IS OF BULK AT MOST 1048576: true; the input reads as it did. -/
def sealedCutsUptoRow : OpenClaim := { program := "ytofoamkiidkbkaa", sum := "e56feef8a4b8ec96e17d6b4b68c798fa5f10ce55d1e624a9fe1c4a9f83966e99", func := "locket/locketlaw15.SealedCuts", spec := "sealedCuts", inPlace := ["math/bits.Add64"], unfollowed := true, recurses := true, plainKeys := false, apart := false, narrowed := true }
def SealedCutsUptoSaid : Prop := sealedCutsUptoRow.holds Try.pinned (OpenSpec.upto sealedCutsSpec)

end Rows
end Go.Proofs.Ytofoamkiidkbkaa
