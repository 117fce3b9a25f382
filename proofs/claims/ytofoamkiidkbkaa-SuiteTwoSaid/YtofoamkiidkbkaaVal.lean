/- Typed spellings of the model's values. No statement of the seat is proved in this text. -/
import Derived.Test.YtofoamkiidkbkaaCode
set_option linter.unusedSimpArgs false
set_option linter.unusedVariables false
set_option linter.unusedSectionVars false
set_option linter.unnecessarySimpa false
namespace Go.Lk

abbrev vi (n : Int) : Value := .int .i64 n
def w32 (x : BitVec 32) : Value := .int .u32 x.toNat
def w64 (x : BitVec 64) : Value := .int .u64 x.toNat
end Go.Lk
