/- Parts of the proof: an abstract machine for Go functions, and what functions of the program give back (Rf1). No condition. -/
import Derived.Test.YtgfmjhmjnnpcgaaGreatDoorXT
namespace Go.Am
set_option linter.all false
set_option linter.all false
open Go Go.RowKit Go.Proofs
set_option maxRecDepth 100000
@[simp] theorem toU8_byte (b:UInt8):toU8 (.int .u8 b.toNat)=b:=by simp[toU8]
end Go.Am
