/- Contracts of functions, and plain facts, for the law that the last text of this claim proves. -/
import Derived.Test.YtkpkdmipjinoaaaGreatDoorA1
import Derived.KernelRfl
import Derived.Test.YtkpkdmipjinoaaaGreatDoorProg
import GoSem.Instr.MapEntry
import Derived.ChangeKeysEq
import Derived.RangeFuncIn
import Derived.RangeFuncNested
import Derived.Lib.AppendZerosOnto
import Derived.Laws.OwnMore
import Derived.Laws.MakeOwn
set_option linter.unusedSimpArgs false
set_option linter.unusedVariables false
namespace Go.Proofs.YtkpkdmipjinoaaaGreatDoor
open Go.Vc Go.RowKit
def zt40:List Value:=[.int .i64 0,.int .u64 0,.int .u64 0,.int .u64 0,.int .u64 0,.int .u64 0,.int .u64 0,.int .u64 0,.int .u64 0,.int .u64 0,.int .u64 0,.int .u64 0,.int .u64 0,.int .u64 0,.int .u64 0,.int .u64 0,.int .u64 0,.int .u64 0,.int .u64 0,.int .u64 0,.int .u64 0,.int .u64 0,.int .u64 0,.int .u64 0,.int .u64 0,.int .u64 0,.int .u64 0,.int .u64 0,.int .u64 0,.int .u64 0,.int .u64 0,.int .u64 0,.int .u64 0,.int .u64 0,.int .u64 0,.int .u64 0,.int .u64 0,.int .u64 0,.int .u64 0,.int .u64 0,.int .u64 0,.int .u64 0,.int .u64 0,.int .u64 0,.int .u64 0,.int .u64 0,.int .u64 0,.int .u64 0,.int .u64 0]
def zt47:List Value:=[.slice none 0 0,.int .i64 0,.int .u64 0,.int .u64 0,.int .u64 0,.int .u64 0,.int .u64 0,.int .u64 0,.int .u64 0,.int .u64 0,.int .u64 0,.int .u64 0,.int .u64 0,.int .u64 0,.int .u64 0,.int .u64 0,.int .u64 0,.int .u64 0,.int .u64 0,.int .u64 0,.int .u64 0,.int .u64 0,.int .u64 0,.int .u64 0,.int .u64 0,.int .u64 0,.int .u64 0,.int .u64 0,.int .u64 0,.int .u64 0,.int .u64 0,.int .u64 0,.int .u64 0,.int .u64 0,.int .u64 0,.int .u64 0,.int .u64 0,.int .u64 0,.int .u64 0,.int .u64 0,.int .u64 0,.int .u64 0,.int .u64 0,.int .u64 0,.int .u64 0,.int .u64 0,.int .u64 0,.int .u64 0,.int .u64 0,.int .u64 0,.int .i64 0,.int .u64 0,.int .u64 0,.int .u64 0,.int .u64 0,.int .u64 0,.int .u64 0,.int .u64 0,.int .u64 0,.int .u64 0,.int .u64 0,.int .u64 0,.int .u64 0,.int .u64 0,.int .u64 0,.int .u64 0,.int .u64 0,.int .u64 0,.int .u64 0,.int .u64 0,.int .u64 0,.int .u64 0,.int .u64 0,.int .u64 0,.int .u64 0,.int .u64 0,.int .u64 0,.int .u64 0,.int .u64 0,.int .u64 0,.int .u64 0,.int .u64 0,.int .u64 0,.int .u64 0,.int .u64 0,.int .u64 0,.int .u64 0,.int .u64 0,.int .u64 0,.int .u64 0,.int .u64 0,.int .u64 0,.int .u64 0,.int .u64 0,.int .u64 0,.int .u64 0,.int .u64 0,.int .u64 0,.int .u64 0,.int .i64 0,.int .u64 0,.int .u64 0,.int .u64 0,.int .u64 0,.int .u64 0,.int .u64 0,.int .u64 0,.int .u64 0,.int .u64 0,.int .u64 0,.int .u64 0,.int .u64 0,.int .u64 0,.int .u64 0,.int .u64 0,.int .u64 0,.int .u64 0,.int .u64 0,.int .u64 0,.int .u64 0,.int .u64 0,.int .u64 0,.int .u64 0,.int .u64 0,.int .u64 0,.int .u64 0,.int .u64 0,.int .u64 0,.int .u64 0,.int .u64 0,.int .u64 0,.int .u64 0,.int .u64 0,.int .u64 0,.int .u64 0,.int .u64 0,.int .u64 0,.int .u64 0,.int .u64 0,.int .u64 0,.int .u64 0,.int .u64 0,.int .u64 0,.int .u64 0,.int .u64 0,.int .u64 0,.int .u64 0,.int .u64 0,.int .i64 0,.int .u64 0,.int .u64 0,.int .u64 0,.int .u64 0,.int .u64 0,.int .u64 0,.int .u64 0,.int .u64 0,.int .u64 0,.int .u64 0,.int .u64 0,.int .u64 0,.int .u64 0,.int .u64 0,.int .u64 0,.int .u64 0,.int .u64 0,.int .u64 0,.int .u64 0,.int .u64 0,.int .u64 0,.int .u64 0,.int .u64 0,.int .u64 0,.int .u64 0,.int .u64 0,.int .u64 0,.int .u64 0,.int .u64 0,.int .u64 0,.int .u64 0,.int .u64 0,.int .u64 0,.int .u64 0,.int .u64 0,.int .u64 0,.int .u64 0,.int .u64 0,.int .u64 0,.int .u64 0,.int .u64 0,.int .u64 0,.int .u64 0,.int .u64 0,.int .u64 0,.int .u64 0,.int .u64 0,.int .u64 0,.int .i64 0,.int .u64 0,.int .u64 0,.int .u64 0,.int .u64 0,.int .u64 0,.int .u64 0,.int .u64 0,.int .u64 0,.int .u64 0,.int .u64 0,.int .u64 0,.int .u64 0,.int .u64 0,.int .u64 0,.int .u64 0,.int .u64 0,.int .u64 0,.int .u64 0,.int .u64 0,.int .u64 0,.int .u64 0,.int .u64 0,.int .u64 0,.int .u64 0,.int .u64 0,.int .u64 0,.int .u64 0,.int .u64 0,.int .u64 0,.int .u64 0,.int .u64 0,.int .u64 0,.int .u64 0,.int .u64 0,.int .u64 0,.int .u64 0,.int .u64 0,.int .u64 0,.int .u64 0,.int .u64 0,.int .u64 0,.int .u64 0,.int .u64 0,.int .u64 0,.int .u64 0,.int .u64 0,.int .u64 0,.int .u64 0,.int .i64 0,.int .u64 0,.int .u64 0,.int .u64 0,.int .u64 0,.int .u64 0,.int .u64 0,.int .u64 0,.int .u64 0,.int .u64 0,.int .u64 0,.int .u64 0,.int .u64 0,.int .u64 0,.int .u64 0,.int .u64 0,.int .u64 0,.int .u64 0,.int .u64 0,.int .u64 0,.int .u64 0,.int .u64 0,.int .u64 0,.int .u64 0,.int .u64 0,.int .u64 0,.int .u64 0,.int .u64 0,.int .u64 0,.int .u64 0,.int .u64 0,.int .u64 0,.int .u64 0,.int .u64 0,.int .u64 0,.int .u64 0,.int .u64 0,.int .u64 0,.int .u64 0,.int .u64 0,.int .u64 0,.int .u64 0,.int .u64 0,.int .u64 0,.int .u64 0,.int .u64 0,.int .u64 0,.int .u64 0,.int .u64 0,.int .u8 0,.int .u8 0,.int .u8 0,.int .u8 0,.int .u8 0,.int .u8 0,.int .u8 0,.int .u8 0,.int .u8 0,.int .u8 0,.int .u8 0,.int .u8 0,.int .u8 0,.int .u8 0,.int .u8 0,.int .u8 0,.int .u8 0,.int .u8 0,.int .u8 0,.int .u8 0,.int .u8 0,.int .u8 0,.int .u8 0,.int .u8 0,.int .u8 0,.int .u8 0,.int .u8 0,.int .u8 0,.int .u8 0,.int .u8 0,.int .u8 0,.int .u8 0,.int .u8 0,.int .u8 0,.int .u8 0,.int .u8 0,.int .u8 0,.int .u8 0]
def zrp:List Value:=[.slice none 0 0,.int .i64 0,.int .u64 0,.int .u64 0,.int .u64 0,.int .u64 0,.int .u64 0,.int .u64 0,.int .u64 0,.int .u64 0,.int .u64 0,.int .u64 0,.int .u64 0,.int .u64 0,.int .u64 0,.int .u64 0,.int .u64 0,.int .u64 0,.int .u64 0,.int .u64 0,.int .u64 0,.int .u64 0,.int .u64 0,.int .u64 0,.int .u64 0,.int .u64 0,.int .u64 0,.int .u64 0,.int .u64 0,.int .u64 0,.int .u64 0,.int .u64 0,.int .u64 0,.int .u64 0,.int .u64 0,.int .u64 0,.int .u64 0,.int .u64 0,.int .u64 0,.int .u64 0,.int .u64 0,.int .u64 0,.int .u64 0,.int .u64 0,.int .u64 0,.int .u64 0,.int .u64 0,.int .u64 0,.int .u64 0,.int .u64 0,.int .i64 0,.int .u64 0,.int .u64 0,.int .u64 0,.int .u64 0,.int .u64 0,.int .u64 0,.int .u64 0,.int .u64 0,.int .u64 0,.int .u64 0,.int .u64 0,.int .u64 0,.int .u64 0,.int .u64 0,.int .u64 0,.int .u64 0,.int .u64 0,.int .u64 0,.int .u64 0,.int .u64 0,.int .u64 0,.int .u64 0,.int .u64 0,.int .u64 0,.int .u64 0,.int .u64 0,.int .u64 0,.int .u64 0,.int .u64 0,.int .u64 0,.int .u64 0,.int .u64 0,.int .u64 0,.int .u64 0,.int .u64 0,.int .u64 0,.int .u64 0,.int .u64 0,.int .u64 0,.int .u64 0,.int .u64 0,.int .u64 0,.int .u64 0,.int .u64 0,.int .u64 0,.int .u64 0,.int .u64 0,.int .u64 0,.int .i64 0,.int .u64 0,.int .u64 0,.int .u64 0,.int .u64 0,.int .u64 0,.int .u64 0,.int .u64 0,.int .u64 0,.int .u64 0,.int .u64 0,.int .u64 0,.int .u64 0,.int .u64 0,.int .u64 0,.int .u64 0,.int .u64 0,.int .u64 0,.int .u64 0,.int .u64 0,.int .u64 0,.int .u64 0,.int .u64 0,.int .u64 0,.int .u64 0,.int .u64 0,.int .u64 0,.int .u64 0,.int .u64 0,.int .u64 0,.int .u64 0,.int .u64 0,.int .u64 0,.int .u64 0,.int .u64 0,.int .u64 0,.int .u64 0,.int .u64 0,.int .u64 0,.int .u64 0,.int .u64 0,.int .u64 0,.int .u64 0,.int .u64 0,.int .u64 0,.int .u64 0,.int .u64 0,.int .u64 0,.int .u64 0,.int .i64 0,.int .u64 0,.int .u64 0,.int .u64 0,.int .u64 0,.int .u64 0,.int .u64 0,.int .u64 0,.int .u64 0,.int .u64 0,.int .u64 0,.int .u64 0,.int .u64 0,.int .u64 0,.int .u64 0,.int .u64 0,.int .u64 0,.int .u64 0,.int .u64 0,.int .u64 0,.int .u64 0,.int .u64 0,.int .u64 0,.int .u64 0,.int .u64 0,.int .u64 0,.int .u64 0,.int .u64 0,.int .u64 0,.int .u64 0,.int .u64 0,.int .u64 0,.int .u64 0,.int .u64 0,.int .u64 0,.int .u64 0,.int .u64 0,.int .u64 0,.int .u64 0,.int .u64 0,.int .u64 0,.int .u64 0,.int .u64 0,.int .u64 0,.int .u64 0,.int .u64 0,.int .u64 0,.int .u64 0,.int .u64 0,.int .i64 0,.int .u64 0,.int .u64 0,.int .u64 0,.int .u64 0,.int .u64 0,.int .u64 0,.int .u64 0,.int .u64 0,.int .u64 0,.int .u64 0,.int .u64 0,.int .u64 0,.int .u64 0,.int .u64 0,.int .u64 0,.int .u64 0,.int .u64 0,.int .u64 0,.int .u64 0,.int .u64 0,.int .u64 0,.int .u64 0,.int .u64 0,.int .u64 0,.int .u64 0,.int .u64 0,.int .u64 0,.int .u64 0,.int .u64 0,.int .u64 0,.int .u64 0,.int .u64 0,.int .u64 0,.int .u64 0,.int .u64 0,.int .u64 0,.int .u64 0,.int .u64 0,.int .u64 0,.int .u64 0,.int .u64 0,.int .u64 0,.int .u64 0,.int .u64 0,.int .u64 0,.int .u64 0,.int .u64 0,.int .u64 0,.int .i64 0,.int .u64 0,.int .u64 0,.int .u64 0,.int .u64 0,.int .u64 0,.int .u64 0,.int .u64 0,.int .u64 0,.int .u64 0,.int .u64 0,.int .u64 0,.int .u64 0,.int .u64 0,.int .u64 0,.int .u64 0,.int .u64 0,.int .u64 0,.int .u64 0,.int .u64 0,.int .u64 0,.int .u64 0,.int .u64 0,.int .u64 0,.int .u64 0,.int .u64 0,.int .u64 0,.int .u64 0,.int .u64 0,.int .u64 0,.int .u64 0,.int .u64 0,.int .u64 0,.int .u64 0,.int .u64 0,.int .u64 0,.int .u64 0,.int .u64 0,.int .u64 0,.int .u64 0,.int .u64 0,.int .u64 0,.int .u64 0,.int .u64 0,.int .u64 0,.int .u64 0,.int .u64 0,.int .u64 0,.int .u64 0,.int .u8 0,.int .u8 0,.int .u8 0,.int .u8 0,.int .u8 0,.int .u8 0,.int .u8 0,.int .u8 0,.int .u8 0,.int .u8 0,.int .u8 0,.int .u8 0,.int .u8 0,.int .u8 0,.int .u8 0,.int .u8 0,.int .u8 0,.int .u8 0,.int .u8 0,.int .u8 0,.int .u8 0,.int .u8 0,.int .u8 0,.int .u8 0,.int .u8 0,.int .u8 0,.int .u8 0,.int .u8 0,.int .u8 0,.int .u8 0,.int .u8 0,.int .u8 0,.int .u8 0,.int .u8 0,.int .u8 0,.int .u8 0,.int .u8 0,.int .u8 0,.int .i64 0,.map none]
def zd3:List Value:=[.slice none 0 0,.int .i64 0,.int .u64 0,.int .u64 0,.int .u64 0,.int .u64 0,.int .u64 0,.int .u64 0,.int .u64 0,.int .u64 0,.int .u64 0,.int .u64 0,.int .u64 0,.int .u64 0,.int .u64 0,.int .u64 0,.int .u64 0,.int .u64 0,.int .u64 0,.int .u64 0,.int .u64 0,.int .u64 0,.int .u64 0,.int .u64 0,.int .u64 0,.int .u64 0,.int .u64 0,.int .u64 0,.int .u64 0,.int .u64 0,.int .u64 0,.int .u64 0,.int .u64 0,.int .u64 0,.int .u64 0,.int .u64 0,.int .u64 0,.int .u64 0,.int .u64 0,.int .u64 0,.int .u64 0,.int .u64 0,.int .u64 0,.int .u64 0,.int .u64 0,.int .u64 0,.int .u64 0,.int .u64 0,.int .u64 0,.int .u64 0,.int .i64 0,.int .u64 0,.int .u64 0,.int .u64 0,.int .u64 0,.int .u64 0,.int .u64 0,.int .u64 0,.int .u64 0,.int .u64 0,.int .u64 0,.int .u64 0,.int .u64 0,.int .u64 0,.int .u64 0,.int .u64 0,.int .u64 0,.int .u64 0,.int .u64 0,.int .u64 0,.int .u64 0,.int .u64 0,.int .u64 0,.int .u64 0,.int .u64 0,.int .u64 0,.int .u64 0,.int .u64 0,.int .u64 0,.int .u64 0,.int .u64 0,.int .u64 0,.int .u64 0,.int .u64 0,.int .u64 0,.int .u64 0,.int .u64 0,.int .u64 0,.int .u64 0,.int .u64 0,.int .u64 0,.int .u64 0,.int .u64 0,.int .u64 0,.int .u64 0,.int .u64 0,.int .u64 0,.int .u64 0,.int .u64 0,.int .i64 0,.int .u64 0,.int .u64 0,.int .u64 0,.int .u64 0,.int .u64 0,.int .u64 0,.int .u64 0,.int .u64 0,.int .u64 0,.int .u64 0,.int .u64 0,.int .u64 0,.int .u64 0,.int .u64 0,.int .u64 0,.int .u64 0,.int .u64 0,.int .u64 0,.int .u64 0,.int .u64 0,.int .u64 0,.int .u64 0,.int .u64 0,.int .u64 0,.int .u64 0,.int .u64 0,.int .u64 0,.int .u64 0,.int .u64 0,.int .u64 0,.int .u64 0,.int .u64 0,.int .u64 0,.int .u64 0,.int .u64 0,.int .u64 0,.int .u64 0,.int .u64 0,.int .u64 0,.int .u64 0,.int .u64 0,.int .u64 0,.int .u64 0,.int .u64 0,.int .u64 0,.int .u64 0,.int .u64 0,.int .u64 0,.int .i64 0,.int .u64 0,.int .u64 0,.int .u64 0,.int .u64 0,.int .u64 0,.int .u64 0,.int .u64 0,.int .u64 0,.int .u64 0,.int .u64 0,.int .u64 0,.int .u64 0,.int .u64 0,.int .u64 0,.int .u64 0,.int .u64 0,.int .u64 0,.int .u64 0,.int .u64 0,.int .u64 0,.int .u64 0,.int .u64 0,.int .u64 0,.int .u64 0,.int .u64 0,.int .u64 0,.int .u64 0,.int .u64 0,.int .u64 0,.int .u64 0,.int .u64 0,.int .u64 0,.int .u64 0,.int .u64 0,.int .u64 0,.int .u64 0,.int .u64 0,.int .u64 0,.int .u64 0,.int .u64 0,.int .u64 0,.int .u64 0,.int .u64 0,.int .u64 0,.int .u64 0,.int .u64 0,.int .u64 0,.int .u64 0,.int .i64 0,.int .u64 0,.int .u64 0,.int .u64 0,.int .u64 0,.int .u64 0,.int .u64 0,.int .u64 0,.int .u64 0,.int .u64 0,.int .u64 0,.int .u64 0,.int .u64 0,.int .u64 0,.int .u64 0,.int .u64 0,.int .u64 0,.int .u64 0,.int .u64 0,.int .u64 0,.int .u64 0,.int .u64 0,.int .u64 0,.int .u64 0,.int .u64 0,.int .u64 0,.int .u64 0,.int .u64 0,.int .u64 0,.int .u64 0,.int .u64 0,.int .u64 0,.int .u64 0,.int .u64 0,.int .u64 0,.int .u64 0,.int .u64 0,.int .u64 0,.int .u64 0,.int .u64 0,.int .u64 0,.int .u64 0,.int .u64 0,.int .u64 0,.int .u64 0,.int .u64 0,.int .u64 0,.int .u64 0,.int .u64 0,.int .i64 0,.int .u64 0,.int .u64 0,.int .u64 0,.int .u64 0,.int .u64 0,.int .u64 0,.int .u64 0,.int .u64 0,.int .u64 0,.int .u64 0,.int .u64 0,.int .u64 0,.int .u64 0,.int .u64 0,.int .u64 0,.int .u64 0,.int .u64 0,.int .u64 0,.int .u64 0,.int .u64 0,.int .u64 0,.int .u64 0,.int .u64 0,.int .u64 0,.int .u64 0,.int .u64 0,.int .u64 0,.int .u64 0,.int .u64 0,.int .u64 0,.int .u64 0,.int .u64 0,.int .u64 0,.int .u64 0,.int .u64 0,.int .u64 0,.int .u64 0,.int .u64 0,.int .u64 0,.int .u64 0,.int .u64 0,.int .u64 0,.int .u64 0,.int .u64 0,.int .u64 0,.int .u64 0,.int .u64 0,.int .u64 0,.int .u8 0,.int .u8 0,.int .u8 0,.int .u8 0,.int .u8 0,.int .u8 0,.int .u8 0,.int .u8 0,.int .u8 0,.int .u8 0,.int .u8 0,.int .u8 0,.int .u8 0,.int .u8 0,.int .u8 0,.int .u8 0,.int .u8 0,.int .u8 0,.int .u8 0,.int .u8 0,.int .u8 0,.int .u8 0,.int .u8 0,.int .u8 0,.int .u8 0,.int .u8 0,.int .u8 0,.int .u8 0,.int .u8 0,.int .u8 0,.int .u8 0,.int .u8 0,.int .u8 0,.int .u8 0,.int .u8 0,.int .u8 0,.int .u8 0,.int .u8 0,.slice none 0 0,.slice none 0 0,.slice none 0 0]
def zsR:List Value:=[.string ByteArray.empty,.int .i64 0,.int .u64 0,.int .u64 0,.int .u64 0,.int .u64 0,.int .u64 0,.int .u64 0,.int .u64 0,.int .u64 0,.int .u64 0,.int .u64 0,.int .u64 0,.int .u64 0,.int .u64 0,.int .u64 0,.int .u64 0,.int .u64 0,.int .u64 0,.int .u64 0,.int .u64 0,.int .u64 0,.int .u64 0,.int .u64 0,.int .u64 0,.int .u64 0,.int .u64 0,.int .u64 0,.int .u64 0,.int .u64 0,.int .u64 0,.int .u64 0,.int .u64 0,.int .u64 0,.int .u64 0,.int .u64 0,.int .u64 0,.int .u64 0,.int .u64 0,.int .u64 0,.int .u64 0,.int .u64 0,.int .u64 0,.int .u64 0,.int .u64 0,.int .u64 0,.int .u64 0,.int .u64 0,.int .u64 0,.int .u64 0]
def zsP:List Value:=[.int .i64 0,.int .u8 0,.int .u8 0,.int .u8 0,.int .u8 0,.int .u8 0,.int .u8 0,.int .i64 0,.int .u8 0,.int .u8 0,.int .u8 0,.int .u8 0,.int .u8 0,.int .u8 0,.int .i64 0,.int .u8 0,.int .u8 0,.int .u8 0,.int .u8 0,.int .u8 0,.int .u8 0,.int .i64 0,.int .u8 0,.int .u8 0,.int .u8 0,.int .u8 0,.int .u8 0,.int .u8 0,.int .i64 0,.int .u8 0,.int .u8 0,.int .u8 0,.int .u8 0,.int .u8 0,.int .u8 0,.int .i64 0,.int .u8 0,.int .u8 0,.int .u8 0,.int .u8 0,.int .u8 0,.int .u8 0,.int .i64 0,.int .u8 0,.int .u8 0,.int .u8 0,.int .u8 0,.int .u8 0,.int .u8 0,.int .i64 0,.int .u8 0,.int .u8 0,.int .u8 0,.int .u8 0,.int .u8 0,.int .u8 0,.int .i64 0,.int .u8 0,.int .u8 0,.int .u8 0,.int .u8 0,.int .u8 0,.int .u8 0,.int .i64 0,.int .u8 0,.int .u8 0,.int .u8 0,.int .u8 0,.int .u8 0,.int .u8 0,.int .i64 0,.int .u8 0,.int .u8 0,.int .u8 0,.int .u8 0,.int .u8 0,.int .u8 0,.int .i64 0,.int .u8 0,.int .u8 0,.int .u8 0,.int .u8 0,.int .u8 0,.int .u8 0,.int .i64 0,.int .u8 0,.int .u8 0,.int .u8 0,.int .u8 0,.int .u8 0,.int .u8 0,.int .i64 0,.int .u8 0,.int .u8 0,.int .u8 0,.int .u8 0,.int .u8 0,.int .u8 0,.int .i64 0,.int .u8 0,.int .u8 0,.int .u8 0,.int .u8 0,.int .u8 0,.int .u8 0,.int .i64 0,.int .u8 0,.int .u8 0,.int .u8 0,.int .u8 0,.int .u8 0,.int .u8 0,.int .i64 0,.int .u8 0,.int .u8 0,.int .u8 0,.int .u8 0,.int .u8 0,.int .u8 0,.int .i64 0,.int .u8 0,.int .u8 0,.int .u8 0,.int .u8 0,.int .u8 0,.int .u8 0,.int .i64 0,.int .u8 0,.int .u8 0,.int .u8 0,.int .u8 0,.int .u8 0,.int .u8 0,.int .i64 0,.int .u8 0,.int .u8 0,.int .u8 0,.int .u8 0,.int .u8 0,.int .u8 0,.int .i64 0,.int .u8 0,.int .u8 0,.int .u8 0,.int .u8 0,.int .u8 0,.int .u8 0,.int .i64 0,.int .u8 0,.int .u8 0,.int .u8 0,.int .u8 0,.int .u8 0,.int .u8 0,.int .i64 0,.int .u8 0,.int .u8 0,.int .u8 0,.int .u8 0,.int .u8 0,.int .u8 0,.int .i64 0,.int .u8 0,.int .u8 0,.int .u8 0,.int .u8 0,.int .u8 0,.int .u8 0]
def znR:List Value:=[.int .i64 0,.int .u8 0,.int .u8 0,.int .u8 0,.int .u8 0,.int .u8 0,.int .u8 0,.int .u8 0,.int .u8 0,.int .u32 0,.int .u32 0,.int .u32 0,.int .u32 0,.int .u32 0,.int .u32 0,.int .u32 0,.int .u32 0,.int .u32 0,.int .i64 0,.int .i64 0,.int .u8 0,.int .u8 0,.int .u8 0,.int .u8 0,.int .u8 0,.int .u8 0,.int .i64 0,.int .u8 0,.int .u8 0,.int .u8 0,.int .u8 0,.int .u8 0,.int .u8 0,.int .i64 0,.int .u8 0,.int .u8 0,.int .u8 0,.int .u8 0,.int .u8 0,.int .u8 0,.int .i64 0,.int .u8 0,.int .u8 0,.int .u8 0,.int .u8 0,.int .u8 0,.int .u8 0,.int .i64 0,.int .u8 0,.int .u8 0,.int .u8 0,.int .u8 0,.int .u8 0,.int .u8 0,.int .i64 0,.int .u8 0,.int .u8 0,.int .u8 0,.int .u8 0,.int .u8 0,.int .u8 0,.int .i64 0,.int .u8 0,.int .u8 0,.int .u8 0,.int .u8 0,.int .u8 0,.int .u8 0,.int .i64 0,.int .u8 0,.int .u8 0,.int .u8 0,.int .u8 0,.int .u8 0,.int .u8 0,.int .i64 0,.int .u8 0,.int .u8 0,.int .u8 0,.int .u8 0,.int .u8 0,.int .u8 0,.int .i64 0,.int .u8 0,.int .u8 0,.int .u8 0,.int .u8 0,.int .u8 0,.int .u8 0,.int .i64 0,.int .u8 0,.int .u8 0,.int .u8 0,.int .u8 0,.int .u8 0,.int .u8 0,.int .i64 0,.int .u8 0,.int .u8 0,.int .u8 0,.int .u8 0,.int .u8 0,.int .u8 0,.int .i64 0,.int .u8 0,.int .u8 0,.int .u8 0,.int .u8 0,.int .u8 0,.int .u8 0,.int .i64 0,.int .u8 0,.int .u8 0,.int .u8 0,.int .u8 0,.int .u8 0,.int .u8 0,.int .i64 0,.int .u8 0,.int .u8 0,.int .u8 0,.int .u8 0,.int .u8 0,.int .u8 0,.int .i64 0,.int .u8 0,.int .u8 0,.int .u8 0,.int .u8 0,.int .u8 0,.int .u8 0,.int .i64 0,.int .u8 0,.int .u8 0,.int .u8 0,.int .u8 0,.int .u8 0,.int .u8 0,.int .i64 0,.int .u8 0,.int .u8 0,.int .u8 0,.int .u8 0,.int .u8 0,.int .u8 0,.int .i64 0,.int .u8 0,.int .u8 0,.int .u8 0,.int .u8 0,.int .u8 0,.int .u8 0,.int .i64 0,.int .u8 0,.int .u8 0,.int .u8 0,.int .u8 0,.int .u8 0,.int .u8 0,.int .i64 0,.int .u8 0,.int .u8 0,.int .u8 0,.int .u8 0,.int .u8 0,.int .u8 0,.int .i64 0,.int .u8 0,.int .u8 0,.int .u8 0,.int .u8 0,.int .u8 0,.int .u8 0,.int .i64 0,.int .u8 0,.int .u8 0,.int .u8 0,.int .u8 0,.int .u8 0,.int .u8 0,.int .i64 0,.int .u8 0,.int .u8 0,.int .u8 0,.int .u8 0,.int .u8 0,.int .u8 0,.int .u32 0,.int .u32 0,.int .u32 0,.int .u32 0,.int .u32 0,.int .u32 0,.int .u32 0,.int .u32 0,.int .u32 0,.int .u32 0,.int .u32 0,.int .u32 0,.int .u32 0,.int .u32 0,.int .u32 0,.int .u32 0,.int .u32 0,.int .u32 0,.int .u32 0,.int .u32 0,.int .u32 0,.int .u32 0,.int .u32 0,.int .u32 0,.int .u32 0,.int .u32 0,.int .u32 0,.int .u32 0,.int .u32 0,.int .u32 0,.int .u32 0,.int .u32 0,.int .u32 0,.int .u32 0,.int .u32 0,.int .u32 0,.int .u32 0,.int .u32 0,.int .u32 0,.int .u32 0,.int .u32 0,.int .u32 0,.int .u32 0,.int .u32 0,.int .u32 0,.int .u32 0,.int .u32 0,.int .u32 0,.int .u32 0,.int .u32 0,.int .u32 0,.int .u32 0,.int .u32 0,.int .u32 0,.int .u32 0,.int .u32 0,.int .u32 0,.int .u32 0,.int .u32 0,.int .u32 0,.int .u32 0,.int .u32 0,.int .u32 0,.int .u32 0,.int .u32 0,.int .u32 0,.int .u32 0,.int .u32 0,.int .u32 0,.int .u32 0,.int .u32 0,.int .u32 0]
def zsQ:List Value:=zt47++(zt40++(zt40++zt40))
def tt:TT:=[
 (0,⟨.other,1,false,0,none⟩),
 (3,⟨.int .i64,1,false,8,some [.int .i64 0]⟩),
 (4,⟨.bool,1,false,1,some [.bool false]⟩),
 (5,⟨.int .u8,1,false,1,some [.int .u8 0]⟩),
 (9,⟨.string,1,false,16,some [.string ByteArray.empty]⟩),
 (20,⟨.other,1,false,16,some [.nilIface]⟩),
 (22,⟨.int .u16,1,false,2,some [.int .u16 0]⟩),
 (23,⟨.other,1,false,8,some [.nilFunc]⟩),
 (24,⟨.slice 62 5,1,false,24,some [.slice none 0 0]⟩),
 (26,⟨.struct [(0,1,false)],1,true,24,some [.slice none 0 0]⟩),
 (27,⟨.int .i64,1,false,8,some [.int .i64 0]⟩),
 (28,⟨.other,1,false,0,none⟩),
 (32,⟨.slice 34 3,1,false,24,some [.slice none 0 0]⟩),
 (34,⟨.struct [(0,1,false),(1,1,false),(2,1,false)],3,true,48,some [.int .u8 0,.string ByteArray.empty,.slice none 0 0]⟩),
 (35,⟨.slice 208 7,1,false,24,some [.slice none 0 0]⟩),
 (36,⟨.int .u64,1,false,8,some [.int .u64 0]⟩),
 (37,⟨.int .u64,1,false,8,some [.int .u64 0]⟩),
 (38,⟨.array 48 37 1 false,48,true,384,some (List.replicate 48 (.int .u64 0))⟩),
 (40,⟨.struct [(0,1,false),(1,48,true)],49,true,392,some zt40⟩),
 (41,⟨.array 8 5 1 false,8,true,8,some (List.replicate 8 (.int .u8 0))⟩),
 (42,⟨.array 4 41 8 true,32,true,32,some (List.replicate 32 (.int .u8 0))⟩),
 (43,⟨.array 6 5 1 false,6,true,6,some (List.replicate 6 (.int .u8 0))⟩),
 (45,⟨.struct [(0,32,true),(32,6,true)],38,true,38,some (List.replicate 38 (.int .u8 0))⟩),
 (47,⟨.struct [(0,1,false),(1,49,true),(50,49,true),(99,49,true),(148,49,true),(197,49,true),(246,49,true),(295,38,true)],333,true,2416,some zt47⟩),
 (50,⟨.other,1,false,0,none⟩),
 (52,⟨.other,1,false,0,none⟩),
 (54,⟨.other,1,false,0,none⟩),
 (56,⟨.other,1,false,0,none⟩),
 (60,⟨.other,1,false,8,some [.nilFunc]⟩),
 (62,⟨.struct [(0,1,false),(1,1,false),(2,3,true)],5,true,72,some [.int .u8 0,.string ByteArray.empty,.int .u8 0,.string ByteArray.empty,.slice none 0 0]⟩),
 (66,⟨.other,1,false,8,some [.nilFunc]⟩),
 (67,⟨.map 5 66,1,false,8,some [.map none]⟩),
 (69,⟨.other,1,false,8,some [.nilFunc]⟩),
 (71,⟨.slice 151 2,1,false,24,some [.slice none 0 0]⟩),
 (75,⟨.array 4 9 1 false,4,true,64,some [.string ByteArray.empty,.string ByteArray.empty,.string ByteArray.empty,.string ByteArray.empty]⟩),
 (80,⟨.slice 5 1,1,false,24,some [.slice none 0 0]⟩),
 (84,⟨.other,1,false,0,none⟩),
 (86,⟨.slice 47 333,1,false,24,some [.slice none 0 0]⟩),
 (87,⟨.other,1,false,0,none⟩),
 (89,⟨.slice 9 1,1,false,24,some [.slice none 0 0]⟩),
 (91,⟨.struct [(0,1,false),(1,1,false)],2,true,2,some [.bool false,.int .u8 0]⟩),
 (93,⟨.struct [(0,1,false),(1,1,false),(2,1,false),(3,2,true),(5,2,true),(7,1,false),(8,1,false),(9,1,false)],10,true,10,some [.int .u8 0,.int .u8 0,.int .u8 0,.bool false,.int .u8 0,.bool false,.int .u8 0,.int .u8 0,.int .u8 0,.int .u8 0]⟩),
 (94,⟨.slice 93 10,1,false,24,some [.slice none 0 0]⟩),
 (95,⟨.slice 94 1,1,false,24,some [.slice none 0 0]⟩),
 (96,⟨.slice 98 5,1,false,24,some [.slice none 0 0]⟩),
 (98,⟨.struct [(0,1,false),(1,1,false),(2,1,false),(3,1,false),(4,1,false)],5,true,32,some [.int .u8 0,.int .u8 0,.int .u8 0,.int .u8 0,.slice none 0 0]⟩),
 (100,⟨.struct [(0,1,false),(1,1,false),(2,1,false),(3,1,false),(4,1,false),(5,5,true)],10,true,128,some [.string ByteArray.empty,.slice none 0 0,.slice none 0 0,.slice none 0 0,.int .u8 0,.int .u8 0,.int .u8 0,.int .u8 0,.int .u8 0,.slice none 0 0]⟩),
 (103,⟨.ptr 108,1,false,8,some [.pointer none]⟩),
 (104,⟨.map 9 4,1,false,8,some [.map none]⟩),
 (106,⟨.struct [(0,1,false),(1,1,false),(2,1,false)],3,true,32,some [.int .u8 0,.string ByteArray.empty,.int .i64 0]⟩),
 (108,⟨.struct [(0,1,false),(1,3,true),(4,1,false),(5,1,false),(6,1,false),(7,1,false),(8,1,false)],9,true,88,some [.string ByteArray.empty,.int .u8 0,.string ByteArray.empty,.int .i64 0,.map none,.map none,.int .i64 0,.int .i64 0,.int .i64 0]⟩),
 (109,⟨.other,1,false,0,none⟩),
 (111,⟨.other,1,false,0,none⟩),
 (113,⟨.ptr 115,1,false,8,some [.pointer none]⟩),
 (115,⟨.struct [(0,1,false),(1,1,false)],2,true,16,some [.map none,.int .i64 0]⟩),
 (118,⟨.struct [(0,1,false),(1,1,false),(2,1,false)],3,true,40,some [.slice none 0 0,.int .i64 0,.int .i64 0]⟩),
 (120,⟨.ptr 125,1,false,8,some [.pointer none]⟩),
 (123,⟨.map 9 40,1,false,8,some [.map none]⟩),
 (125,⟨.struct [(0,333,true),(333,1,false),(334,1,false)],335,true,2432,some zrp⟩),
 (126,⟨.other,1,false,0,none⟩),
 (129,⟨.other,1,false,0,none⟩),
 (132,⟨.slice 215 50,1,false,24,some [.slice none 0 0]⟩),
 (136,⟨.ptr 40,1,false,8,some [.pointer none]⟩),
 (137,⟨.slice 136 1,1,false,24,some [.slice none 0 0]⟩),
 (140,⟨.ptr 47,1,false,8,some [.pointer none]⟩),
 (143,⟨.other,1,false,8,some [.nilFunc]⟩),
 (145,⟨.other,1,false,0,none⟩),
 (149,⟨.slice 3 1,1,false,24,some [.slice none 0 0]⟩),
 (151,⟨.array 2 3 1 false,2,true,16,some [.int .i64 0,.int .i64 0]⟩),
 (153,⟨.other,1,false,8,some [.nilFunc]⟩),
 (155,⟨.int .u64,1,false,8,some [.int .u64 0]⟩),
 (156,⟨.other,1,false,0,none⟩),
 (159,⟨.ptr 161,1,false,8,some [.pointer none]⟩),
 (161,⟨.struct [(0,1,false),(1,1,false)],2,true,32,some [.pointer none,.slice none 0 0]⟩),
 (164,⟨.other,1,false,16,some [.nilIface]⟩),
 (165,⟨.other,1,false,0,none⟩),
 (170,⟨.other,1,false,0,none⟩),
 (172,⟨.slice 178 336,1,false,24,some [.slice none 0 0]⟩),
 (173,⟨.other,1,false,0,none⟩),
 (175,⟨.ptr 100,1,false,8,some [.pointer none]⟩),
 (176,⟨.slice 149 1,1,false,24,some [.slice none 0 0]⟩),
 (178,⟨.struct [(0,333,true),(333,1,false),(334,1,false),(335,1,false)],336,true,2488,some zd3⟩),
 (181,⟨.other,1,false,8,some [.nilFunc]⟩),
 (182,⟨.other,1,false,8,some [.nilFunc]⟩),
 (189,⟨.other,1,false,8,some [.nilFunc]⟩),
 (191,⟨.other,1,false,0,none⟩),
 (195,⟨.array 10 3 1 false,10,true,80,some (List.replicate 10 (.int .i64 0))⟩),
 (196,⟨.ptr 118,1,false,8,some [.pointer none]⟩),
 (199,⟨.array 10 9 1 false,10,true,160,some (List.replicate 10 (.string ByteArray.empty))⟩),
 (206,⟨.slice 40 49,1,false,24,some [.slice none 0 0]⟩),
 (208,⟨.struct [(0,1,false),(1,1,false),(2,1,false),(3,1,false),(4,1,false),(5,1,false),(6,1,false)],7,true,16,some [.int .i64 0,.int .u8 0,.int .u8 0,.int .u8 0,.int .u8 0,.int .u8 0,.int .u8 0]⟩),
 (215,⟨.struct [(0,1,false),(1,49,true)],50,true,408,some zsR⟩),
 (219,⟨.other,1,false,0,none⟩),
 (223,⟨.other,1,false,8,some [.nilFunc]⟩),
 (226,⟨.other,1,false,8,some [.nilFunc]⟩),
 (227,⟨.other,1,false,8,some [.nilFunc]⟩),
 (233,⟨.other,1,false,8,some [.nilFunc]⟩),
 (237,⟨.int .u32,1,false,4,some [.int .u32 0]⟩),
 (238,⟨.other,1,false,0,none⟩),
 (240,⟨.other,1,false,0,none⟩),
 (242,⟨.ptr 5,1,false,8,some [.pointer none]⟩),
 (243,⟨.slice 246 2,1,false,24,some [.slice none 0 0]⟩),
 (246,⟨.struct [(0,1,false),(1,1,false)],2,true,16,some [.int .i64 0,.nilFunc]⟩),
 (248,⟨.other,1,false,0,none⟩),
 (250,⟨.slice 251 1,1,false,24,some [.slice none 0 0]⟩),
 (251,⟨.slice 259 12,1,false,24,some [.slice none 0 0]⟩),
 (252,⟨.other,1,false,0,none⟩),
 (254,⟨.other,1,false,8,some [.nilFunc]⟩),
 (255,⟨.other,1,false,8,some [.nilFunc]⟩),
 (257,⟨.slice 350 2,1,false,24,some [.slice none 0 0]⟩),
 (259,⟨.struct [(0,1,false),(1,1,false),(2,1,false),(3,1,false),(4,8,true)],12,true,104,some [.slice none 0 0,.slice none 0 0,.slice none 0 0,.slice none 0 0,.int .u8 0,.int .u8 0,.int .u8 0,.int .u8 0,.int .u8 0,.int .u8 0,.int .u8 0,.int .u8 0]⟩),
 (260,⟨.other,1,false,0,none⟩),
 (262,⟨.ptr 178,1,false,8,some [.pointer none]⟩),
 (263,⟨.slice 176 1,1,false,24,some [.slice none 0 0]⟩),
 (271,⟨.other,1,false,0,none⟩),
 (274,⟨.struct [(0,1,false),(1,1,false),(2,1,false)],3,true,32,some [.int .i64 0,.string ByteArray.empty,.int .i64 0]⟩),
 (282,⟨.other,1,false,8,some [.nilFunc]⟩),
 (283,⟨.other,1,false,8,some [.nilFunc]⟩),
 (284,⟨.other,1,false,8,some [.nilFunc]⟩),
 (288,⟨.ptr 290,1,false,8,some [.pointer none]⟩),
 (290,⟨.struct [(0,333,true),(333,49,true),(382,49,true),(431,49,true)],480,true,3592,some zsQ⟩),
 (292,⟨.other,1,false,8,some [.nilFunc]⟩),
 (294,⟨.struct [(0,1,false)],1,true,8,some [.nilFunc]⟩),
 (295,⟨.array 7 294 1 true,7,true,56,some (List.replicate 7 (.nilFunc))⟩),
 (297,⟨.other,1,false,8,some [.pointer none]⟩),
 (300,⟨.other,1,false,8,some [.nilFunc]⟩),
 (301,⟨.other,1,false,8,some [.nilFunc]⟩),
 (306,⟨.array 256 4 1 false,256,true,256,some (List.replicate 256 (.bool false))⟩),
 (307,⟨.other,1,false,8,some [.nilFunc]⟩),
 (308,⟨.other,1,false,8,some [.nilFunc]⟩),
 (310,⟨.ptr 316,1,false,8,some [.pointer none]⟩),
 (311,⟨.int .u32,1,false,4,some [.int .u32 0]⟩),
 (312,⟨.array 8 311 1 false,8,true,32,some (List.replicate 8 (.int .u32 0))⟩),
 (313,⟨.array 24 208 7 true,168,true,384,some zsP⟩),
 (314,⟨.array 24 311 1 false,24,true,96,some (List.replicate 24 (.int .u32 0))⟩),
 (316,⟨.struct [(0,1,false),(1,8,true),(9,8,true),(17,1,false),(18,1,false),(19,168,true),(187,24,true),(211,24,true),(235,24,true)],259,true,736,some znR⟩),
 (318,⟨.other,1,false,8,some [.nilFunc]⟩),
 (322,⟨.other,1,false,0,none⟩),
 (324,⟨.array 3 5 1 false,3,true,3,some [.int .u8 0,.int .u8 0,.int .u8 0]⟩),
 (328,⟨.array 64 5 1 false,64,true,64,some (List.replicate 64 (.int .u8 0))⟩),
 (330,⟨.slice 335 3,1,false,24,some [.slice none 0 0]⟩),
 (331,⟨.other,1,false,0,none⟩),
 (333,⟨.int .u8,1,false,1,some [.int .u8 0]⟩),
 (335,⟨.struct [(0,1,false),(1,1,false),(2,1,false)],3,true,32,some [.int .u8 0,.string ByteArray.empty,.int .i64 0]⟩),
 (338,⟨.struct [(0,10,true),(10,1,false),(11,1,false)],12,true,32,some [.int .u8 0,.int .u8 0,.int .u8 0,.bool false,.int .u8 0,.bool false,.int .u8 0,.int .u8 0,.int .u8 0,.int .u8 0,.int .i64 0,.int .i64 0]⟩),
 (339,⟨.slice 23 1,1,false,24,some [.slice none 0 0]⟩),
 (342,⟨.ptr 98,1,false,8,some [.pointer none]⟩),
 (345,⟨.other,1,false,8,some [.nilFunc]⟩),
 (348,⟨.slice 311 1,1,false,24,some [.slice none 0 0]⟩),
 (350,⟨.array 2 5 1 false,2,true,2,some [.int .u8 0,.int .u8 0]⟩),
 (355,⟨.struct [(0,1,false),(1,1,false)],2,true,24,some [.string ByteArray.empty,.int .i64 0]⟩),
 (357,⟨.struct [(0,2,true),(2,1,false)],3,true,32,some [.string ByteArray.empty,.int .i64 0,.bool false]⟩),
 (358,⟨.other,1,false,8,some [.nilFunc]⟩),
 (359,⟨.other,1,false,8,some [.nilFunc]⟩),
 (363,⟨.ptr 338,1,false,8,some [.pointer none]⟩),
 (367,⟨.int .i64,1,false,8,some [.int .i64 0]⟩),
 (368,⟨.other,1,false,0,none⟩),
 (377,⟨.ptr 357,1,false,8,some [.pointer none]⟩),
 (378,⟨.other,1,false,8,some [.nilFunc]⟩),
 (379,⟨.other,1,false,0,none⟩),
 (382,⟨.array 9 5 1 false,9,true,9,some (List.replicate 9 (.int .u8 0))⟩),
 (383,⟨.int .u64,1,false,8,some [.int .u64 0]⟩),
 (387,⟨.ptr 3,1,false,8,some [.pointer none]⟩),
 (389,⟨.other,1,false,8,some [.nilFunc]⟩),
 (390,⟨.array 9 389 1 false,9,true,72,some (List.replicate 9 (.nilFunc))⟩),
 (392,⟨.array 32 5 1 false,32,true,32,some (List.replicate 32 (.int .u8 0))⟩),
 (394,⟨.other,1,false,0,none⟩),
 (396,⟨.ptr 383,1,false,8,some [.pointer none]⟩),
 (397,⟨.other,1,false,0,none⟩),
 (399,⟨.ptr 355,1,false,8,some [.pointer none]⟩),
 (400,⟨.other,1,false,8,some [.nilFunc]⟩),
 (403,⟨.other,1,false,0,none⟩)]
theorem tk {P:Program} {t:Nat} {i:TI} (h1:(P.info? t).map (fun x=>(x.size,x.bytes))=some (i.size,i.bytes):=by kernel_rfl)
  (h2:∀ z,i.zero=some z->((P.info? t).bind (fun x=>x.zero)).map (fun v=>v.cells.toList)=some z:=by intro z h;cases h;first | done | kernel_rfl) (h3:zqQ P t i=true:=by kernel_rfl):TIok P t i:=tiOk h1 h2 h3
theorem ttOk:TTok Tryz.prog tt :=
 .cons tk (
 .cons tk (
 .cons tk (
 .cons tk (
 .cons tk (
 .cons tk (
 .cons tk (
 .cons tk (
 .cons tk (
 .cons tk (
 .cons tk (
 .cons tk (
 .cons tk (
 .cons tk (
 .cons tk (
 .cons tk (
 .cons tk (
 .cons tk (
 .cons tk (
 .cons tk (
 .cons tk (
 .cons tk (
 .cons tk (
 .cons tk (
 .cons tk (
 .cons tk (
 .cons tk (
 .cons tk (
 .cons tk (
 .cons tk (
 .cons tk (
 .cons tk (
 .cons tk (
 .cons tk (
 .cons tk (
 .cons tk (
 .cons tk (
 .cons tk (
 .cons tk (
 .cons tk (
 .cons tk (
 .cons tk (
 .cons tk (
 .cons tk (
 .cons tk (
 .cons tk (
 .cons tk (
 .cons tk (
 .cons tk (
 .cons tk (
 .cons tk (
 .cons tk (
 .cons tk (
 .cons tk (
 .cons tk (
 .cons tk (
 .cons tk (
 .cons tk (
 .cons tk (
 .cons tk (
 .cons tk (
 .cons tk (
 .cons tk (
 .cons tk (
 .cons tk (
 .cons tk (
 .cons tk (
 .cons tk (
 .cons tk (
 .cons tk (
 .cons tk (
 .cons tk (
 .cons tk (
 .cons tk (
 .cons tk (
 .cons tk (
 .cons tk (
 .cons tk (
 .cons tk (
 .cons tk (
 .cons tk (
 .cons tk (
 .cons tk (
 .cons tk (
 .cons tk (
 .cons tk (
 .cons tk (
 .cons tk (
 .cons tk (
 .cons tk (
 .cons tk (
 .cons tk (
 .cons tk (
 .cons tk (
 .cons tk (
 .cons tk (
 .cons tk (
 .cons tk (
 .cons tk (
 .cons tk (
 .cons tk (
 .cons tk (
 .cons tk (
 .cons tk (
 .cons tk (
 .cons tk (
 .cons tk (
 .cons tk (
 .cons tk (
 .cons tk (
 .cons tk (
 .cons tk (
 .cons tk (
 .cons tk (
 .cons tk (
 .cons tk (
 .cons tk (
 .cons tk (
 .cons tk (
 .cons tk (
 .cons tk (
 .cons tk (
 .cons tk (
 .cons tk (
 .cons tk (
 .cons tk (
 .cons tk (
 .cons tk (
 .cons tk (
 .cons tk (
 .cons tk (
 .cons tk (
 .cons tk (
 .cons tk (
 .cons tk (
 .cons tk (
 .cons tk (
 .cons tk (
 .cons tk (
 .cons tk (
 .cons tk (
 .cons tk (
 .cons tk (
 .cons tk (
 .cons tk (
 .cons tk (
 .cons tk (
 .cons tk (
 .cons tk (
 .cons tk (
 .cons tk (
 .cons tk (
 .cons tk (
 .cons tk (
 .cons tk (
 .cons tk (
 .cons tk (
 .cons tk (
 .cons tk (
 .cons tk (
 .cons tk (
 .cons tk (
 .cons tk (
 .cons tk (
 .cons tk (
 .cons tk (
 .cons tk (
 .cons tk (
 .cons tk (
 .cons tk (
 .cons tk (
 .cons tk (
 .nil))))))))))))))))))))))))))))))))))))))))))))))))))))))))))))))))))))))))))))))))))))))))))))))))))))))))))))))))))))))))))))))))))))))))))))))))))))))))))))))))))))))))))))
theorem zss:zq7 Tryz.prog 3 364 [110,214,215,337,338,339,340,341,342,343,344,345,346,347,348,349,350,351,352,353,354,355,356,357,358,359,360,361,362]=true:=by kernel_rfl
theorem mixed:Tryz.prog.follows .mixedOrders=true:=by kernel_rfl
@[reducible] noncomputable def sg (n:Nat):Sig:=⟨Tryz.prog,tt,n,3,364,none,[110,214,215,337,338,339,340,341,342,343,344,345,346,347,348,349,350,351,352,353,354,355,356,357,358,359,360,361,362]⟩
theorem sgOk (n:Nat):SigOk (sg n):=⟨fun t i h=>ttOk.get t i h,zsu zss,mixed⟩
abbrev k0:=ttOk.get 0 _ rfl
abbrev k3:=ttOk.get 3 _ rfl
abbrev k4:=ttOk.get 4 _ rfl
abbrev k5:=ttOk.get 5 _ rfl
abbrev k9:=ttOk.get 9 _ rfl
abbrev k24:=ttOk.get 24 _ rfl
abbrev k26:=ttOk.get 26 _ rfl
abbrev k27:=ttOk.get 27 _ rfl
abbrev k34:=ttOk.get 34 _ rfl
abbrev k35:=ttOk.get 35 _ rfl
abbrev k37:=ttOk.get 37 _ rfl
abbrev k40:=ttOk.get 40 _ rfl
abbrev k41:=ttOk.get 41 _ rfl
abbrev k47:=ttOk.get 47 _ rfl
abbrev k62:=ttOk.get 62 _ rfl
abbrev k80:=ttOk.get 80 _ rfl
abbrev k86:=ttOk.get 86 _ rfl
abbrev k91:=ttOk.get 91 _ rfl
abbrev k93:=ttOk.get 93 _ rfl
abbrev k106:=ttOk.get 106 _ rfl
abbrev k149:=ttOk.get 149 _ rfl
abbrev k172:=ttOk.get 172 _ rfl
abbrev k176:=ttOk.get 176 _ rfl
abbrev k178:=ttOk.get 178 _ rfl
abbrev k208:=ttOk.get 208 _ rfl
abbrev k246:=ttOk.get 246 _ rfl
abbrev k250:=ttOk.get 250 _ rfl
abbrev k251:=ttOk.get 251 _ rfl
abbrev k259:=ttOk.get 259 _ rfl
abbrev k263:=ttOk.get 263 _ rfl
abbrev k288:=ttOk.get 288 _ rfl
abbrev k295:=ttOk.get 295 _ rfl
abbrev k301:=ttOk.get 301 _ rfl
abbrev k311:=ttOk.get 311 _ rfl
abbrev k316:=ttOk.get 316 _ rfl
abbrev k330:=ttOk.get 330 _ rfl
abbrev k335:=ttOk.get 335 _ rfl
abbrev k338:=ttOk.get 338 _ rfl
abbrev k350:=ttOk.get 350 _ rfl
abbrev k357:=ttOk.get 357 _ rfl
abbrev k390:=ttOk.get 390 _ rfl
abbrev CB (f:FuncId) (args:Array Value) (w:World) (v:Value):Prop:=Calls Tryz.prog f args w fun e w'=>e = .returned v/\Below w.heap.size w w'
theorem cofM (n:Nat) (args:List Value) (m:Mk) {f:FuncId} {fn:Func} {c:Code} {w:World} {R:Ending->World->Prop} (hf:Tryz.prog.funcs[f]?=some fn) (h:wpM (sg n) m c ⟨zfn 0 args,[]⟩ w (zmu (sg n) fn R)) (hb:fn.body=some c:=by rfl) (hn:fn.ntmps=n:=by rfl) (hle:args.length<=n:=by exact Nat.le_of_ble_eq_true rfl):Calls Tryz.prog f args.toArray w R:=zg0 (S:=sg n) (sgOk _) m hf hb hn hle rfl h
theorem cofE (n:Nat) (args:List Value) {f:FuncId} {fn:Func} {c:Code} {w:World} {R:Ending->World->Prop} (hf:Tryz.prog.funcs[f]?=some fn) (h:wpE (sg n) c ⟨zfn 0 args,[]⟩ w (zmu (sg n) fn R)) (hb:fn.body=some c:=by rfl) (hn:fn.ntmps=n:=by rfl) (hle:args.length<=n:=by exact Nat.le_of_ble_eq_true rfl):Calls Tryz.prog f args.toArray w R:=za4 (S:=sg n) (sgOk _) hf hb hn hle rfl h
end Go.Proofs.YtkpkdmipjinoaaaGreatDoor
namespace Go.Sei
open Go.Vc
structure Msg where
 kind:UInt8
 from_:UInt8
 to:UInt8
 line:UInt8
 asker:UInt8
 acks:UInt8
 alone:Bool
 d0:UInt8
 d1:UInt8
 d2:UInt8
 d3:UInt8
 deriving DecidableEq
def Msg.enc (m:Msg):List Value:=[u8 m.kind,u8 m.from_,u8 m.to,u8 m.line,u8 m.asker,u8 m.acks,.bool m.alone,u8 m.d0,u8 m.d1,u8 m.d2,u8 m.d3]
def Msg.val (m:Msg):Value := .agg m.enc.toArray
def intE:Enc Int:=⟨fun n=>[.int .i64 n],1,fun _=>rfl,by decide,fun a u hu=>by
 simp only [List.mem_cons,List.not_mem_nil,or_false] at hu;subst hu;rfl⟩
end Go.Sei
namespace Go.Proofs.YtkpkdmipjinoaaaGreatDoor
open Go.Vc Go.RowKit Go.Sei
def i64 (n:Int):Value := .int .i64 n
theorem zcR {off sz:Nat} {cs:List Value} {v:Value} {K:Value->Prop} (h:cs[off]?=some v) (k:K v):zk8 off sz false cs K:=by
 unfold zk8;rw [h];exact k
end Go.Proofs.YtkpkdmipjinoaaaGreatDoor
namespace Go.Vc
open Go.RowKit
structure MapK (P:Program) (K:TypeId) {κ:Type} [DecidableEq κ] (key:κ->Value):Prop where
 check:∀ q e w,(Instr.checkKey e 10000 K (key q)).run P w = .ok () w
 eq:∀ q q' w,(Op.equal K (key q) (key q')).run P w = .ok (decide (q=q')) w
 same:∀ q,Instr.sameBits 10000 (key q) (key q)=true
 desc:∃ d,P.underlying K=some d/\∀ q q',Instr.sameNow d (key q) (key q')=none\/Instr.sameNow d (key q) (key q')=some (decide (q=q'))
section
variable {P:Program} {K:TypeId} {κ:Type} [DecidableEq κ] {key:κ->Value}
abbrev Ent (κ:Type):=κ×Value×Nat
def entry (key:κ->Value) (e:Ent κ):MapEntry:=⟨key e.1,e.2.1,e.2.2⟩
def zdN (q:κ):List (Ent κ)->Nat->Option (Nat×Value)
 | [],_=>none
 | e::r,i=>if q=e.1 then some (i,e.2.1) else zdN q r (i+1)
theorem zea (hK:MapK P K key) (q:κ):∀ (es:List (Ent κ)) (i:Nat) (w:World),(Instr.findAsking K (key q) (es.map (entry key)) i).run P w = .ok (zdN q es i) w
 | [],_,_=>rfl
 | e::r,i,w=>by
  simp only [List.map_cons,Instr.findAsking,Sem.run_bind,entry,hK.eq q e.1 w,Result.andThen_ok,zdN];by_cases h:q=e.1
  ·simp [h]
  ·simp only [h,decide_false,Bool.false_eq_true,if_false];exact zea hK q r (i+1) w
theorem zgS {d:TypeDesc} {q:κ} (h:∀ q',Instr.sameNow d (key q) (key q')=none\/Instr.sameNow d (key q) (key q')=some (decide (q=q'))):∀ (es:List (Ent κ)) (i:Nat),
  Instr.findNow d (key q) (es.map (entry key)) i=none\/Instr.findNow d (key q) (es.map (entry key)) i=some (zdN q es i)
 | [],_ => .inr rfl
 | e::r,i=>by
  simp only [List.map_cons,Instr.findNow,entry,zdN];rcases h e.1 with h1 | h1
  ·rw [h1];exact .inl rfl
  ·rw [h1];by_cases hq:q=e.1
   ·simp [hq]
   ·simp only [hq,decide_false,if_false];exact zgS h r (i+1)
theorem zgg (hK:MapK P K key) (q:κ) (es:List (Ent κ)) (w:World):(Instr.findKey K (key q) (es.map (entry key))).run P w = .ok (zdN q es 0) w:=by
 obtain⟨d,hd,hs⟩:=hK.desc;simp only [Instr.findKey,Sem.run_bind,run_underlying hd,Result.andThen_ok];rcases zgS (hs q) es 0 with h | h
 ·rw [h];exact zea hK q es 0 w
 ·rw [h];rfl
theorem zgT {q:κ}:∀ {es:List (Ent κ)} {i j:Nat} {v:Value},zdN q es i=some (j,v)->∃ b,i<=j/\es[j-i]?=some (q,v,b)
 | [],_,_,_,h=>by simp [zdN] at h
 | e::r,i,j,v,h=>by
  simp only [zdN] at h
  split at h
  ·rename_i hq;simp only [Option.some.injEq,Prod.mk.injEq] at h;obtain⟨rfl,rfl⟩:=h;exact⟨e.2.2,Nat.le_refl _,by simp [hq]⟩
  ·obtain⟨b,h1,h2⟩:=zgT h;refine⟨b,by omega,?_⟩;have:j-i=(j-(i+1))+1:=by omega
   rw [this];simpa using h2
theorem zgU {q:κ}:∀ {es:List (Ent κ)} {i:Nat},zdN q es i=none->∀ e∈es,e.1≠q
 | [],_,_,e,he=>by simp at he
 | x::r,i,h,e,he=>by
  simp only [zdN] at h
  split at h
  ·cases h
  ·rename_i hq
   cases he with
   | head=>exact fun e=>hq e.symm
   | tail _ he=>exact zgU h e he
def asF (es:List (Ent κ)) (q:κ):Option Value:=(zdN q es 0).map (·.2)
theorem zrb (q:κ):asF ([]:List (Ent κ)) q=none:=rfl
theorem zel (q:κ):∀ (es:List (Ent κ)) (i:Nat),(zdN q es i).map (·.2)=asF es q
 | [],_=>rfl
 | e::r,i=>by
  unfold asF;simp only [zdN]
  split
  ·rfl
  ·rw [zel q r (i+1),zel q r (0+1)]
theorem zeO (e:Ent κ) (r:List (Ent κ)) (q:κ):asF (e::r) q=if q=e.1 then some e.2.1 else asF r q:=by
 unfold asF;simp only [zdN]
 split
 ·rfl
 ·rw [zel];rfl
theorem zg1 (e:Ent κ) (q:κ):∀ (es:List (Ent κ)),asF (es++[e]) q=(asF es q).or (if q=e.1 then some e.2.1 else none)
 | []=>by rw [List.nil_append,zeO,zrb];simp
 | x::r=>by
  rw [List.cons_append,zeO,zeO,zg1 e q r]
  split <;> simp
def MapF (key:κ->Value) (w:World) (r:Nat) (f:κ->Option Value):Prop :=
 ∃ (es:List (Ent κ)) (clock:Nat),w.heap[r]?=some (.map (es.map (entry key)).toArray clock)/\(∀ q,asF es q=f q)/\(es.map (·.1)).Nodup/\(es.map (·.2.2)).Nodup/\(∀ e∈es,e.2.2<clock)
def MapS (key:κ->Value) (w:World) (r:Nat) (f:κ->Option Value) (q:κ) (born:Nat):Prop :=
 ∃ (es:List (Ent κ)) (clock:Nat),w.heap[r]?=some (.map (es.map (entry key)).toArray clock)/\(∀ q,asF es q=f q)/\(es.map (·.1)).Nodup/\(es.map (·.2.2)).Nodup/\(∀ e∈es,e.2.2<clock)/\∃ v,(q,v,born)∈es
theorem MapS.map {w:World} {r:Nat} {f:κ->Option Value} {q:κ} {born:Nat} (h:MapS key w r f q born):MapF key w r f:=by
 obtain⟨es,clock,h1,h2,h3,h4,h5,_⟩:=h;exact⟨es,clock,h1,h2,h3,h4,h5⟩
theorem MapF.below {w w2:World} {r:Nat} {f:κ->Option Value} (h:MapF key w r f) (hb:Bw w w2):MapF key w2 r f:=by
 obtain⟨es,clock,hh,rest⟩:=h;exact⟨es,clock,zab hb hh,rest⟩
theorem MapF.same {w w2:World} {r:Nat} {f:κ->Option Value} (h:MapF key w r f) (hb:w2.heap[r]?=w.heap[r]?):MapF key w2 r f:=by
 obtain⟨es,clock,hh,rest⟩:=h;exact⟨es,clock,hb.trans hh,rest⟩
theorem MapF.new {w:World}:MapF key (w.alloc (.map #[] 0)) w.heap.size (fun (_:κ)=>none) :=
 ⟨[],0,hnew w _,fun _=>rfl,by simp,by simp,by simp⟩
theorem zgM {T elem:TypeId} (hK:MapK P K key) (hu:P.underlying T=some (.map K elem)) {z:Value} (hz:∀ w,(zeroValue elem).run P w = .ok z w) {w:World} {r:Nat} {f:κ->Option Value} (h:MapF key w r f) (q:κ) (ok:Bool) :
  (Instr.lookup T (.map (some r)) (key q) ok).run P w = .ok (if ok then .tuple #[(f q).getD z,.bool (f q).isSome] else (f q).getD z) w:=by
 obtain⟨es,clock,hh,hf,_⟩:=h;have hg:(getObj r).run P w = .ok (.map (es.map (entry key)).toArray clock) w:=by simp [getObj,Sem.run,hh]
 have e:asF es q=f q:=hf q;unfold asF at e;simp only [Instr.lookup,Sem.run_bind,run_underlying hu,Result.andThen_ok,hg,Sem.run_pure,hK.check q _ w,zgg hK q es w]
 cases hfl:zdN q es 0 with
 | none =>
  rw [hfl] at e;simp only [Option.map_none] at e;simp only [Sem.run_bind,hz w,Result.andThen_ok,Sem.run_pure,<- e,Option.getD_none,Option.isSome_none]
  first | done | (cases ok <;> rfl)
 | some p =>
  obtain⟨j,v⟩:=p;rw [hfl] at e;simp only [Option.map_some] at e;simp only [<- e,Option.getD_some,Option.isSome_some]
  cases ok <;> rfl
theorem zcU {w:World} {r:Nat} {o o':Obj} (h:w.heap[r]?=some o):(w.putObj r o').heap[r]?=some o':=by
 have:r<w.heap.size:=hlt h;simp [World.putObj,this]
theorem zah {w:World} {r k:Nat} {o:Obj} (h:k≠r):(w.putObj r o).heap[k]?=w.heap[k]?:=by
 have:¬ r=k:=fun e=>h e.symm;simp [World.putObj,this]
theorem zbl {B:Nat} {a w:World} (h:Below B a w) {r:Nat} (hr:B<=r) (o:Obj):Below B a (w.putObj r o) :=
 h.trans ⟨rfl,rfl,rfl,by simp [World.putObj],fun k hk=>zah (by omega)⟩
theorem zeG (w:World) (r:Nat) (o:Obj):w.grownBy (w.putObj r o) (some r) :=
 ⟨rfl,rfl,rfl,by simp [World.putObj],fun k _ hne=>zah (fun e=>hne (by rw [e]))⟩
theorem znH {born:Nat} (x:Value) (q:κ) (q':κ):∀ (es:List (Ent κ)),(es.map (·.1)).Nodup->(∃ v,(q,v,born)∈es)->(∀ e∈es,e.2.2=born->e.1=q) ->
  asF (es.map fun e=>if e.2.2=born then (e.1,x,e.2.2) else e) q'=if q'=q then some x else asF es q'
 | [],_,⟨v,h⟩,_=>by simp at h
 | e::r,hn,⟨v,hm⟩,hb=>by
  rw [List.map_cons,List.nodup_cons] at hn;rw [List.map_cons,zeO,zeO];by_cases he:e.2.2=born
  ·have hq:e.1=q:=hb e List.mem_cons_self he;simp only [he,if_true];rw [hq];by_cases hqq:q'=q
   ·simp [hqq]
   ·simp only [hqq,if_false];have hrest:∀ (l:List (Ent κ)),(∀ e∈l,e.2.2=born->e.1=q)->q ∉ l.map (·.1)->l.map (fun e=>if e.2.2=born then (e.1,x,e.2.2) else e)=l:=by
     intro l
     induction l with
     | nil=>intros;rfl
     | cons y l ih =>
      intro h1 h2;have hy:¬ y.2.2=born:=fun hy=>h2 (List.mem_map.2 ⟨y,List.mem_cons_self,h1 y List.mem_cons_self hy⟩);rw [List.map_cons,if_neg hy,ih (fun z hz=>h1 z (List.mem_cons_of_mem _ hz)) (fun hz=>h2 (by rw [List.map_cons];exact List.mem_cons_of_mem _ hz))]
    rw [hrest r (fun z hz=>hb z (List.mem_cons_of_mem _ hz)) (by rw [<- hq];exact hn.1)]
  ·have hm':(q,v,born)∈r:=by
    cases hm with
    | head=>exact absurd rfl he
    | tail _ h=>exact h
   simp only [he,if_false];have hqe:q≠e.1:=fun hq=>hn.1 (List.mem_map.2 ⟨_,hm',hq⟩);rw [znH x q q' r hn.2 ⟨v,hm'⟩ (fun z hz=>hb z (List.mem_cons_of_mem _ hz))];by_cases hqq:q'=q
   ·subst hqq;simp [hqe]
   ·simp [hqq]
end
structure Step (n0 : Nat) (Fp : World → Nat → Prop) (A B : World) : Prop where
  os : B.os = A.os
  tape : B.tape = A.tape
  output : B.output = A.output
  size : A.heap.size ≤ B.heap.size
  same : ∀ k, k < A.heap.size → (k < n0 ∨ Fp A k) → B.heap[k]? = A.heap[k]?
structure Keeps (Fp : World → Nat → Prop) (A B : World) : Prop where
  os : B.os = A.os
  tape : B.tape = A.tape
  output : B.output = A.output
  size : A.heap.size ≤ B.heap.size
  same : ∀ k, k < A.heap.size → ¬ Fp A k → B.heap[k]? = A.heap[k]?
  fp : ∀ k, Fp B k → Fp A k ∨ A.heap.size ≤ k
structure IterJ {σ : Type} (n0 : Nat) (Fp : World → Nat → Prop) (J : σ → World → Prop) : Prop where
  step : ∀ s A B, J s A → Step n0 Fp A B → J s B ∧ ∀ k, Fp B k → Fp A k
  lt : ∀ s A k, J s A → Fp A k → k < A.heap.size
theorem Step.mono {n0 n1 : Nat} {Fp : World → Nat → Prop} {A B : World} (h : Step n0 Fp A B) (hn : n1 ≤ n0) : Step n1 Fp A B :=
  ⟨h.os, h.tape, h.output, h.size, fun k hk hf => h.same k hk (hf.imp (fun h => Nat.lt_of_lt_of_le h hn) id)⟩
theorem IterJ.mono {σ : Type} {n0 n1 : Nat} {Fp : World → Nat → Prop} {J : σ → World → Prop} (h : IterJ n0 Fp J) (hn : n0 ≤ n1) : IterJ n1 Fp J :=
  ⟨fun s A B hj hs => h.step s A B hj (hs.mono hn), h.lt⟩
theorem Step.of_below {n0 : Nat} {Fp : World → Nat → Prop} {A B : World} (h : Below A.heap.size A B) : Step n0 Fp A B :=
  ⟨h.os, h.tape, h.output, h.size, fun k hk _ => h.block k hk⟩
theorem Step.alloc {n0 : Nat} {Fp : World → Nat → Prop} (A : World) (o : Obj) : Step n0 Fp A (A.alloc o) := .of_below ((Below.refl _ A).alloc (Nat.le_refl _) o)
theorem Step.drew {n0 : Nat} {Fp : World → Nat → Prop} (A : World) : Step n0 Fp A A.drew := .of_below (Below.refl _ A).drew
theorem Step.put {n0 : Nat} {Fp : World → Nat → Prop} {A : World} {l : Nat} (h : n0 ≤ l) (hf : ¬ Fp A l) (o : Obj) : Step n0 Fp A (A.putObj l o) :=
  ⟨rfl, rfl, rfl, by simp [World.putObj], fun k _ hk => zah (fun e => by subst e; rcases hk with hk | hk; omega; exact hf hk)⟩
theorem Step.row {n0 : Nat} {Fp : World → Nat → Prop} {A : World} {l : Nat} (h : n0 ≤ l) (hf : ¬ Fp A l) (cs : Array Value) : Step n0 Fp A (A.setRow l cs) :=
  ⟨rfl, rfl, rfl, by simp, fun k _ hk => zap (fun e => by subst e; rcases hk with hk | hk; omega; exact hf hk)⟩
theorem YieldR.mono {P : Program} {l : Nat} {args : Array Value} {w : World} {K K' : Value → World → Prop} (h : YieldR P l args w K) (hk : ∀ v w, K v w → K' v w) : YieldR P l args w K' := by
  obtain ⟨fn, tmps, assign, body, hy, hR⟩ := h
  exact ⟨fn, tmps, assign, body, hy, hR.mono fun e w' he => by cases e <;> first | exact hk _ _ he | exact he⟩
def setL : List Nat → List Value → VEnv → VEnv
  | p :: ps, v :: vs, E => setL ps vs ((p, v) :: E)
  | _, _, E => E
theorem zdd {S : Sig} : ∀ (ps : List Nat) (vs : List Value) (a : Act) (E : Env), Agrees S a E → (∀ p ∈ ps, p < S.n) →
    Agrees S { a with tmps := (ps.zip vs).foldl (fun t (p, v) => t.setIfInBounds p v) a.tmps } ⟨setL ps vs E.vs, E.ds⟩
  | [], vs, a, E, h, _ => by simpa [setL] using h
  | p :: ps, [], a, E, h, _ => by simpa [setL] using h
  | p :: ps, v :: vs, a, E, h, hp => by
    have h1 := h.put (dst := some p) (by simpa [zou] using hp p List.mem_cons_self) v
    have h2 := zdd ps vs (a.put (some p) v) (setE (some p) v E) h1 (fun q hq => hp q (List.mem_cons_of_mem _ hq))
    simpa [setL, setE, Act.put] using h2
def sr (S : Sig) (l : Nat) : Sig := { S with r := some l }
theorem zkS {S : Sig} (h : SigOk S) (l : Nat) : SigOk (sr S l) := ⟨h.ty, h.call, h.mixed⟩
def ztI {α : Type} (Fp : World → Nat → Prop) (J : List α → World → Prop) (Jx : Exit → List α → World → Prop) (xs : List α) (A : World) : Exit → Env → World → Prop
  | .normal, _, B => J xs B ∧ Keeps Fp A B
  | .ret, _, B => Jx .ret xs B ∧ Keeps Fp A B
  | .exit id, _, B => Jx (.exit id) xs B ∧ Keeps Fp A B
  | _, _, _ => False
theorem Keeps.trans {Fp : World → Nat → Prop} {A B C : World} (h : Keeps Fp A B) (k : Keeps Fp B C) : Keeps Fp A C :=
  ⟨k.os.trans h.os, k.tape.trans h.tape, k.output.trans h.output, Nat.le_trans h.size k.size,
   fun i hi hf => (k.same i (Nat.lt_of_lt_of_le hi h.size) (fun hb => by rcases h.fp i hb with h1 | h1; exact hf h1; omega)).trans (h.same i hi hf),
   fun i hi => by
     rcases k.fp i hi with h1 | h1
     · exact h.fp i h1
     · exact .inr (Nat.le_trans h.size h1)⟩
theorem Keeps.refl (Fp : World → Nat → Prop) (A : World) : Keeps Fp A A := ⟨rfl, rfl, rfl, Nat.le_refl _, fun _ _ _ => rfl, fun _ h => .inl h⟩
theorem Keeps.of_below {Fp : World → Nat → Prop} {A B : World} (h : Below A.heap.size A B) (hf : ∀ k, Fp B k → Fp A k ∨ A.heap.size ≤ k) : Keeps Fp A B :=
  ⟨h.os, h.tape, h.output, h.size, fun k hk _ => h.block k hk, hf⟩
theorem zal {P : Program} {X : World} {T : TypeId} {iT : TI} (hT : TIok P T iT) {cs : Array Value} {t : TypeId} {v : Value} (hv : v.cells.size = iT.size) (hc : cs.size = iT.size)
    (h0 : v.cells.toList.all Value.oneCell' = true) {K : World → Prop}
    (k : ∀ Y, Below X.heap.size X Y → Y.heap[X.heap.size]? = some (.cells v.cells t (0, 0)) → Y.heap.size = X.heap.size + 1 → K Y) :
    SatR ((storeVar T ⟨X.heap.size, 0, none⟩ v).run P (X.alloc (.cells cs t))) fun _ w' => K w' :=
  zas hT (hnew X _) hv hc h0 (k _ (zaj ((Below.refl _ X).alloc (Nat.le_refl _) _) (Nat.le_refl _) _) (zan (hnew X _)) (by simp))
structure StepO (n0 : Nat) (Ow : Nat → Prop) (Fp : World → Nat → Prop) (A B : World) : Prop where
  os : B.os = A.os
  tape : B.tape = A.tape
  output : B.output = A.output
  size : A.heap.size ≤ B.heap.size
  same : ∀ k, k < A.heap.size → ((k < n0 ∧ ¬ Ow k) ∨ Fp A k) → B.heap[k]? = A.heap[k]?
theorem Step.o {n0 : Nat} {Ow : Nat → Prop} {Fp : World → Nat → Prop} {A B : World} (h : Step n0 Fp A B) : StepO n0 Ow Fp A B :=
  ⟨h.os, h.tape, h.output, h.size, fun k hk hf => h.same k hk (hf.imp (fun h => h.1) id)⟩
theorem StepO.mono {n0 n1 : Nat} {Ow : Nat → Prop} {Fp : World → Nat → Prop} {A B : World} (h : StepO n0 Ow Fp A B) (hn : n1 ≤ n0) : StepO n1 Ow Fp A B :=
  ⟨h.os, h.tape, h.output, h.size, fun k hk hf => h.same k hk (hf.imp (fun h => ⟨Nat.lt_of_lt_of_le h.1 hn, h.2⟩) id)⟩
structure IterJO {σ : Type} (n0 : Nat) (Ow : Nat → Prop) (Fp : World → Nat → Prop) (J : σ → World → Prop) : Prop where
  step : ∀ s A B, J s A → StepO n0 Ow Fp A B → J s B ∧ ∀ k, Fp B k → Fp A k
  lt : ∀ s A k, J s A → Fp A k → k < A.heap.size ∧ ¬ Ow k
theorem IterJO.mono {σ : Type} {n0 n1 : Nat} {Ow : Nat → Prop} {Fp : World → Nat → Prop} {J : σ → World → Prop} (h : IterJO n0 Ow Fp J) (hn : n0 ≤ n1) : IterJO n1 Ow Fp J :=
  ⟨fun s A B hj hs => h.step s A B hj (hs.mono hn), h.lt⟩
def zsJ {α : Type} (P : Program) (g : Nat) (lb : List Value) (xs : List α) (W0 : World) (Rd Ow : Nat → Prop) (St : List α → List Value → World → Prop) : Prop :=
  ∀ (l : Nat) (Fp : World → Nat → Prop) (J Jx : List α → World → Prop) (W : World), W0.heap.size ≤ W.heap.size → (∀ k, Rd k ∨ Ow k → W.heap[k]? = W0.heap[k]?) → (∀ k, Rd k → ¬ Fp W k) →
    IterJO W.heap.size Ow Fp J → IterJO W.heap.size Ow Fp Jx →
    (∀ pre x vs W1, J pre W1 → St (pre ++ [x]) vs W1 → (pre ++ [x]) <+: xs → YieldR P l vs.toArray W1 fun v W2 =>
      (v = .bool true ∧ J (pre ++ [x]) W2 ∧ Keeps Fp W1 W2) ∨ (v = .bool false ∧ Jx (pre ++ [x]) W2)) →
    J [] W →
    Calls P g (.func (.yield l) #[] #[] :: lb).toArray W fun e W' => (∃ v, e = .returned v) ∧ (J xs W' ∨ ∃ pre, pre <+: xs ∧ Jx pre W')
theorem zrD {α : Type} {S : Sig} (hS : SigOk S) (hr : S.r = none) {f : Operand} {ps : Array Tmp} {assign body : Code} {E : Env} {w : World} {Q : Exit → Env → World → Prop}
    {gf : Nat} {lb : Array Value} (hg : opd E f = some (.func (.func gf) #[] lb)) (hok : zbQ S gf = true)
    {xs : List α} {W0 : World} {Rd Ow : Nat → Prop} {St : List α → List Value → World → Prop} (hI : zsJ S.P gf lb.toList xs W0 Rd Ow St) (hW0 : W0.heap.size ≤ w.heap.size) (hRd : ∀ k, Rd k ∨ Ow k → k < W0.heap.size ∧ w.heap[k]? = W0.heap[k]?)
    (hps : ∀ pre vs W, St pre vs W → vs.length = ps.size) (hpn : ∀ p ∈ ps.toList, p < S.n)
    (Fp : World → Nat → Prop) (J : List α → World → Prop) (Jx : Exit → List α → World → Prop) (hRF : ∀ k, Rd k → ¬ Fp w k)
    (hJ : IterJO w.heap.size Ow Fp J) (hJx : ∀ ex, IterJO w.heap.size Ow Fp (Jx ex)) (h0 : J [] w)
    (hround : ∀ (l : Nat) (pre : List α) (x : α) (vs : List Value) (W : World), w.heap.size ≤ l → (pre ++ [x]) <+: xs → J pre W → St (pre ++ [x]) vs W → ¬ Fp W l → l < W.heap.size →
      wpE (sr S l) assign ⟨setL ps.toList vs E.vs, []⟩ W fun ex E1 W1 => ex = .normal ∧ Keeps Fp W W1 ∧ J pre W1 ∧
        ∀ o W2, W2 = W1.putObj l o → J pre W2 → (∀ k, Fp W2 k → Fp W1 k) → wpE (sr S l) body E1 W2 (ztI Fp J Jx (pre ++ [x]) W2))
    (hdone : ∀ D W, w.heap.size ≤ D → ¬ Fp W D → J xs W → W.heap[D]? = some (.deferred (some [])) → Q .normal ⟨E.vs, { target := .collected D, args := #[] } :: E.ds⟩ W)
    (hstop : ∀ D ex pre W, w.heap.size ≤ D → ¬ Fp W D → pre <+: xs → Jx ex pre W → W.heap[D]? = some (.deferred (some [])) → Q ex ⟨E.vs, { target := .collected D, args := #[] } :: E.ds⟩ W) :
    zkK S f ps assign body E w Q := by
  intro a ha
  have hcall : ∀ args w, (callFunc gf args).run S.P w = .ok (.enter gf args) w := by
    simp only [zbQ, Bool.and_eq_true, Nat.ble_eq, Nat.blt_eq] at hok
    exact fun args w => hS.call gf hok.1.1 hok.1.2 hok.2 args w
  refine wpIn_rangeFunc ?_
  intro fn hfn
  have hro : (FR S.r).round = none := hr
  rw [hro]
  obtain ⟨rec, hrec⟩ : ∃ rec : LoopState → Option Code → Loop, rec = fun st pe => { state := st, pending := pe, fn, tmps := a.tmps, params := ps, assign, body, defers := w.heap.size } := ⟨_, rfl⟩
  obtain ⟨W1, hW1⟩ : ∃ W1, (w.alloc (.deferred (some []))).alloc (.loop (rec .ready none)) = W1 := ⟨_, rfl⟩
  have hK0 := hnew w (.deferred (some []))
  have hK1 : W1.heap[w.heap.size]? = some (.deferred (some [])) := by rw [← hW1]; exact hold _ hK0
  have hL1 : W1.heap[w.heap.size + 1]? = some (.loop (rec .ready none)) := by
    rw [← hW1]; have := hnew (w.alloc (.deferred (some []))) (.loop (rec .ready none)); rwa [World.size_alloc] at this
  have hs1 : W1.heap.size = w.heap.size + 2 := by rw [← hW1]; simp
  have hst1 : Step w.heap.size Fp w W1 := by
    rw [← hW1]; exact .of_below (((Below.refl _ w).alloc (Nat.le_refl _) _).alloc (by simp) _)
  obtain ⟨hJ1, hF1⟩ := hJ.step _ _ _ h0 hst1.o
  have hOl : ∀ k, w.heap.size ≤ k → ¬ Ow k := fun k hk ho => by have := (hRd k (.inr ho)).1; omega
  have hFl : ∀ k, Fp W1 k → k < w.heap.size := fun k hk => (hJ.lt _ _ k h0 (hF1 k hk)).1
  refine ⟨w.heap.size + 1, [{ target := .collected w.heap.size, args := #[] }], W1, { target := .fn (.func gf) lb, args := #[.func (.yield (w.heap.size + 1)) #[] #[]] }, W1, gf,
    #[.func (.yield (w.heap.size + 1)) #[] #[]] ++ lb, W1, ?_, ?_, fun _ _ => trivial, ?_, fun h => by simp [FR] at h, ?_⟩
  · rw [← hW1, hrec]; exact run_enterLoop_outer _ _ _ _ _
  · have hg' := ha.eval hg
    simp only [resolve, hg']
    simp [go_sem]
  · simp [invoke, go_sem, hcall]
  · have hargs : #[Value.func (.yield (w.heap.size + 1)) #[] #[]] ++ lb = (Value.func (.yield (w.heap.size + 1)) #[] #[] :: lb.toList).toArray := by rw [← Array.toList_inj]; simp
    rw [hargs]
    have book : ∀ {σ : Type} {K : σ → World → Prop} (lo : Loop), IterJO w.heap.size Ow Fp K → IterJO W1.heap.size Ow Fp (fun s W => K s W ∧ W.heap[w.heap.size + 1]? = some (.loop lo) ∧ W.heap[w.heap.size]? = some (.deferred (some [])) ∧ ¬ Fp W (w.heap.size + 1) ∧ ¬ Fp W w.heap.size) := by
      intro σ K lo hK
      refine ⟨fun s A B ⟨hk, hl, hd, hf1, hf2⟩ hs => ?_, fun s A k ⟨hk, _⟩ hf => hK.lt s A k hk hf⟩
      obtain ⟨h1, h2⟩ := hK.step s A B hk (hs.mono (by omega))
      exact ⟨⟨h1, (hs.same _ (hlt hl) (.inl ⟨by omega, hOl _ (by omega)⟩)).trans hl, (hs.same _ (hlt hd) (.inl ⟨by omega, hOl _ (by omega)⟩)).trans hd, fun h => hf1 (h2 _ h), fun h => hf2 (h2 _ h)⟩, h2⟩
    have hcalls := hI (w.heap.size + 1) Fp (fun pre W => J pre W ∧ W.heap[w.heap.size + 1]? = some (.loop (rec .ready none)) ∧ W.heap[w.heap.size]? = some (.deferred (some [])) ∧ ¬ Fp W (w.heap.size + 1) ∧ ¬ Fp W w.heap.size)
      (fun pre W => ∃ ex c, ((ex = .ret ∧ c = .ret) ∨ ∃ id, ex = .exit id ∧ c = .exit id) ∧ Jx ex pre W ∧ W.heap[w.heap.size + 1]? = some (.loop (rec .done (some c))) ∧ W.heap[w.heap.size]? = some (.deferred (some [])) ∧ ¬ Fp W (w.heap.size + 1) ∧ ¬ Fp W w.heap.size)
      W1 (by omega) (fun k hk => by
        obtain ⟨h1, h2⟩ := hRd k hk
        rw [← h2]
        exact hst1.same k (by omega) (.inl (by omega))) (fun k hk hf => hRF k hk (hF1 k hf)) (book _ hJ)
      ⟨fun s A B ⟨ex, c, hc, hrest⟩ hs => by
        have := (book (rec .done (some c)) (hJx ex)).step s A B hrest hs
        exact ⟨⟨ex, c, hc, this.1⟩, this.2⟩,
       fun s A k ⟨ex, c, hc, hrest⟩ hf => (hJx ex).lt s A k hrest.1 hf⟩ ?_ ⟨hJ1, hL1, hK1, fun h => by have := hFl _ h; omega, fun h => by have := hFl _ h; omega⟩
    · refine zdZ (hcalls.mono ?_)
      rintro e W2 ⟨⟨v, rfl⟩, (⟨hj, hl, hk, hf1, hf2⟩ | ⟨pre, hpre, ex, c, hc, hj, hl, hk, hf1, hf2⟩)⟩
      · have hst : Step w.heap.size Fp W2 (W2.putObj (w.heap.size + 1) (.loop (rec .exhausted none))) := .put (by omega) hf1 _
        obtain ⟨hj2, hfp2⟩ := hJ.step _ _ _ hj hst.o
        refine ⟨none, _, by have := run_endLoop (P := S.P) hl (by rw [hrec]; simp); rw [hrec] at this; exact this, ?_⟩
        rw [hrec] at hj2 hfp2
        exact ⟨⟨E.vs, { target := .collected w.heap.size, args := #[] } :: E.ds⟩, ⟨ha.size, by simp [ha.defers], ha.val⟩, hdone w.heap.size _ (Nat.le_refl _) (fun h => hf2 (hfp2 _ h)) hj2 ((zah (by omega)).trans hk)⟩
      · have hst : Step w.heap.size Fp W2 (W2.putObj (w.heap.size + 1) (.loop (rec .exhausted (some c)))) := .put (by omega) hf1 _
        obtain ⟨hj2, hfp2⟩ := (hJx ex).step _ _ _ hj hst.o
        refine ⟨some c, _, by have := run_endLoop (P := S.P) hl (by rw [hrec]; simp); rw [hrec] at this; exact this, ?_⟩
        rw [hrec] at hj2 hfp2
        have hq := hstop w.heap.size ex pre _ (Nat.le_refl _) (fun h => hf2 (hfp2 _ h)) hpre hj2 ((zah (by omega)).trans hk)
        rcases hc with ⟨rfl, rfl⟩ | ⟨id, rfl, rfl⟩
        · exact wpIn_ret ⟨⟨E.vs, { target := .collected w.heap.size, args := #[] } :: E.ds⟩, ⟨ha.size, by simp [ha.defers], ha.val⟩, hq⟩
        · exact wpIn_exit ⟨⟨E.vs, { target := .collected w.heap.size, args := #[] } :: E.ds⟩, ⟨ha.size, by simp [ha.defers], ha.val⟩, hq⟩
    ·
      rintro pre x vs W ⟨hj, hl, hk, hf1, hf2⟩ hst0 hpre
      have hy := run_yield (P := S.P) (args := vs.toArray) hl (by rw [hrec]; simpa using hps _ _ _ hst0)
      rw [hrec] at hy
      refine ⟨fn, _, assign, body, hy, zdi (r := none) (n := NN) (roundIn_of_wpIn (F := FR none) trivial ?_)⟩
      have hag : Agrees (sr S (w.heap.size + 1)) { tmps := (ps.zip vs.toArray).foldl (fun t (p, v) => t.setIfInBounds p v) a.tmps, defers := [] } ⟨setL ps.toList vs E.vs, []⟩ := by
        have h1 : Agrees (sr S (w.heap.size + 1)) { a with defers := [] } ⟨E.vs, []⟩ := ⟨ha.size, rfl, ha.val⟩
        have h2 := zdd ps.toList vs _ _ h1 hpn
        have e : (ps.zip vs.toArray).foldl (fun t (p, v) => t.setIfInBounds p v) a.tmps = (ps.toList.zip vs).foldl (fun t (p, v) => t.setIfInBounds p v) a.tmps := by
          rw [← Array.foldl_toList]; simp
        rw [e]; exact h2
      have hw := za5 (zkS hS _) assign _ _ W _ hag (hround (w.heap.size + 1) pre x vs W (by omega) hpre hj hst0 hf1 (hlt hl))
      refine wpIn_mono hw ?_
      rintro ex a1 Wa ⟨E1, hag1, rfl, hk1, hj1, hbody⟩
      have hla := (hk1.same _ (hlt hl) hf1).trans hl
      have hka := (hk1.same _ (hlt hk) hf2).trans hk
      have hfa1 : ¬ Fp Wa (w.heap.size + 1) := fun h => by rcases hk1.fp _ h with h | h; exact hf1 h; have := hlt hl; omega
      have hfa2 : ¬ Fp Wa w.heap.size := fun h => by rcases hk1.fp _ h with h | h; exact hf2 h; have := hlt hk; omega
      refine ⟨_, run_beginRound hla (by rw [hrec]), ?_⟩
      have hst : Step w.heap.size Fp Wa (Wa.putObj (w.heap.size + 1) (.loop { rec .ready none with state := .busy })) := .put (by omega) hfa1 _
      obtain ⟨hj2, hfp2⟩ := hJ.step _ _ _ hj1 hst.o
      have hw2 := za5 (zkS hS _) body _ _ _ _ hag1 (hbody _ _ rfl hj2 hfp2)
      refine wpIn_mono hw2 ?_
      have hl2 : (Wa.putObj (w.heap.size + 1) (.loop { rec .ready none with state := .busy })).heap[w.heap.size + 1]? = some (.loop { rec .ready none with state := .busy }) := zcU hla
      have hk2 : (Wa.putObj (w.heap.size + 1) (.loop { rec .ready none with state := .busy })).heap[w.heap.size]? = some (.deferred (some [])) := (zah (by omega)).trans hka
      have hfb1 : ¬ Fp (Wa.putObj (w.heap.size + 1) (.loop { rec .ready none with state := .busy })) (w.heap.size + 1) := fun h => hfa1 (hfp2 _ h)
      have hfb2 : ¬ Fp (Wa.putObj (w.heap.size + 1) (.loop { rec .ready none with state := .busy })) w.heap.size := fun h => hfa2 (hfp2 _ h)
      have fin : ∀ (jump : Option Code) (W3 : World), Keeps Fp (Wa.putObj (w.heap.size + 1) (.loop { rec .ready none with state := .busy })) W3 →
          (Instr.endRound (w.heap.size + 1) jump).run S.P W3 = .ok (.bool jump.isNone) (W3.putObj (w.heap.size + 1) (.loop (rec (if jump.isNone then .ready else .done) jump))) ∧
          (W3.putObj (w.heap.size + 1) (.loop (rec (if jump.isNone then .ready else .done) jump))).heap[w.heap.size + 1]? = some (.loop (rec (if jump.isNone then .ready else .done) jump)) ∧
          (W3.putObj (w.heap.size + 1) (.loop (rec (if jump.isNone then .ready else .done) jump))).heap[w.heap.size]? = some (.deferred (some [])) ∧
          Step w.heap.size Fp W3 (W3.putObj (w.heap.size + 1) (.loop (rec (if jump.isNone then .ready else .done) jump))) ∧ ¬ Fp W3 (w.heap.size + 1) ∧ ¬ Fp W3 w.heap.size := fun jump W3 hk3 => by
        have hl3 := (hk3.same _ (hlt hl2) hfb1).trans hl2
        have hd3 := (hk3.same _ (hlt hk2) hfb2).trans hk2
        have hf31 : ¬ Fp W3 (w.heap.size + 1) := fun h => by rcases hk3.fp _ h with h | h; exact hfb1 h; have := hlt hl2; omega
        have hf32 : ¬ Fp W3 w.heap.size := fun h => by rcases hk3.fp _ h with h | h; exact hfb2 h; have := hlt hk2; omega
        have := run_endRound (P := S.P) jump hl3
        rw [hrec] at this ⊢
        exact ⟨this, zcU hl3, (zah (by omega)).trans hd3, .put (by omega) hf31 _, hf31, hf32⟩
      rintro e a3 W3 ⟨E3, _, hq⟩
      cases e with
      | normal =>
        obtain ⟨hj3, hk3⟩ := hq
        obtain ⟨hr3, hl4, hk4, hs3, hf31, hf32⟩ := fin none W3 hk3
        obtain ⟨hj4, hfp4⟩ := hJ.step _ _ _ hj3 hs3.o
        refine ⟨_, _, hr3, .inl ⟨rfl, ⟨hj4, hl4, hk4, fun h => hf31 (hfp4 _ h), fun h => hf32 (hfp4 _ h)⟩, ?_⟩⟩
        refine ⟨hs3.os.trans (hk3.os.trans hk1.os), hs3.tape.trans (hk3.tape.trans hk1.tape), hs3.output.trans (hk3.output.trans hk1.output), ?_, fun k hk5 hf5 => ?_, fun k hk5 => ?_⟩
        · have h1 := hk1.size; have h2 := hst.size; have h3 := hk3.size; have h4 := hs3.size; omega
        · by_cases hkl : k = w.heap.size + 1
          · subst hkl; rw [hl4, hl]; rfl
          · have h1 : ¬ Fp Wa k := fun h => by rcases hk1.fp _ h with h | h; exact hf5 h; omega
            have h2 := hk1.size; have h3 := hst.size
            rw [zah hkl, hk3.same k (by omega) (fun h => h1 (hfp2 _ h)), zah hkl]
            exact hk1.same k hk5 hf5
        · have h1 := hfp4 _ hk5
          rcases hk3.fp _ h1 with h2 | h2
          · exact hk1.fp _ (hfp2 _ h2)
          · have h3 := hk1.size; have h4 := hst.size; exact .inr (by omega)
      | ret =>
        obtain ⟨hj3, hk3⟩ := hq
        obtain ⟨hr3, hl4, hk4, hs3, hf31, hf32⟩ := fin (some .ret) W3 hk3
        obtain ⟨hj4, hfp4⟩ := (hJx .ret).step _ _ _ hj3 hs3.o
        exact ⟨_, _, hr3, .inr ⟨rfl, .ret, .ret, .inl ⟨rfl, rfl⟩, hj4, hl4, hk4, fun h => hf31 (hfp4 _ h), fun h => hf32 (hfp4 _ h)⟩⟩
      | exit id =>
        obtain ⟨hj3, hk3⟩ := hq
        obtain ⟨hr3, hl4, hk4, hs3, hf31, hf32⟩ := fin (some (.exit id)) W3 hk3
        obtain ⟨hj4, hfp4⟩ := (hJx (.exit id)).step _ _ _ hj3 hs3.o
        exact ⟨_, _, hr3, .inr ⟨rfl, .exit id, .exit id, .inr ⟨id, rfl, rfl⟩, hj4, hl4, hk4, fun h => hf31 (hfp4 _ h), fun h => hf32 (hfp4 _ h)⟩⟩
      | goto t => exact hq.elim
      | panic ch => exact hq.elim
      | outgrown => exact hq.elim
end Go.Vc
namespace Go.Vc
open Go.RowKit Go.Lib
theorem znJ (b o i:Nat):(⟨b,o,none⟩:Addr).add i=⟨b,o+i,none⟩:=by
 unfold Addr.add;by_cases h:i=0
 ·simp [h]
 ·simp [h]
theorem zdP (p:Option Addr) (cap sz:Nat):zbq p cap 0 sz=p:=by
 unfold zbq
 split
 ·rfl
 ·cases p with
  | none=>rfl
  | some a=>simp [Addr.add]
section
variable {α:Type} {E:Enc α} {w:World} {p:Option Addr} {l:List α}
theorem SlR.sub (h:SlR E w p l) {cap lo hi:Nat} (h1:lo<=hi) (h2:hi<=l.length) (h3:l.length<=cap):SlR E w (zbq p cap lo E.sz) ((l.drop lo).take (hi-lo)):=by
 by_cases he:hi=lo
 ·left;subst he;simp
 ·rcases h with rfl | ⟨b,o,rfl,hb,hc⟩
  ·left;simp
  ·right;refine⟨b,o+lo*E.sz,?_,hb,fun i hi2=>?_⟩
   ·unfold zbq;rw [if_neg (by omega)];simp [znJ]
   ·simp only [List.length_take,List.length_drop] at hi2;have:=hc (lo+i) (by omega);rw [List.getElem_take,List.getElem_drop];rw [Nat.add_assoc,<- Nat.add_mul];exact this
theorem SlR.none (h:SlR E w none l):l=[]:=by
 rcases h with h | ⟨b,o,h,_⟩
 ·exact h
 ·cases h
theorem zhW {P:Program} {t T ty B cap m c:Nat} {a:Option Addr} {news:List α} {iT:TI} {z:List Value} (hu:P.underlying t=some (.slice T)) (hT:TIok P T iT) (hz:iT.zero=some z)
  (hs:iT.size=E.sz) (hzl:z.length=E.sz) (ho:OwnS E T B w p cap l) (hm:news.length=m) (hn:SlR E w a news) (hc:a=none->c=0) (hB:B<=w.heap.size)
  (h1:l.length+m<=9223372036854775807) (h2:(l.length+m)*iT.bytes<=140737488355328) {K:Value->World->Prop}
  (k:∀ p' cap' w',OwnS E T B w' p' cap' (l++news)->w.grownBy w' (Value.slice p l.length cap).ownBlock->Below B w w'->K (.slice p' (l++news).length cap') w') :
  SatR ((Builtin.append_ #[t,t] ty #[.slice p l.length cap,.slice a m c]).run P w) K:=by
 cases a with
 | none =>
  have hn:=hn.none;have hc:=hc rfl;subst hn hc;simp at hm;subst hm;obtain⟨⟨inf,hi,hsz,hby,hzz⟩,_⟩:=hT;refine SatR.mk (run_append_owned_none (P:=P) (w:=w) B t ty T inf E.sz hu hi _ _ _ ho) ?_;have:=k p cap w (by rw [List.append_nil];exact ho) ⟨rfl,rfl,rfl,Nat.le_refl _,fun _ _ _=>rfl⟩ (Below.refl _ _)
  rwa [List.append_nil] at this
 | some a =>
  by_cases h0:news=[]
  ·subst h0;simp at hm;subst hm;exact zbA hu hT hz hs hzl ho (by simp) (fun i v hv=>by simp at hv) hB h1 h2 fun p' cap' w' h1 h2 h3 _=>k p' cap' w' h1 h2 h3
  ·have hn':zav w a (news.flatMap E.enc):=by
    rcases hn with h | ⟨b,o,h,hb,hcs⟩
    ·exact absurd h h0
    ·cases h
     exact SlR.cells (.inr ⟨b,o,rfl,hb,hcs⟩)
   exact zbA hu hT hz hs hzl ho hm hn' hB h1 h2 fun p' cap' w' h1 h2 h3 _=>k p' cap' w' h1 h2 h3
end
end Go.Vc
namespace Go.Vc
open Go.RowKit
theorem zfo {a:Int} (h:0<=a/\a<=18446744073709551615):IntKind.u64.wrap a=a:=by
 simp [IntKind.wrap,IntKind.signed,IntKind.bits] <;> omega
def RowS {α:Type} (E:Enc α) (T:TypeId) (w:World) (g:Nat) (sp:List Value) (l:List α):Prop :=
 w.heap[g]?=some (.cells (l.flatMap E.enc++sp).toArray T (0,0))
section
variable {α:Type} {E:Enc α} {T:TypeId} {w w2:World} {g:Nat} {sp:List Value} {l:List α}
theorem RowS.row (h:RowS E T w g sp l):SlR E w (some ⟨g,0,none⟩) l:=by
 refine SlR.of_cells (hlt h) (zbg fun i v hv=>zac (zaa h) ?_);rw [List.getElem?_append_left (List.getElem?_eq_some_iff.1 hv).1];exact hv
theorem RowS.at (h:RowS E T w g sp l) {i:Nat} (hi:i<l.length):zav w ⟨g,0+i*E.sz,none⟩ (E.enc l[i]):=by
 rcases h.row with h0 | ⟨b,o,h1,_,hc⟩
 ·subst h0;simp at hi
 ·cases h1;exact hc i hi
theorem RowS.lt (h:RowS E T w g sp l):g<w.heap.size:=hlt h
theorem RowS.same (h:RowS E T w g sp l) (hs:w2.heap[g]?=w.heap[g]?):RowS E T w2 g sp l:=hs.trans h
theorem RowS.below (h:RowS E T w g sp l) (hb:Bw w w2):RowS E T w2 g sp l:=zab hb h
theorem zku (l:List α) {i:Nat} (hi:i<l.length) (x:α) (sp:List Value) :
  (l.flatMap E.enc++sp).take (i*E.sz)++E.enc x++(l.flatMap E.enc++sp).drop (i*E.sz+E.sz)=(l.set i x).flatMap E.enc++sp:=by
 have hl:l=l.take i++l[i]::l.drop (i+1):=by rw [List.getElem_cons_drop,List.take_append_drop]
 have h1:((l.take i).flatMap E.enc).length=i*E.sz:=by rw [za8,List.length_take,Nat.min_eq_left (by omega)]
 have h2:(l.take i++l[i]::l.drop (i+1)).flatMap E.enc++sp=(l.take i).flatMap E.enc++(E.enc l[i]++((l.drop (i+1)).flatMap E.enc++sp)):=by
  rw [List.flatMap_append,List.flatMap_cons];simp only [List.append_assoc]
 rw [<- hl] at h2;rw [List.set_eq_take_append_cons_drop,if_pos hi,h2];rw [List.take_append_of_le_length (by omega),List.take_of_length_le (by omega),List.drop_append,List.drop_of_length_le (by omega),h1];have h3:i*E.sz+E.sz-i*E.sz=E.sz:=by omega
 rw [h3,List.nil_append,List.drop_append,List.drop_of_length_le (by rw [E.len];exact Nat.le_refl _),E.len,Nat.sub_self,List.drop_zero];simp [List.flatMap_append]
theorem zlT {P:Program} {Te:TypeId} {iT:TI} (hT:TIok P Te iT) (hs:iT.size=E.sz) (hr:RowS E T w g sp l) {i:Nat} (hi:i<l.length) (x:α) {K:World->Prop}
  (k:∀ w',RowS E T w' g sp (l.set i x)->w.grownBy w' (some g)->w'.heap.size=w.heap.size->K w') :
  SatR ((storeVar Te ⟨g,0+i*E.sz,none⟩ (.agg (E.enc x).toArray)).run P w) fun _ w'=>K w':=by
 obtain⟨⟨inf,hinf,hsz,_,_⟩,_⟩:=hT;have hfl:(l.flatMap E.enc).length=l.length*E.sz:=za8 l;have hle:i*E.sz+E.sz<=l.length*E.sz:=by rw [<- Nat.succ_mul];exact Nat.mul_le_mul_right _ hi
 have hst:=run_storeCells_at P g (0+i*E.sz) T (E.enc x) 0 _ w hr (by rw [E.len];simp only [List.size_toArray,lap,hfl];omega) (E.one x);have hrun:(sizeOf Te).run P w = .ok iT.size w:=by simp [sizeOf,typeInfo,hinf,hsz]
 refine SatR.mk (v:=()) (w':=w.setRow g ((l.set i x).flatMap E.enc++sp).toArray) ?_ (k _ (zan hr) (zaU w g _) (by simp));simp only [storeVar,Sem.run_bind,hrun,Result.andThen_ok];have hc:(Value.agg (E.enc x).toArray).cells=(E.enc x).toArray:=rfl;rw [hc];simp only [List.size_toArray,E.len,hs,ne_eq,not_true_eq_false,if_false];rw [hst,<- zku l hi x sp];simp only [E.len,Nat.zero_add,Nat.add_zero]
theorem zbD (w:World) (row:Option Nat):w.grownBy w row:=⟨rfl,rfl,rfl,Nat.le_refl _,fun _ _ _=>rfl⟩
theorem zaf {a b c:World} {row:Option Nat} (h:a.grownBy b row) (k:b.grownBy c row):a.grownBy c row :=
 ⟨k.os.trans h.os,k.tape.trans h.tape,k.output.trans h.output,Nat.le_trans h.size k.size,fun i hi hn=>(k.block i (nL hi h.size) hn).trans (h.block i hi hn)⟩
theorem zag {a b:World} {row:Option Nat} (h:Bw a b):a.grownBy b row:=⟨h.os,h.tape,h.output,h.size,fun k hk _=>h.block k hk⟩
theorem zcg {P:Program} {Te:TypeId} {iT:TI} (hT:TIok P Te iT) (hs:iT.size=1) {cs:Array Value} {t:TypeId} (hg:w.heap[g]?=some (.cells cs t (0,0))) {o:Nat} (ho:o<cs.size) {v:Value} (hv:v.cells = #[v]) (h1:v.oneCell'=true) {K:World->Prop}
  (k:∀ w',w'.heap[g]?=some (.cells (cs.toList.take o++[v]++cs.toList.drop (o+1)).toArray t (0,0))->w.grownBy w' (some g)->w'.heap.size=w.heap.size->K w') :
  SatR ((storeVar Te ⟨g,o,none⟩ v).run P w) fun _ w'=>K w':=by
 obtain⟨⟨inf,hinf,hsz,_,_⟩,_⟩:=hT;have hst:=run_storeCells_at P g o t [v] 0 cs w hg (by simp;omega) (by simp [h1]);have hrun:(sizeOf Te).run P w = .ok iT.size w:=by simp [sizeOf,typeInfo,hinf,hsz]
 refine SatR.mk (v:=()) (w':=w.setRow g (cs.toList.take o++[v]++cs.toList.drop (o+1)).toArray) ?_ (k _ (zan hg) (zaU w g _) (by simp));simp only [storeVar,Sem.run_bind,hrun,Result.andThen_ok,hv,hs];simpa using hst
end
theorem brT {P Q:Prop} (h:P):(true=true->P)/\(true=false->Q):=⟨fun _=>h,fun h=>nomatch h⟩
theorem brF {P Q:Prop} (h:Q):(false=true->P)/\(false=false->Q):=⟨fun h=>(nomatch h),fun _=>h⟩
theorem brE {b:Bool} {P Q:Prop} (e:b=true) (h:P):(b=true->P)/\(b=false->Q):=⟨fun _=>h,fun h=>nomatch e.symm.trans h⟩
theorem brN {b:Bool} {P Q:Prop} (e:b=false) (h:Q):(b=true->P)/\(b=false->Q):=⟨fun h=>(nomatch e.symm.trans h),fun _=>h⟩
theorem zaA {w w2:World} {b o:Nat} {vs:List Value} (hs:w2.heap[b]?=w.heap[b]?) (h:zav w ⟨b,o,none⟩ vs):zav w2 ⟨b,o,none⟩ vs:=by
 refine zbg fun i v hv=>?_;have:=zac h hv;rw [<- this];unfold World.cell?;simp only [hs]
theorem zbb {B:Nat} {w w2:World} {b o:Nat} {vs:List Value} (hb:Below B w w2) (hlt:b<B) (h:zav w ⟨b,o,none⟩ vs):zav w2 ⟨b,o,none⟩ vs :=
 zaA (hb.block b hlt) h
theorem zny {w:World} {b o:Nat} {u v:List Value}:zav w ⟨b,o,none⟩ (u++v)↔zav w ⟨b,o,none⟩ u/\zav w ⟨b,o+u.length,none⟩ v:=by
 constructor
 ·intro h;refine⟨zbg fun i x hx=>zac h ?_,zbg fun i x hx=>?_⟩
  ·rw [List.getElem?_append_left (List.getElem?_eq_some_iff.1 hx).1];exact hx
  ·have:=zac h (i:=u.length+i) (v:=x) (by rw [List.getElem?_append_right (by omega)];simpa using hx)
   rwa [<- Nat.add_assoc] at this
 ·rintro⟨h1,h2⟩;refine zbg fun i x hx=>?_;by_cases hi:i<u.length
  ·rw [List.getElem?_append_left hi] at hx;exact zac h1 hx
  ·rw [List.getElem?_append_right (by omega)] at hx;have:=zac h2 hx
   rwa [show o+u.length+(i-u.length)=o+i by omega] at this
def RowB {α:Type} (E:Enc α) (B:Nat) (w:World) (p:Option Addr) (l:List α):Prop :=
 l=[]\/∃ b o,p=some ⟨b,o,none⟩/\b<B/\zav w ⟨b,o,none⟩ (l.flatMap E.enc)
section
variable {α:Type} {E:Enc α} {B:Nat} {w w2:World} {p:Option Addr} {l:List α}
theorem RowB.below (h:RowB E B w p l) (hb:Below B w w2):RowB E B w2 p l:=by
 rcases h with h | ⟨b,o,hp,hlt,hc⟩
 ·exact .inl h
 ·exact .inr ⟨b,o,hp,hlt,zbb hb hlt hc⟩
theorem RowB.mono {B':Nat} (h:RowB E B w p l) (hB:B<=B'):RowB E B' w p l:=by
 rcases h with h | ⟨b,o,hp,hlt,hc⟩
 ·exact .inl h
 ·exact .inr ⟨b,o,hp,by omega,hc⟩
theorem RowB.slr (h:RowB E B w p l) (hB:B<=w.heap.size):SlR E w p l:=by
 rcases h with rfl | ⟨b,o,rfl,hlt,hc⟩
 ·exact .nil
 ·exact SlR.of_cells (by omega) hc
theorem RowB.get (h:RowB E B w p l):∃ b o,(l.length=0\/p=some ⟨b,o,none⟩)/\∀ i (hi:i<l.length),b<B/\zav w ⟨b,o+i*E.sz,none⟩ (E.enc l[i]):=by
 rcases h with rfl | ⟨b,o,rfl,hlt,hc⟩
 ·exact⟨0,0,.inl rfl,fun i hi=>by simp at hi⟩
 ·exact⟨b,o,.inr rfl,fun i hi=>⟨hlt,by rw [<- zfy l i hi];exact zaF hc⟩⟩
end
theorem zim:∀ (A B C:List Value),B.length=C.length->zeu (A++B) A.length C=A++C
 | A,B,[],h=>by
  have:B=[]:=List.eq_nil_of_length_eq_zero h;subst this;rfl
 | A,[],c::C,h=>by simp at h
 | A,b::B,c::C,h=>by
  have e:(A++b::B).set A.length c=(A++[c])++B:=by
   rw [List.set_append_right _ _ (Nat.le_refl _),Nat.sub_self];simp
  rw [zeu,e];have:=zim (A++[c]) B C (by simpa using h);rw [lap] at this;exact this.trans (by simp)
theorem zcV {n:Nat} {x:Operand} {z cs:List Value} (hc:cs.length=n) (hz:z.length=n):zfm (fun i=>some (i*n,n)) (zrep z 1) (zipN [(0,x)] [.agg cs.toArray])=some cs:=by
 have e1:zrep z 1=z:=by simp [zrep]
 have e2:(Value.agg cs.toArray).cells.size=n:=by show cs.length=n;exact hc
 simp only [zipN,zfm,e1,e2,Nat.zero_mul,Nat.zero_add,hz];simp only [Nat.beq_refl,Nat.ble_self_eq_true,Bool.and_self];have:(Value.agg cs.toArray).cells.toList=cs:=rfl;rw [this];have:=zim [] z cs (by rw [hz,hc]);simp at this;rw [this]
theorem zbi {α:Type} (E:Enc α) (a:α) {w:World} {t:TypeId}:zav (w.alloc (.cells (E.enc a).toArray t)) ⟨w.heap.size,0,none⟩ ([a].flatMap E.enc):=by
 rw [List.flatMap_singleton];exact ziV
theorem zbs {P:Program} {w:World} {g:Nat} {Te:TypeId} {iT:TI} (hT:TIok P Te iT) {cs:Array Value} {t:TypeId} (hg:w.heap[g]?=some (.cells cs t (0,0))) {o:Nat} {v:Value} (hv:v.cells.size=iT.size) (ho:o+v.cells.size<=cs.size)
  (h1:v.cells.toList.all Value.oneCell'=true) {K:World->Prop}
  (k:∀ w',w'.heap[g]?=some (.cells (cs.toList.take o++v.cells.toList++cs.toList.drop (o+v.cells.size)).toArray t (0,0))->w.grownBy w' (some g)->w'.heap.size=w.heap.size->K w') :
  SatR ((storeVar Te ⟨g,o,none⟩ v).run P w) fun _ w'=>K w':=by
 obtain⟨⟨inf,hinf,hsz,_,_⟩,_⟩:=hT;have hst:=run_storeCells_at P g o t v.cells.toList 0 cs w hg (by simpa using ho) (List.all_eq_true.1 h1);have hrun:(sizeOf Te).run P w = .ok v.cells.size w:=by simp [sizeOf,typeInfo,hinf,hsz,hv]
 refine SatR.mk (v:=()) (w':=w.setRow g (cs.toList.take o++v.cells.toList++cs.toList.drop (o+v.cells.size)).toArray) ?_ (k _ (zan hg) (zaU w g _) (by simp));simp only [storeVar,Sem.run_bind,hrun,Result.andThen_ok];simpa using hst
def zhN (ind:Nat->Nat->Bool) (ops:Array Oper) (k:Nat) (listed:Array Bool):Bool :=
 (List.range ops.size).all fun i=>Nat.beq i k||listed.getD i false||ind k i||zg7 ops ops.size k i
def covF (rec_:Array Bool->OT->Bool) (ind:Nat->Nat->Bool) (ops:Array Oper) (listed:Array Bool) (T:OT):Bool :=
 !(Region.ready .any ops listed).isEmpty&&(Region.ready .any ops listed).all fun i =>
   match OT.first ind i T with
   | some T'=>rec_ (listed.setIfInBounds i true) T'
   | none=>false
def covQ (ind:Nat->Nat->Bool) (ops:Array Oper):Nat->Array Bool->OT->Bool
 | 0,listed,T=>(Region.ready .any ops listed).isEmpty&&(match T with | .nil=>true | _=>false)
 | m+1,listed,.op k T'=>(match (Region.ready .any ops listed).contains k&&zhN ind ops k listed with
  | true=>covQ ind ops m (listed.setIfInBounds k true) T'
  | false=>covF (covQ ind ops m) ind ops listed (.op k T'))
 | m+1,listed,.nil=>covF (covQ ind ops m) ind ops listed .nil
 | m+1,listed,.alt x y=>covF (covQ ind ops m) ind ops listed (.alt x y)
section
variable {ind:Nat->Nat->Bool} {ops:Array Oper}
def zgv (ops:Array Oper) (L:Array Bool):Prop:=∀ j o,L.getD j false=true->ops[j]?=some o->∀ e∈o.after,Region.binds .any e=true->L.getD e.on false=true
theorem zeH {L:Array Bool} {k j:Nat} {d:Bool} (h:j≠k):(L.setIfInBounds k true).getD j d=L.getD j d:=by
 have:¬ k=j:=fun e=>h e.symm;simp [Array.getD_eq_getD_getElem?,Array.getElem?_setIfInBounds,this]
theorem zeI {L:Array Bool} {k j:Nat} (h:L.getD j false=true):(L.setIfInBounds k true).getD j false=true:=by
 by_cases e:j=k
 ·subst e;have hl:j<L.size:=by
   by_cases hl:j<L.size
   ·exact hl
   ·simp [hl] at h
  simp [Array.getD_eq_getD_getElem?,hl]
 ·rw [zeH e];exact h
theorem zcw {L:Array Bool} {k i:Nat} (h:i∈Region.ready .any ops L) (hne:i≠k):i∈Region.ready .any ops (L.setIfInBounds k true):=by
 obtain⟨h1,o,ho,h2⟩:=mem_ready.1 h;exact mem_ready.2 ⟨by rw [zeH hne];exact h1,o,ho,fun e he hb=>zeI (h2 e he hb)⟩
theorem zd7 {L:Array Bool} {i:Nat} (h:i∈Region.ready .any ops L):L.getD i false=false/\i<L.size:=by
 obtain⟨h1,_⟩:=mem_ready.1 h;by_cases hl:i<L.size
 ·simp [Array.getD_eq_getD_getElem?,hl] at h1 ⊢;exact h1
 ·simp [hl] at h1
theorem zdY {L:Array Bool} (hc:zgv ops L) {k:Nat} (hk:k∈Region.ready .any ops L):zgv ops (L.setIfInBounds k true):=by
 obtain⟨h1,o,ho,h2⟩:=mem_ready.1 hk;intro j oj hj hoj e he hb;by_cases e1:j=k
 ·subst e1;rw [ho] at hoj;cases hoj;exact zeI (h2 e he hb)
 ·rw [zeH e1] at hj;exact zeI (hc j oj hj hoj e he hb)
theorem zj0 {L:Array Bool} {i k:Nat}:(L.setIfInBounds i true).setIfInBounds k true=(L.setIfInBounds k true).setIfInBounds i true:=by
 apply Array.ext_getElem?;intro j;simp only [Array.getElem?_setIfInBounds,Array.size_setIfInBounds]
 split <;> split <;> simp_all
theorem zgR {k i:Nat} {L:Array Bool} (h:zhN ind ops k L=true):zhN ind ops k (L.setIfInBounds i true)=true:=by
 simp only [zhN,List.all_eq_true,Bool.or_eq_true,List.mem_range] at h ⊢;intro j hj;rcases h j hj with ((h | h) | h) | h
 ·exact .inl (.inl (.inl h))
 ·exact .inl (.inl (.inr (zeI h)))
 ·exact .inl (.inr h)
 ·exact .inr h
theorem zkt {k i:Nat} {L:Array Bool} (hc:zgv ops L) (hf:zhN ind ops k L=true) (hk:k∈Region.ready .any ops L) (hi:i∈Region.ready .any ops L) (hne:i≠k):ind k i=true:=by
 obtain⟨h1,o,ho,h2⟩:=mem_ready.1 hi;simp only [zhN,List.all_eq_true,Bool.or_eq_true,List.mem_range] at hf;rcases hf i (Array.getElem?_eq_some_iff.1 ho).1 with ((h | h) | h) | h
 ·exact absurd (Nat.eq_of_beq_eq_true h) hne
 ·rw [(zd7 hi).1] at h;cases h
 ·exact h
 ·have:=zdy hc _ k i o ho h2 h;rw [(zd7 hk).1] at this;cases this
theorem zc8 {rec_:Array Bool->OT->Bool} {L:Array Bool} {T:OT} (h:covF rec_ ind ops L T=true):(Region.ready .any ops L).isEmpty=false/\∀ i∈Region.ready .any ops L,∃ T',OT.first ind i T=some T'/\rec_ (L.setIfInBounds i true) T'=true:=by
 simp only [covF,bAT,Bool.not_eq_true',List.all_eq_true] at h;refine⟨h.1,fun i hi=>?_⟩;have:=h.2 i hi
 split at this
 ·rename_i T' hT;exact⟨T',hT,this⟩
 ·cases this
theorem znq:∀ (m:Nat) (L:Array Bool) (T:OT),zgv ops L->covQ ind ops (m+1) L T=true ->
  (Region.ready .any ops L).isEmpty=false/\∀ i∈Region.ready .any ops L,∃ T',OT.first ind i T=some T'/\covQ ind ops m (L.setIfInBounds i true) T'=true:=by
 intro m
 induction m with
 | zero =>
  intro L T hc h
  cases T with
  | nil=>exact zc8 h
  | alt x y=>exact zc8 h
  | op k T' =>
   simp only [covQ] at h
   split at h
   ·rename_i hf;simp only [bAT,List.contains_eq_mem,dE] at hf;refine⟨List.isEmpty_eq_false_iff.2 (List.ne_nil_of_mem hf.1),fun i hi=>?_⟩;by_cases e:i=k
    ·subst e;exact⟨T',by simp [OT.first],h⟩
    ·have:=zcw hi e;simp only [bAT,List.isEmpty_iff] at h;rw [h.1] at this;cases this
   ·exact zc8 h
 | succ m ih =>
  intro L T hc h
  cases T with
  | nil=>exact zc8 h
  | alt x y=>exact zc8 h
  | op k T' =>
   unfold covQ at h
   split at h
   ·rename_i hf;simp only [bAT,List.contains_eq_mem,dE] at hf;refine⟨List.isEmpty_eq_false_iff.2 (List.ne_nil_of_mem hf.1),fun i hi=>?_⟩;by_cases e:i=k
    ·subst e;exact⟨T',by simp [OT.first],h⟩
    ·obtain⟨T'',h1,h2⟩:=(ih _ T' (zdY hc hf.1) h).2 i (zcw hi e);refine⟨.op k T'',?_,?_⟩
     ·have:¬ k=i:=fun e2=>e e2.symm;rw [OT.first,if_neg this,if_pos (zkt hc hf.2 hf.1 hi e),h1];rfl
     ·have hk2:k∈Region.ready .any ops (L.setIfInBounds i true):=zcw hf.1 (fun e2=>e e2.symm);have hb:((Region.ready .any ops (L.setIfInBounds i true)).contains k&&zhN ind ops k (L.setIfInBounds i true))=true:=by
       simp only [bAT,List.contains_eq_mem,dE];exact⟨hk2,zgR hf.2⟩
      unfold covQ;rw [hb];rw [zj0];exact h2
   ·exact zc8 h
theorem ziT:∀ (m:Nat) (L:Array Bool) (T:OT),zgv ops L->covQ ind ops m L T=true->covT ind ops m L T=true
 | 0,L,T,_,h=>h
 | m+1,L,T,hc,h=>by
  obtain⟨h1,h2⟩:=znq m L T hc h;simp only [covT,bAT,Bool.not_eq_true',List.all_eq_true];refine⟨h1,fun i hi=>?_⟩;obtain⟨T',h3,h4⟩:=h2 i hi;rw [h3];exact ziT m _ T' (zdY hc hi) h4
theorem DrawE.treeQ {S:Sig} {ops:Array Oper} {E:Env} {w:World} {K:Env->World->Prop} {QP:List PanicEntry->World->Prop} (X:List Nat) (T:OT)
  (h:(covQ (zeE S.τ X ops) ops ops.size (Array.replicate ops.size false) T&&ops.all (fun o=>zb4 o.op))=true) (k:opsT S ops.toList X QP T E w.drew K):DrawE S ops E w K QP :=
 .inr (.inl ⟨X,T,by
  simp only [bAT] at h ⊢;refine⟨ziT _ _ _ (fun j o hj=>?_) h.1,h.2⟩;by_cases hl:j<ops.size <;> simp [hl] at hj,k⟩)
end
theorem ziI {z:Value} (h:0<z.cells.size) (n:Nat):(madeCells z.cells (n*z.cells.size)).toList=zrep z.cells.toList n:=by
 have:=zlE z.cells.toList (by simpa using h) n;unfold madeCells;simpa using congrArg Array.toList this
theorem ziH {P:Program} {w:World} {t T:TypeId} {iT:TI} {z:List Value} {kl kc:IntKind} (hu:P.underlying t=some (.slice T)) (hT:TIok P T iT) (hz:iT.zero=some z) (hzl:z.length=iT.size) (hp:0<iT.size) (n:Nat) (h1:iT.bytes*n<=281474976710656) (h63:n<=9223372036854775807) {K:Value->World->Prop}
  (k:∀ w',w'.heap[w.heap.size]?=some (.cells (zrep z n).toArray T (0,0))->Bw w w'->w'.heap.size=w.heap.size+1->K (.slice (some ⟨w.heap.size,0,none⟩) n n) w') :
  SatR ((Instr.makeSlice t (.int kl (n:Int)) (.int kc (n:Int))).run P w) K:=by
 obtain⟨⟨inf,hi,hsz,hby,hzz⟩,_⟩:=hT;obtain⟨zv,hzv,hzc⟩:=hzz z hz;have h63':(n:Int)<=9223372036854775807:=by omega
 have hb':(inf.bytes:Int)*(n:Int)<=281474976710656:=by
  have h:((inf.bytes*n:Nat):Int)<=281474976710656:=by rw [hby];omega
  rwa [Int.natCast_mul] at h
 have hr:=run_make (P:=P) w t T inf zv hu hi hzv kl kc n n (by omega) (Int.le_refl _) hb' h63';simp only [Int.toNat_natCast] at hr;have hcs:zv.cells.size=inf.size:=by rw [hsz,<- hzl,<- hzc];simp
 have hm:madeCells zv.cells (n*inf.size)=(zrep z n).toArray:=by
  have:=ziI (z:=zv) (by omega) n;rw [hzc,hcs] at this;rw [<- this]
 rw [hm] at hr;exact SatR.mk hr (k _ (hnew w _) ((zba _ _)) (by simp))
theorem zaq {P:Program} {w:World} {g:Nat} {Te:TypeId} {iT:TI} (hT:TIok P Te iT) {cs:List Value} {t:TypeId} (hg:w.heap[g]?=some (.cells cs.toArray t (0,0))) {o:Nat} {v:Value} (hv:v.cells = #[v]) (hi:iT.size=1) (ho:o<cs.length) (h1:v.oneCell'=true) {K:World->Prop}
  (k:∀ w',w'.heap[g]?=some (.cells (cs.set o v).toArray t (0,0))->w.grownBy w' (some g)->w'.heap.size=w.heap.size->K w') :
  SatR ((storeVar Te ⟨g,o,none⟩ v).run P w) fun _ w'=>K w':=by
 refine zbs hT hg (o:=o) (v:=v) (by rw [hv,hi];rfl) (by rw [hv];show o+1<=cs.length;omega) (by rw [hv];simpa using h1) fun w' f gr sz=>k w' ?_ gr sz;rw [f,hv];congr 2;show (cs.take o++[v]++cs.drop (o+1)).toArray=_;rw [List.set_eq_take_append_cons_drop,if_pos ho];simp
theorem zak {n:Nat} {A B:World} {g:Nat} (h:A.grownBy B (some g)) (hn:n<=A.heap.size) (hg:n<=g):Below n A B :=
 ⟨h.os,h.tape,h.output,h.size,fun j hj=>h.block j (nL hj hn) (by simp;omega)⟩
theorem OwnS.lower {α : Type} {E : Enc α} {T B B' cap : Nat} {w : World} {p : Option Addr} {l : List α} (h : OwnS E T B w p cap l) (hB : B' ≤ B) : OwnS E T B' w p cap l := by
  obtain ⟨h1, h2⟩ := h
  refine ⟨h1, ?_⟩
  rcases h2 with h2 | ⟨g, cap', cur, h2, hb, rest⟩
  · exact .inl h2
  · exact .inr ⟨g, cap', cur, h2, Nat.le_trans hB hb, rest⟩
theorem znv {P : Program} {w : World} {t T ty : TypeId} {iT : TI} {z : Value} (hu : P.underlying t = some (.slice T)) (hT : TIok P T iT) (hz : iT.zero = some [z]) (h1 : z.oneCell' = true) {b o n c : Nat} (hn : 0 < n) {cs : Array Value} {u : TypeId} (hg : w.heap[b]? = some (.cells cs u (0, 0))) (ho : o + n ≤ cs.size) {K : Value → World → Prop}
    (k : ∀ w', w'.heap[b]? = some (.cells (cs.toList.take o ++ List.replicate n z ++ cs.toList.drop (o + n)).toArray u (0, 0)) → w.grownBy w' (some b) → w'.heap.size = w.heap.size → K (.tuple #[]) w') :
    SatR ((Builtin.clear_ #[t] ty #[.slice (some ⟨b, o, none⟩) n c]).run P w) K := by
  obtain ⟨⟨inf, hi, _, _, hzz⟩, _⟩ := hT
  obtain ⟨zv, hzv, hzc⟩ := hzz _ hz
  have hv : ∀ w, (zeroValue T).run P w = .ok zv w := fun w => by simp [zeroValue, typeInfo, hi, hzv]
  have hzc2 : zv.cells = #[z] := by rw [← hzc]
  have hrep : (Builtin.zeroCells zv.cells n).toList = List.replicate n z := by
    rw [hzc2]
    simp [Builtin.zeroCells]
    apply List.ext_getElem
    · simp
    · intro i h1 h2
      simp [Nat.mod_one]
  have hst := run_storeCells_at P b o u (List.replicate n z) 0 cs w hg (by simpa using ho) (fun v hv' => by rw [List.eq_of_mem_replicate hv']; exact h1)
  refine SatR.mk (v := .tuple #[]) (w' := w.setRow b (cs.toList.take o ++ List.replicate n z ++ cs.toList.drop (o + n)).toArray) ?_ (k _ (zan hg) (zaU w b _) (by simp))
  obtain ⟨m, rfl⟩ : ∃ m, n = m + 1 := ⟨n - 1, by omega⟩
  have hrep' : Builtin.zeroCells zv.cells (m + 1) = (List.replicate (m + 1) z).toArray := by rw [← hrep]
  simp only [Nat.add_zero, List.length_replicate] at hst
  simp [Builtin.clear_, run_underlying hu, hv, hrep', hst]
theorem zeC {α : Type} {E : Enc α} {P : Program} {w : World} {t T : TypeId} {iT : TI} {z : List Value} {kl kc : IntKind} (hu : P.underlying t = some (.slice T)) (hT : TIok P T iT) (hz : iT.zero = some z) (hzl : z.length = iT.size) (hs : iT.size = E.sz) (n : Nat) (h1 : iT.bytes * n ≤ 281474976710656) (h63 : n ≤ maxLen) {K : Value → World → Prop}
    (k : ∀ w', OwnS E T w.heap.size w' (some ⟨w.heap.size, 0, none⟩) n [] → Below w.heap.size w w' → w'.heap.size = w.heap.size + 1 → K (.slice (some ⟨w.heap.size, 0, none⟩) 0 n) w') :
    SatR ((Instr.makeSlice t (.int kl 0) (.int kc (n : Int))).run P w) K := by
  obtain ⟨⟨inf, hi, hsz, hby, hzz⟩, _⟩ := hT
  obtain ⟨zv, hzv, hzc⟩ := hzz z hz
  have h63' : (n : Int) ≤ 9223372036854775807 := by unfold maxLen at h63; omega
  have hb' : (inf.bytes : Int) * (n : Int) ≤ 281474976710656 := by
    have h : ((inf.bytes * n : Nat) : Int) ≤ 281474976710656 := by rw [hby]; omega
    rwa [Int.natCast_mul] at h
  have hr := run_make (P := P) w t T inf zv hu hi hzv kl kc 0 n (by omega) (by omega) hb' h63'
  simp only [Int.toNat_natCast, Int.toNat_zero] at hr
  have hcs : zv.cells.size = inf.size := by rw [hsz, ← hzl, ← hzc]; simp
  have hp : 0 < zv.cells.size := by rw [hcs, hsz, hs]; exact E.pos
  have hm : (madeCells zv.cells (n * inf.size)).size = n * E.sz := by
    have := congrArg List.length (ziI (z := zv) hp n)
    rw [zg4, hcs] at this
    rw [← hs, ← hsz]
    simpa [hcs] using this
  refine SatR.mk hr (k _ ?_ ((Below.refl _ _).alloc (Nat.le_refl _) _) (by simp))
  exact World.ownsRow_made w _ n (Nat.le_refl _) h63 hm
structure StepG (n0 : Nat) (Ow F : Nat → Prop) (A B : World) : Prop where
  os : B.os = A.os
  tape : B.tape = A.tape
  output : B.output = A.output
  size : A.heap.size ≤ B.heap.size
  same : ∀ k, k < A.heap.size → ((k < n0 ∧ ¬ Ow k) ∨ F k) → B.heap[k]? = A.heap[k]?
theorem StepG.mono {n0 n1 : Nat} {Ow F : Nat → Prop} {A B : World} (h : StepG n0 Ow F A B) (hn : n1 ≤ n0) : StepG n1 Ow F A B :=
  ⟨h.os, h.tape, h.output, h.size, fun k hk hf => h.same k hk (hf.imp (fun h => ⟨Nat.lt_of_lt_of_le h.1 hn, h.2⟩) id)⟩
theorem StepG.below {n0 : Nat} {Ow F : Nat → Prop} {A B : World} (h : Below A.heap.size A B) : StepG n0 Ow F A B :=
  ⟨h.os, h.tape, h.output, h.size, fun k hk _ => h.block k hk⟩
theorem StepG.trans {n0 : Nat} {Ow F : Nat → Prop} {A B C : World} (h : StepG n0 Ow F A B) (k : StepG n0 Ow F B C) : StepG n0 Ow F A C :=
  ⟨k.os.trans h.os, k.tape.trans h.tape, k.output.trans h.output, Nat.le_trans h.size k.size, fun i hi hf => (k.same i (Nat.lt_of_lt_of_le hi h.size) hf).trans (h.same i hi hf)⟩
theorem StepG.put {n0 : Nat} {Ow F : Nat → Prop} {A : World} {l : Nat} (h : n0 ≤ l) (hf : ¬ F l) (o : Obj) : StepG n0 Ow F A (A.putObj l o) :=
  ⟨rfl, rfl, rfl, by simp [World.putObj], fun k _ hk => zah (fun e => by subst e; rcases hk with hk | hk; omega; exact hf hk)⟩
theorem StepG.grown {n0 : Nat} {Ow F : Nat → Prop} {A B : World} {l : Nat} (h : A.grownBy B (some l)) (hl : n0 ≤ l ∨ Ow l) (hf : ¬ F l) : StepG n0 Ow F A B :=
  ⟨h.os, h.tape, h.output, h.size, fun k hk hf2 => h.block k hk (fun e => by
    have e : k = l := by simpa using e
    subst e
    rcases hf2 with h2 | h2
    · rcases hl with hl | hl
      · omega
      · exact h2.2 hl
    · exact hf h2)⟩
structure JG {σ : Type} (n0 : Nat) (Ow : Nat → Prop) (J : σ → (Nat → Prop) → World → Prop) : Prop where
  step : ∀ s F A B, J s F A → StepG n0 Ow F A B → J s F B
  lt : ∀ s F A k, J s F A → F k → k < A.heap.size ∧ ¬ Ow k
theorem JG.mono {σ : Type} {n0 n1 : Nat} {Ow : Nat → Prop} {J : σ → (Nat → Prop) → World → Prop} (h : JG n0 Ow J) (hn : n0 ≤ n1) : JG n1 Ow J :=
  ⟨fun s F A B hj hs => h.step s F A B hj (hs.mono hn), h.lt⟩
structure KeepsG (F F' : Nat → Prop) (A B : World) : Prop where
  os : B.os = A.os
  tape : B.tape = A.tape
  output : B.output = A.output
  size : A.heap.size ≤ B.heap.size
  same : ∀ k, k < A.heap.size → ¬ F k → B.heap[k]? = A.heap[k]?
  fp : ∀ k, F' k → F k ∨ A.heap.size ≤ k
theorem KeepsG.refl (F : Nat → Prop) (A : World) : KeepsG F F A A := ⟨rfl, rfl, rfl, Nat.le_refl _, fun _ _ _ => rfl, fun _ h => .inl h⟩
theorem KeepsG.trans {F F' F'' : Nat → Prop} {A B C : World} (h : KeepsG F F' A B) (k : KeepsG F' F'' B C) : KeepsG F F'' A C :=
  ⟨k.os.trans h.os, k.tape.trans h.tape, k.output.trans h.output, Nat.le_trans h.size k.size,
   fun i hi hf => (k.same i (Nat.lt_of_lt_of_le hi h.size) (fun hb => by rcases h.fp i hb with h1 | h1; exact hf h1; omega)).trans (h.same i hi hf),
   fun i hi => by
     rcases k.fp i hi with h1 | h1
     · exact h.fp i h1
     · exact .inr (Nat.le_trans h.size h1)⟩
theorem KeepsG.weak {F F' G : Nat → Prop} {A B : World} (h : KeepsG F F' A B) (hF : ∀ k, F k → G k) : KeepsG G F' A B :=
  ⟨h.os, h.tape, h.output, h.size, fun k hk hg => h.same k hk fun hf => hg (hF k hf), fun k hk => (h.fp k hk).imp (hF k) id⟩
theorem KeepsG.below {F F' : Nat → Prop} {A B : World} (h : Below A.heap.size A B) (hf : ∀ k, F' k → F k ∨ A.heap.size ≤ k) : KeepsG F F' A B :=
  ⟨h.os, h.tape, h.output, h.size, fun k hk _ => h.block k hk, hf⟩
theorem KeepsG.grown {F : Nat → Prop} {A B : World} {g : Nat} (h : A.grownBy B (some g)) (hg : F g) : KeepsG F F A B :=
  ⟨h.os, h.tape, h.output, h.size, fun k hk hf => h.block k hk (fun e => hf (by cases e; exact hg)), fun k h => .inl h⟩
def zlx {α : Type} (P : Program) (g : Nat) (lb : List Value) (xs : List α) (W0 : World) (Rd Ow : Nat → Prop) (St : List α → List Value → World → Prop) : Prop :=
  ∀ (l : Nat) (F0 : Nat → Prop) (J Jx : List α → (Nat → Prop) → World → Prop) (W : World), W0.heap.size ≤ W.heap.size → (∀ k, Rd k ∨ Ow k → W.heap[k]? = W0.heap[k]?) → (∀ k, Rd k → ¬ F0 k) →
    JG W.heap.size Ow J → JG W.heap.size Ow Jx →
    (∀ pre x vs F W1, J pre F W1 → St (pre ++ [x]) vs W1 → (pre ++ [x]) <+: xs → YieldR P l vs.toArray W1 fun v W2 =>
      (v = .bool true ∧ ∃ F', J (pre ++ [x]) F' W2 ∧ KeepsG F F' W1 W2) ∨ (v = .bool false ∧ ∃ F', Jx (pre ++ [x]) F' W2)) →
    J [] F0 W →
    Calls P g (.func (.yield l) #[] #[] :: lb).toArray W fun e W' => (∃ v, e = .returned v) ∧ ((∃ F', J xs F' W') ∨ ∃ pre F', pre <+: xs ∧ Jx pre F' W')
def zsx {α : Type} (F : Nat → Prop) (J : List α → (Nat → Prop) → World → Prop) (Jx : Exit → List α → (Nat → Prop) → World → Prop) (xs : List α) (A : World) : Exit → Env → World → Prop
  | .normal, _, B => ∃ F', J xs F' B ∧ KeepsG F F' A B
  | .ret, _, B => ∃ F', Jx .ret xs F' B ∧ KeepsG F F' A B
  | .exit id, _, B => ∃ F', Jx (.exit id) xs F' B ∧ KeepsG F F' A B
  | _, _, _ => False
theorem zfd {α : Type} {S : Sig} (hS : SigOk S) (hr : S.r = none) {f : Operand} {ps : Array Tmp} {assign body : Code} {E : Env} {w : World} {Q : Exit → Env → World → Prop}
    {gf : Nat} {lb : Array Value} (hg : opd E f = some (.func (.func gf) #[] lb)) (hok : zbQ S gf = true)
    {xs : List α} {W0 : World} {Rd Ow : Nat → Prop} {St : List α → List Value → World → Prop} (hI : zlx S.P gf lb.toList xs W0 Rd Ow St) (hW0 : W0.heap.size ≤ w.heap.size) (hRd : ∀ k, Rd k ∨ Ow k → k < W0.heap.size ∧ w.heap[k]? = W0.heap[k]?)
    (hps : ∀ pre vs W, St pre vs W → vs.length = ps.size) (hpn : ∀ p ∈ ps.toList, p < S.n)
    (F0 : Nat → Prop) (J : List α → (Nat → Prop) → World → Prop) (Jx : Exit → List α → (Nat → Prop) → World → Prop) (hRF : ∀ k, Rd k → ¬ F0 k)
    (hJ : JG w.heap.size Ow J) (hJx : ∀ ex, JG w.heap.size Ow (Jx ex)) (h0 : J [] F0 w)
    (hround : ∀ (l : Nat) (pre : List α) (x : α) (vs : List Value) (F : Nat → Prop) (W : World), w.heap.size ≤ l → (pre ++ [x]) <+: xs → J pre F W → St (pre ++ [x]) vs W → ¬ F l → (∃ lo, W.heap[l]? = some (.loop lo)) →
      wpE (sr S l) assign ⟨setL ps.toList vs E.vs, []⟩ W fun ex E1 W1 => ex = .normal ∧ ∃ F1, KeepsG F F1 W W1 ∧ J pre F1 W1 ∧
        ∀ o W2, W2 = W1.putObj l o → J pre F1 W2 → wpE (sr S l) body E1 W2 (zsx F1 J Jx (pre ++ [x]) W2))
    (hdone : ∀ D F W, w.heap.size ≤ D → ¬ F D → J xs F W → W.heap[D]? = some (.deferred (some [])) → Q .normal ⟨E.vs, { target := .collected D, args := #[] } :: E.ds⟩ W)
    (hstop : ∀ D ex pre F W, w.heap.size ≤ D → ¬ F D → pre <+: xs → Jx ex pre F W → W.heap[D]? = some (.deferred (some [])) → Q ex ⟨E.vs, { target := .collected D, args := #[] } :: E.ds⟩ W) :
    zkK S f ps assign body E w Q := by
  intro a ha
  have hcall : ∀ args w, (callFunc gf args).run S.P w = .ok (.enter gf args) w := by
    simp only [zbQ, Bool.and_eq_true, Nat.ble_eq, Nat.blt_eq] at hok
    exact fun args w => hS.call gf hok.1.1 hok.1.2 hok.2 args w
  refine wpIn_rangeFunc ?_
  intro fn hfn
  have hro : (FR S.r).round = none := hr
  rw [hro]
  obtain ⟨rec, hrec⟩ : ∃ rec : LoopState → Option Code → Loop, rec = fun st pe => { state := st, pending := pe, fn, tmps := a.tmps, params := ps, assign, body, defers := w.heap.size } := ⟨_, rfl⟩
  obtain ⟨W1, hW1⟩ : ∃ W1, (w.alloc (.deferred (some []))).alloc (.loop (rec .ready none)) = W1 := ⟨_, rfl⟩
  have hK0 := hnew w (.deferred (some []))
  have hK1 : W1.heap[w.heap.size]? = some (.deferred (some [])) := by rw [← hW1]; exact hold _ hK0
  have hL1 : W1.heap[w.heap.size + 1]? = some (.loop (rec .ready none)) := by
    rw [← hW1]; have := hnew (w.alloc (.deferred (some []))) (.loop (rec .ready none)); rwa [World.size_alloc] at this
  have hs1 : W1.heap.size = w.heap.size + 2 := by rw [← hW1]; simp
  have hst1 : Below w.heap.size w W1 := by
    rw [← hW1]; exact ((Below.refl _ w).alloc (Nat.le_refl _) _).alloc (by simp) _
  have hJ1 := hJ.step _ _ _ _ h0 (.below hst1)
  have hOl : ∀ k, w.heap.size ≤ k → ¬ Ow k := fun k hk ho => by have := (hRd k (.inr ho)).1; omega
  have hFl : ∀ k, F0 k → k < w.heap.size := fun k hk => (hJ.lt _ _ _ k h0 hk).1
  refine ⟨w.heap.size + 1, [{ target := .collected w.heap.size, args := #[] }], W1, { target := .fn (.func gf) lb, args := #[.func (.yield (w.heap.size + 1)) #[] #[]] }, W1, gf,
    #[.func (.yield (w.heap.size + 1)) #[] #[]] ++ lb, W1, ?_, ?_, fun _ _ => trivial, ?_, fun h => by simp [FR] at h, ?_⟩
  · rw [← hW1, hrec]; exact run_enterLoop_outer _ _ _ _ _
  · have hg' := ha.eval hg
    simp only [resolve, hg']
    simp [go_sem]
  · simp [invoke, go_sem, hcall]
  · have hargs : #[Value.func (.yield (w.heap.size + 1)) #[] #[]] ++ lb = (Value.func (.yield (w.heap.size + 1)) #[] #[] :: lb.toList).toArray := by rw [← Array.toList_inj]; simp
    rw [hargs]
    have book : ∀ {σ : Type} {K : σ → (Nat → Prop) → World → Prop} (lo : Loop), JG w.heap.size Ow K → JG W1.heap.size Ow (fun s F W => K s F W ∧ W.heap[w.heap.size + 1]? = some (.loop lo) ∧ W.heap[w.heap.size]? = some (.deferred (some [])) ∧ ¬ F (w.heap.size + 1) ∧ ¬ F w.heap.size) := by
      intro σ K lo hK
      refine ⟨fun s F A B ⟨hk, hl, hd, hf1, hf2⟩ hs => ?_, fun s F A k ⟨hk, _⟩ hf => hK.lt s F A k hk hf⟩
      exact ⟨hK.step s F A B hk (hs.mono (by omega)), (hs.same _ (hlt hl) (.inl ⟨by omega, hOl _ (by omega)⟩)).trans hl, (hs.same _ (hlt hd) (.inl ⟨by omega, hOl _ (by omega)⟩)).trans hd, hf1, hf2⟩
    have hcalls := hI (w.heap.size + 1) F0 (fun pre F W => J pre F W ∧ W.heap[w.heap.size + 1]? = some (.loop (rec .ready none)) ∧ W.heap[w.heap.size]? = some (.deferred (some [])) ∧ ¬ F (w.heap.size + 1) ∧ ¬ F w.heap.size)
      (fun pre F W => ∃ ex c, ((ex = .ret ∧ c = .ret) ∨ ∃ id, ex = .exit id ∧ c = .exit id) ∧ Jx ex pre F W ∧ W.heap[w.heap.size + 1]? = some (.loop (rec .done (some c))) ∧ W.heap[w.heap.size]? = some (.deferred (some [])) ∧ ¬ F (w.heap.size + 1) ∧ ¬ F w.heap.size)
      W1 (by omega) (fun k hk => by
        obtain ⟨h1, h2⟩ := hRd k hk
        rw [← h2]
        exact hst1.block k (by omega)) hRF (book _ hJ)
      ⟨fun s F A B ⟨ex, c, hc, hrest⟩ hs => ⟨ex, c, hc, (book (rec .done (some c)) (hJx ex)).step s F A B hrest hs⟩,
       fun s F A k ⟨ex, c, hc, hrest⟩ hf => (hJx ex).lt s F A k hrest.1 hf⟩ ?_ ⟨hJ1, hL1, hK1, fun h => by have := hFl _ h; omega, fun h => by have := hFl _ h; omega⟩
    · refine zdZ (hcalls.mono ?_)
      rintro e W2 ⟨⟨v, rfl⟩, (⟨F, hj, hl, hk, hf1, hf2⟩ | ⟨pre, F, hpre, ex, c, hc, hj, hl, hk, hf1, hf2⟩)⟩
      · have hj2 := hJ.step _ _ _ _ hj (StepG.put (Ow := Ow) (o := .loop (rec .exhausted none)) (n0 := w.heap.size) (l := w.heap.size + 1) (by omega) hf1)
        refine ⟨none, _, by have := run_endLoop (P := S.P) hl (by rw [hrec]; simp); rw [hrec] at this; exact this, ?_⟩
        rw [hrec] at hj2
        exact ⟨⟨E.vs, { target := .collected w.heap.size, args := #[] } :: E.ds⟩, ⟨ha.size, by simp [ha.defers], ha.val⟩, hdone w.heap.size F _ (Nat.le_refl _) hf2 hj2 ((zah (by omega)).trans hk)⟩
      · have hj2 := (hJx ex).step _ _ _ _ hj (StepG.put (Ow := Ow) (o := .loop (rec .exhausted (some c))) (n0 := w.heap.size) (l := w.heap.size + 1) (by omega) hf1)
        refine ⟨some c, _, by have := run_endLoop (P := S.P) hl (by rw [hrec]; simp); rw [hrec] at this; exact this, ?_⟩
        rw [hrec] at hj2
        have hq := hstop w.heap.size ex pre F _ (Nat.le_refl _) hf2 hpre hj2 ((zah (by omega)).trans hk)
        rcases hc with ⟨rfl, rfl⟩ | ⟨id, rfl, rfl⟩
        · exact wpIn_ret ⟨⟨E.vs, { target := .collected w.heap.size, args := #[] } :: E.ds⟩, ⟨ha.size, by simp [ha.defers], ha.val⟩, hq⟩
        · exact wpIn_exit ⟨⟨E.vs, { target := .collected w.heap.size, args := #[] } :: E.ds⟩, ⟨ha.size, by simp [ha.defers], ha.val⟩, hq⟩
    · rintro pre x vs F W ⟨hj, hl, hk, hf1, hf2⟩ hst0 hpre
      have hy := run_yield (P := S.P) (args := vs.toArray) hl (by rw [hrec]; simpa using hps _ _ _ hst0)
      rw [hrec] at hy
      refine ⟨fn, _, assign, body, hy, zdi (r := none) (n := NN) (roundIn_of_wpIn (F := FR none) trivial ?_)⟩
      have hag : Agrees (sr S (w.heap.size + 1)) { tmps := (ps.zip vs.toArray).foldl (fun t (p, v) => t.setIfInBounds p v) a.tmps, defers := [] } ⟨setL ps.toList vs E.vs, []⟩ := by
        have h1 : Agrees (sr S (w.heap.size + 1)) { a with defers := [] } ⟨E.vs, []⟩ := ⟨ha.size, rfl, ha.val⟩
        have h2 := zdd ps.toList vs _ _ h1 hpn
        have e : (ps.zip vs.toArray).foldl (fun t (p, v) => t.setIfInBounds p v) a.tmps = (ps.toList.zip vs).foldl (fun t (p, v) => t.setIfInBounds p v) a.tmps := by
          rw [← Array.foldl_toList]; simp
        rw [e]; exact h2
      have hw := za5 (zkS hS _) assign _ _ W _ hag (hround (w.heap.size + 1) pre x vs F W (by omega) hpre hj hst0 hf1 ⟨_, hl⟩)
      refine wpIn_mono hw ?_
      rintro ex a1 Wa ⟨E1, hag1, rfl, F1, hk1, hj1, hbody⟩
      have hla := (hk1.same _ (hlt hl) hf1).trans hl
      have hka := (hk1.same _ (hlt hk) hf2).trans hk
      have hfa1 : ¬ F1 (w.heap.size + 1) := fun h => by rcases hk1.fp _ h with h | h; exact hf1 h; have := hlt hl; omega
      have hfa2 : ¬ F1 w.heap.size := fun h => by rcases hk1.fp _ h with h | h; exact hf2 h; have := hlt hk; omega
      refine ⟨_, run_beginRound hla (by rw [hrec]), ?_⟩
      have hst : StepG w.heap.size Ow F1 Wa (Wa.putObj (w.heap.size + 1) (.loop { rec .ready none with state := .busy })) := .put (by omega) hfa1 _
      have hj2 := hJ.step _ _ _ _ hj1 hst
      have hw2 := za5 (zkS hS _) body _ _ _ _ hag1 (hbody _ _ rfl hj2)
      refine wpIn_mono hw2 ?_
      have hl2 : (Wa.putObj (w.heap.size + 1) (.loop { rec .ready none with state := .busy })).heap[w.heap.size + 1]? = some (.loop { rec .ready none with state := .busy }) := zcU hla
      have hk2 : (Wa.putObj (w.heap.size + 1) (.loop { rec .ready none with state := .busy })).heap[w.heap.size]? = some (.deferred (some [])) := (zah (by omega)).trans hka
      have fin : ∀ (jump : Option Code) (F3 : Nat → Prop) (W3 : World), KeepsG F1 F3 (Wa.putObj (w.heap.size + 1) (.loop { rec .ready none with state := .busy })) W3 →
          (Instr.endRound (w.heap.size + 1) jump).run S.P W3 = .ok (.bool jump.isNone) (W3.putObj (w.heap.size + 1) (.loop (rec (if jump.isNone then .ready else .done) jump))) ∧
          (W3.putObj (w.heap.size + 1) (.loop (rec (if jump.isNone then .ready else .done) jump))).heap[w.heap.size + 1]? = some (.loop (rec (if jump.isNone then .ready else .done) jump)) ∧
          (W3.putObj (w.heap.size + 1) (.loop (rec (if jump.isNone then .ready else .done) jump))).heap[w.heap.size]? = some (.deferred (some [])) ∧
          StepG w.heap.size Ow F3 W3 (W3.putObj (w.heap.size + 1) (.loop (rec (if jump.isNone then .ready else .done) jump))) ∧ ¬ F3 (w.heap.size + 1) ∧ ¬ F3 w.heap.size := fun jump F3 W3 hk3 => by
        have hl3 := (hk3.same _ (hlt hl2) hfa1).trans hl2
        have hd3 := (hk3.same _ (hlt hk2) hfa2).trans hk2
        have hf31 : ¬ F3 (w.heap.size + 1) := fun h => by rcases hk3.fp _ h with h | h; exact hfa1 h; have := hlt hl2; omega
        have hf32 : ¬ F3 w.heap.size := fun h => by rcases hk3.fp _ h with h | h; exact hfa2 h; have := hlt hk2; omega
        have := run_endRound (P := S.P) jump hl3
        rw [hrec] at this ⊢
        exact ⟨this, zcU hl3, (zah (by omega)).trans hd3, .put (by omega) hf31 _, hf31, hf32⟩
      rintro e a3 W3 ⟨E3, _, hq⟩
      cases e with
      | normal =>
        obtain ⟨F3, hj3, hk3⟩ := hq
        obtain ⟨hr3, hl4, hk4, hs3, hf31, hf32⟩ := fin none F3 W3 hk3
        have hj4 := hJ.step _ _ _ _ hj3 hs3
        refine ⟨_, _, hr3, .inl ⟨rfl, F3, ⟨hj4, hl4, hk4, hf31, hf32⟩, ?_⟩⟩
        refine ⟨hs3.os.trans (hk3.os.trans hk1.os), hs3.tape.trans (hk3.tape.trans hk1.tape), hs3.output.trans (hk3.output.trans hk1.output), ?_, fun k hk5 hf5 => ?_, fun k hk5 => ?_⟩
        · have h1 := hk1.size; have h2 := hst.size; have h3 := hk3.size; have h4 := hs3.size; omega
        · by_cases hkl : k = w.heap.size + 1
          · subst hkl; rw [hl4, hl]; rfl
          · have h1 : ¬ F1 k := fun h => by rcases hk1.fp _ h with h | h; exact hf5 h; omega
            have h2 := hk1.size; have h3 := hst.size
            rw [zah hkl, hk3.same k (by omega) h1, zah hkl]
            exact hk1.same k hk5 hf5
        · rcases hk3.fp _ hk5 with h2 | h2
          · exact hk1.fp _ h2
          · have h3 := hk1.size; have h4 := hst.size; exact .inr (by omega)
      | ret =>
        obtain ⟨F3, hj3, hk3⟩ := hq
        obtain ⟨hr3, hl4, hk4, hs3, hf31, hf32⟩ := fin (some .ret) F3 W3 hk3
        have hj4 := (hJx .ret).step _ _ _ _ hj3 hs3
        exact ⟨_, _, hr3, .inr ⟨rfl, F3, .ret, .ret, .inl ⟨rfl, rfl⟩, hj4, hl4, hk4, hf31, hf32⟩⟩
      | exit id =>
        obtain ⟨F3, hj3, hk3⟩ := hq
        obtain ⟨hr3, hl4, hk4, hs3, hf31, hf32⟩ := fin (some (.exit id)) F3 W3 hk3
        have hj4 := (hJx (.exit id)).step _ _ _ _ hj3 hs3
        exact ⟨_, _, hr3, .inr ⟨rfl, F3, .exit id, .exit id, .inr ⟨id, rfl, rfl⟩, hj4, hl4, hk4, hf31, hf32⟩⟩
      | goto t => exact hq.elim
      | panic ch => exact hq.elim
      | outgrown => exact hq.elim
end Go.Vc
namespace Go.Proofs.YtkpkdmipjinoaaaGreatDoor
open Go.Vc Go.RowKit Go.Sei
def s64 (n:Nat):Value := .int .u64 (n:Nat)
def s32 (n:Nat):Value := .int .u32 (n:Nat)
theorem bvN {a:Nat} (h:a<2^64):(BitVec.ofInt 64 (a:Int)).toNat=a:=by
 rw [BitVec.toNat_ofInt];have:((a:Int)%((2^64:Nat):Int))=(a:Int):=Int.emod_eq_of_lt (by omega) (by omega);rw [this];rfl
theorem w64 {a:Int} (h:0<=a/\a<=18446744073709551615):IntKind.u64.wrap a=a:=zfo h
theorem zbY {a b:Nat} (ha:a<2^64) (hb:b<2^64):IntKind.u64.wrap ((BitVec.ofInt IntKind.u64.bits (a:Int)&&&BitVec.ofInt IntKind.u64.bits (b:Int)).toNat:Int)=((a&&&b:Nat):Int):=by
 show IntKind.u64.wrap ((BitVec.ofInt 64 (a:Int)&&&BitVec.ofInt 64 (b:Int)).toNat:Int)=_;rw [BitVec.toNat_and,bvN ha,bvN hb];have:a&&&b<=a:=Nat.and_le_left;exact w64 (by omega)
theorem zcA {a b:Nat} (ha:a<2^64) (hb:b<2^64):IntKind.u64.wrap ((BitVec.ofInt IntKind.u64.bits (a:Int)|||BitVec.ofInt IntKind.u64.bits (b:Int)).toNat:Int)=((a|||b:Nat):Int):=by
 show IntKind.u64.wrap ((BitVec.ofInt 64 (a:Int)|||BitVec.ofInt 64 (b:Int)).toNat:Int)=_;rw [BitVec.toNat_or,bvN ha,bvN hb];have:a|||b<2^64:=Nat.or_lt_two_pow ha hb;exact w64 (by omega)
def zco (a b:Nat):Nat:=a&&&(18446744073709551615-b)
theorem zdU {a b:Nat} (ha:a<2^64) (hb:b<2^64):IntKind.u64.wrap ((BitVec.ofInt IntKind.u64.bits (a:Int) &&& ~~~ BitVec.ofInt IntKind.u64.bits (b:Int)).toNat:Int)=((zco a b:Nat):Int):=by
 show IntKind.u64.wrap ((BitVec.ofInt 64 (a:Int) &&& ~~~ BitVec.ofInt 64 (b:Int)).toNat:Int)=_;rw [BitVec.toNat_and,BitVec.toNat_not,bvN ha,bvN hb];have e:2^64-1-b=18446744073709551615-b:=by omega
 rw [e];have:a&&&(18446744073709551615-b)<=a:=Nat.and_le_left;unfold zco;exact w64 (by omega)
theorem zhE {a b:Nat} (ha:a<2^64):zco a b<2^64:=by
 have:zco a b<=a:=Nat.and_le_left;omega
theorem zga {a b i:Nat} (hb:b<2^64) (hi:i<64):(zco a b).testBit i=(a.testBit i && !b.testBit i):=by
 unfold zco;rw [Nat.testBit_and,show 18446744073709551615-b=2^64-(b+1) by omega,Nat.testBit_two_pow_sub_succ hb];simp [hi]
theorem zbX {e:Nat} (he:e<64):IntKind.u64.wrap ((1:Int)*2^(min (Int.toNat (e:Int)) IntKind.u64.bits))=((2^e:Nat):Int):=by
 have h64:2^e<2^64:=Nat.pow_lt_pow_right (by decide) he;have e1:min (Int.toNat (e:Int)) IntKind.u64.bits=e:=by
  rw [Int.toNat_natCast];show min e 64=_;omega
 rw [e1,Int.one_mul];have e2:(2:Int)^e=((2^e:Nat):Int):=by simp
 rw [e2];exact w64 ⟨Int.natCast_nonneg _,Int.ofNat_le.2 (show 2^e<=18446744073709551615 by omega)⟩
theorem zg8 {a k:Nat} (hk:k<=64):((a:Nat):Int).fdiv (2^(min (Int.toNat (k:Int)) IntKind.u64.bits))=((a/2^k:Nat):Int):=by
 rw [Int.toNat_natCast,show min k IntKind.u64.bits=k from Nat.min_eq_left hk,Int.fdiv_eq_ediv_of_nonneg _ (Int.pow_nonneg (by decide)),Int.natCast_ediv,Int.natCast_pow];rfl
theorem zjJ {a k:Nat}:(a/2^k)&&&1=if a.testBit k then 1 else 0:=by
 rw [Nat.and_one_is_mod,Nat.testBit_eq_decide_div_mod_eq];by_cases h:a/2^k%2=1
 ·rw [h];rfl
 ·rw [if_neg (by simpa using h)];omega
theorem zaN {k:Nat} (h:k<64):2^k<2^64:=Nat.pow_lt_pow_right (by decide) h
theorem w32 {a:Int} (h:0<=a/\a<=4294967295):IntKind.u32.wrap a=a:=by
 unfold IntKind.wrap;simp only [IntKind.bits,IntKind.signed,Bool.false_and,Bool.false_eq_true,if_false];omega
theorem zsv {a:Nat} (h:a<2^32):(BitVec.ofInt 32 (a:Int)).toNat=a:=by
 rw [BitVec.toNat_ofInt];have:((a:Int)%((2^32:Nat):Int))=(a:Int):=Int.emod_eq_of_lt (by omega) (by omega);rw [this];rfl
theorem zlL {a b:Nat} (ha:a<2^32) (hb:b<2^32):IntKind.u32.wrap ((BitVec.ofInt IntKind.u32.bits (a:Int)&&&BitVec.ofInt IntKind.u32.bits (b:Int)).toNat:Int)=((a&&&b:Nat):Int):=by
 show IntKind.u32.wrap ((BitVec.ofInt 32 (a:Int)&&&BitVec.ofInt 32 (b:Int)).toNat:Int)=_;rw [BitVec.toNat_and,zsv ha,zsv hb];have:a&&&b<=a:=Nat.and_le_left;exact w32 (by omega)
theorem zpD {e:Nat} (he:e<32):IntKind.u32.wrap ((1:Int)*2^(min (Int.toNat (e:Int)) IntKind.u32.bits))=((2^e:Nat):Int):=by
 have h64:2^e<2^32:=Nat.pow_lt_pow_right (by decide) he;have e1:min (Int.toNat (e:Int)) IntKind.u32.bits=e:=by
  rw [Int.toNat_natCast];show min e 32=_;omega
 rw [e1,Int.one_mul];have e2:(2:Int)^e=((2^e:Nat):Int):=by simp
 rw [e2];exact w32 ⟨Int.natCast_nonneg _,Int.ofNat_le.2 (show 2^e<=4294967295 by omega)⟩
def zkQ:List UInt8:=[0,1,56,2,57,49,28,3,61,58,42,50,38,29,17,4,62,47,59,36,45,43,51,22,53,39,33,30,24,18,12,5,63,55,48,27,60,41,37,16,46,35,44,21,52,32,23,11,54,26,40,15,34,20,31,10,25,14,19,9,13,8,7,6]
def zkR:List UInt8:=[0,1,28,2,29,14,24,3,30,22,20,15,25,17,4,8,31,27,13,23,21,19,16,7,26,12,18,6,11,5,10,9]
def Tz64M (X:World):Prop:=zav X ⟨5,0,none⟩ (zkQ.map u8)
def Tz32M (X:World):Prop:=zav X ⟨7,0,none⟩ (zkR.map u8)
theorem Tz64M.below {w w2:World} (h:Tz64M w) (hb:Bw w w2):Tz64M w2:=zar hb h
theorem Tz32M.below {w w2:World} (h:Tz32M w) (hb:Bw w w2):Tz32M w2:=zar hb h
theorem znY {k:Nat} (hk:k<64):2^k*285870213051353865%18446744073709551616/2^58<64/\zkQ[2^k*285870213051353865%18446744073709551616/2^58]?=some (UInt8.ofNat k):=by
 have h:(List.range 64).all (fun k=>decide (2^k*285870213051353865%18446744073709551616/2^58<64)&&decide (zkQ[2^k*285870213051353865%18446744073709551616/2^58]?=some (UInt8.ofNat k)))=true:=by kernel_rfl
 have h1:=List.all_eq_true.1 h k (List.mem_range.2 hk);rw [bAT,dE,dE] at h1;exact h1
theorem znZ {k:Nat} (hk:k<32):2^k*125613361%4294967296/2^27<32/\zkR[2^k*125613361%4294967296/2^27]?=some (UInt8.ofNat k):=by
 have h:(List.range 32).all (fun k=>decide (2^k*125613361%4294967296/2^27<32)&&decide (zkR[2^k*125613361%4294967296/2^27]?=some (UInt8.ofNat k)))=true:=by kernel_rfl
 have h1:=List.all_eq_true.1 h k (List.mem_range.2 hk);rw [bAT,dE,dE] at h1;exact h1
theorem zpe {s:Nat} {w:World} (hT:Tz64M w) (h0:s≠0) (h:s<2^64):Calls Tryz.prog 208 #[s64 s] w fun e w'=>e = .returned (i64 (ctz s:Nat))/\w=w':=by
 refine cofE 14 [s64 s] Tryz.func208 ?_;obtain⟨_,_,h2,h3⟩:=zbE h0 h;have hp:=zaN h3;obtain⟨t1,t2⟩:=znY h3;refine brN (decide_eq_false (fun e=>h0 (by omega))) ?_;refine⟨((2^64-s:Nat):Int),by unfold IntKind.wrap;simp only [IntKind.bits,IntKind.signed,Bool.false_and,Bool.false_eq_true,if_false];omega,?_⟩;refine⟨((2^ctz s:Nat):Int),(zbY (a:=s) (b:=2^64-s) h (by omega)).trans (by rw [h2]),?_⟩;refine⟨((2^ctz s*285870213051353865%18446744073709551616:Nat):Int),by
  have e:(((2^ctz s:Nat):Int)*285870213051353865)=((2^ctz s*285870213051353865:Nat):Int):=by rw [Int.natCast_mul];rfl
  rw [e];generalize 2^ctz s*285870213051353865=n;unfold IntKind.wrap;simp only [IntKind.bits,IntKind.signed,Bool.false_and,Bool.false_eq_true,if_false];omega,?_⟩
 refine⟨by decide,_,zg8 (k:=58) (by decide),?_⟩;refine⟨_,rfl,t1,?_⟩;have hv:(zkQ.map u8)[2^ctz s*285870213051353865%18446744073709551616/2^58]?=some (u8 (UInt8.ofNat (ctz s))):=by rw [List.getElem?_map,t2];rfl
 refine⟨u8 (UInt8.ofNat (ctz s)),by rw [Nat.mul_one];exact zac hT hv,?_⟩;have e:(UInt8.ofNat (ctz s)).toNat=ctz s:=by rw [UInt8.toNat_ofNat'];omega
 exact⟨(ctz s:Int),by rw [e];exact zai (by omega),rfl,rfl⟩
theorem zgX {s:Nat} {w:World}:Calls Tryz.prog 149 #[s64 s] w fun e w'=>e = .returned (.func (.func 207) #[] #[.pointer (some ⟨w.heap.size,0,none⟩)])/\w'=w.alloc (.cells #[s64 s] 37):=by
 refine cofE 4 [s64 s] Tryz.func149 ?_;exact⟨rfl,rfl⟩
def StN (pre:List Nat) (vs:List Value) (W:World):Prop:=∃ c,pre.getLast?=some c/\vs=[i64 (c:Nat)]
theorem zbZ {X Y:World} (h:Tz64M X) (hs:Y.heap[5]?=X.heap[5]?):Tz64M Y:=zaA hs h
theorem zcB {X:World} (h:Tz64M X):5<X.heap.size:=World.block_lt_of_cell? X _ (zgY h)
def RdE (bx:Nat) (k:Nat):Prop:=k=bx\/k=5
theorem zjA {bx s:Nat} {W0:World} (hbx:W0.heap[bx]?=some (.cells #[s64 s] 37 (0,0))) (hs:s<2^64) (hT:Tz64M W0) :
  zlx Tryz.prog 207 [At0 bx] (els s) W0 (RdE bx) (fun _=>False) StN:=by
 intro yl F0 J Jx W hsz hrd hrf hJ hJx hy h0;have hbW:W.heap[bx]?=some (.cells #[s64 s] 37 (0,0)):=(hrd bx (.inl (.inl rfl))).trans hbx;have hTW:Tz64M W:=zbZ hT (hrd _ (.inl (.inr rfl)));have hgf:¬ F0 5:=hrf _ (.inr rfl);refine cofE 16 [.func (.yield yl) #[] #[],At0 bx] Tryz.func207 ?_;refine⟨_,zac (zaa hbW) (i:=0) rfl,?_⟩;refine⟨List Nat×Nat,fun q=>⟨[(0,.func (.yield yl) #[] #[]),(3,s64 q.2)],[]⟩,
  fun q X=>∃ F,J q.1 F X/\els s=q.1++els q.2/\q.2<2^64/\Tz64M X/\¬ F 5,fun q=>q.2,([],s),
  (cvE rfl rfl),⟨F0,h0,rfl,hs,hTW,hgf⟩,?_⟩
 clear hbW hTW hgf h0;rintro⟨pre,r⟩ X ⟨F,hI,hxs,hr,hTX,hgX⟩;dsimp only at hI hxs hr ⊢;refine biE (fun hc=>?_) fun hc=>?_
 ·have hc:(!decide ((r:Int)=0))=true:=hc;have hc:¬ (r:Int)=0:=by simpa using hc
  have hr0:r≠0:=by omega
  obtain⟨e1,e2,_,_⟩:=zbE hr0 hr;refine cmo (zpe hTX hr0 hr) ?_;rintro e _ ⟨rfl,rfl⟩;have hpre:(pre++[ctz r]) <+: els s:=⟨els (rest r),by rw [hxs,e1];simp⟩;refine YieldR.mono (hy pre (ctz r) [i64 (ctz r:Nat)] F X hI ⟨ctz r,by simp,rfl⟩ hpre) ?_;rintro v V (⟨rfl,F',hJV,hKV⟩ | ⟨rfl,F',hJV⟩)
  ·refine brF ?_;have hXs:=hKV.size;have hgl:=zcB hTX;have hTV:Tz64M V:=zbZ hTX (hKV.same _ hgl hgX);have hgV:¬ F' 5:=fun h=>by
    rcases hKV.fp _ h with h3 | h3
    ·exact hgX h3
    ·omega
   refine⟨((r-1:Nat):Int),(zfo (a:=(r:Int)-1) (by omega)).trans (by omega),?_⟩;refine⟨((rest r:Nat):Int),zbY (a:=r) (b:=r-1) hr (by omega),?_⟩;exact⟨(pre++[ctz r],rest r),(cvE rfl rfl),⟨F',hJV,by rw [hxs,e1];simp,by show rest r<_;omega,hTV,hgV⟩,e2⟩
  ·refine brT ?_;exact⟨⟨_,rfl⟩,.inr ⟨_,F',hpre,hJV⟩⟩
 ·have hc:(!decide ((r:Int)=0))=false:=hc;have hc:(r:Int)=0:=by simpa using hc
  obtain rfl:r=0:=by omega
  refine⟨⟨_,rfl⟩,.inl ?_⟩;rw [hxs,zdu,List.append_nil];exact⟨F,hI⟩
theorem joG {σ:Type} {n0:Nat} {F:Nat->Prop} {J:σ->World->Prop} (hF:∀ k,F k->k<n0) (hn:∀ s A,J s A->n0<=A.heap.size) (hJ:∀ s A B,J s A->Below n0 A B->J s B) :
  JG n0 (fun _=>False) (fun s F' W=>F'=F/\J s W):=by
 refine⟨fun s F' A B ⟨e,h⟩ hs=>⟨e,hJ s A B h ⟨hs.os,hs.tape,hs.output,hs.size,fun k hk=>hs.same k (nL hk (hn s A h)) (.inl ⟨hk,fun h=>h⟩)⟩⟩,fun s F' A k ⟨e,h⟩ hk=>?_⟩;subst e;exact⟨nL (hF k hk) (hn s A h),fun h=>h⟩
theorem zb8 {n:Nat} {A B:World} (h:Below n A B) {g:Nat} {o:Obj} (hg:g<n) (f:A.heap[g]?=some o):B.heap[g]?=some o:=(h.block g hg).trans f
theorem zcJ {s:Nat} {w:World} (hs:s<2^64) (hT:Tz64M w):Calls Tryz.prog 79 #[s64 s] w fun e w' =>
  e = .returned (.tuple #[i64 ((els s).headD 0:Nat),.bool (!(els s).isEmpty)])/\Bw w w':=by
 refine cofM 9 [s64 s] (.c .p .p) Tryz.func79 ?_;obtain⟨L,hL⟩:=nm (w.heap.size);refine⟨Unit,fun _=>⟨[(0,s64 s),(2,At0 L),(3,At0 (L+1))],[]⟩,fun _ X=>X.heap[L]?=some (.cells #[i64 0] 3 (0,0))/\X.heap[L+1]?=some (.cells #[.bool false] 4 (0,0))/\X.heap.size=L+2/\Bw w X,?_,?_⟩
 ·have sz:=wz w (.cells #[i64 0] 3);refine⟨(),⟨.cons rfl (.cons (by rw [hL];rfl) (.cons (by rw [hL,<- sz];rfl) .nil)),rfl⟩,?_,?_,?_,?_⟩
  ·rw [hL];exact hold _ (hnew w _)
  ·have:=hnew (w.alloc (.cells #[i64 0] 3)) (.cells #[.bool false] 4);rw [sz,<- hL] at this;exact this
  ·have:=wz (w.alloc (.cells #[i64 0] 3)) (.cells #[.bool false] 4);rw [sz,<- hL] at this;exact this
  ·exact ((zba w _)).alloc (by simp) _
 rintro _ X ⟨f1,f2,sX,hbX⟩;refine cmo zgX ?_;rintro e W ⟨rfl,hW⟩;have hbW:Bw X W:=by rw [hW];exact (zba _ _)
 have fb:W.heap[X.heap.size]?=some (.cells #[s64 s] 37 (0,0)):=by rw [hW];exact hnew X _
 have sW:W.heap.size=L+3:=by rw [hW,wz,sX]
 have g1:=zab hbW f1;have g2:=zab hbW f2;have hbw:Bw w W:=zst hbX hbW;have hTW:=hT.below hbw;clear hW;refine zfd (sgOk _) rfl (lb := #[.pointer (some ⟨X.heap.size,0,none⟩)]) rfl rfl (zjA fb hs hTW) (Nat.le_refl _) (fun k hk=>⟨by rcases hk with (rfl | rfl) | h;exact hlt fb;exact zcB hTW;exact h.elim,rfl⟩) (fun pre vs W ⟨c,_,h⟩=>by rw [h];rfl) (by decide)
  (fun k=>k=L\/k=L+1) (fun pre F Y=>F=(fun k=>k=L\/k=L+1)/\pre=[]/\W.heap.size<=Y.heap.size/\Y.heap[L]?=some (.cells #[i64 0] 3 (0,0))/\Y.heap[L+1]?=some (.cells #[.bool false] 4 (0,0))/\Bw w Y)
  (fun ex pre F Y=>F=(fun k=>k=L\/k=L+1)/\ex = .ret/\W.heap.size<=Y.heap.size/\(∃ c,pre=[c]/\Y.heap[L]?=some (.cells #[i64 (c:Nat)] 3 (0,0)))/\Y.heap[L+1]?=some (.cells #[.bool true] 4 (0,0))/\Bw w Y)
  (fun k hk h=>by have:=zcB hT;rcases hk with rfl | rfl <;> omega)
  (joG (F:=fun k=>k=L\/k=L+1) (J:=fun (pre:List Nat) Y=>pre=[]/\W.heap.size<=Y.heap.size/\Y.heap[L]?=some (.cells #[i64 0] 3 (0,0))/\Y.heap[L+1]?=some (.cells #[.bool false] 4 (0,0))/\Bw w Y) (fun k h=>by omega) (fun s A h=>h.2.1) (fun pre A B ⟨h0,h1,h2,h3,h4⟩ hb=>⟨h0,Nat.le_trans h1 hb.size,zb8 hb (by omega) h2,zb8 hb (by omega) h3,h4.trans (hb.mono (by omega))⟩))
  (fun ex=>joG (F:=fun k=>k=L\/k=L+1) (J:=fun (pre:List Nat) Y=>ex = .ret/\W.heap.size<=Y.heap.size/\(∃ c,pre=[c]/\Y.heap[L]?=some (.cells #[i64 (c:Nat)] 3 (0,0)))/\Y.heap[L+1]?=some (.cells #[.bool true] 4 (0,0))/\Bw w Y) (fun k h=>by omega) (fun s A h=>h.2.1) (fun pre A B ⟨h0,h1,⟨c,hc,h2⟩,h3,h4⟩ hb=>⟨h0,Nat.le_trans h1 hb.size,⟨c,hc,zb8 hb (by omega) h2⟩,zb8 hb (by omega) h3,h4.trans (hb.mono (by omega))⟩))
  ⟨rfl,rfl,Nat.le_refl _,g1,g2,hbw⟩ ?_ ?_ ?_
 ·rintro yl pre x vs F V hyl hpre hJ ⟨x',hx',rfl⟩ hfy ⟨lo,hlo⟩;have hx':x=x':=by simpa using hx'
  subst hx';refine⟨rfl,F,KeepsG.refl _ _,hJ,?_⟩;rintro o V2 hV2 ⟨rfl,rfl,h1,h2,h3,h4⟩;refine zaq k3 h2 (o:=0) (v:=i64 (x:Nat)) rfl rfl (by show 0<1;decide) rfl fun Y fY gY sY=>?_;have h3':=(gY.block (L+1) (hlt h3) (by simp)).trans h3;refine zaq k4 h3' (o:=0) (v := .bool true) rfl rfl (by show 0<1;decide) rfl fun Z fZ gZ sZ=>?_;have fY':=(gZ.block L (hlt fY) (by simp)).trans fY;refine⟨_,⟨rfl,rfl,by omega,⟨x,rfl,fY'⟩,fZ,(h4.trans (zak gY (by omega) (by omega))).trans (zak gZ (by omega) (by omega))⟩,(KeepsG.grown (F:=fun k=>k=L\/k=L+1) gY (.inl rfl)).trans (KeepsG.grown gZ (.inr rfl))⟩
 ·rintro D F Y hD hfD ⟨_,h0,h1,h2,h3,h4⟩ hdef;refine zaq k3 h2 (o:=0) (v:=i64 0) rfl rfl (by show 0<1;decide) rfl fun Y1 fY gY sY=>?_;have h3':=(gY.block (L+1) (hlt h3) (by simp)).trans h3;refine zaq k4 h3' (o:=0) (v := .bool false) rfl rfl (by show 0<1;decide) rfl fun Z fZ gZ sZ=>?_;have fY':=(gZ.block L (hlt fY) (by simp)).trans fY;have hdef':=(gZ.block D (by rw [sY];exact hlt hdef) (by simp;omega)).trans ((gY.block D (hlt hdef) (by simp;omega)).trans hdef);refine⟨_,rfl,hdef',?_⟩;refine⟨i64 0,?_,.bool false,?_,?_,?_⟩
  ·exact zac (zaa ((zah (by omega)).trans fY')) (i:=0) rfl
  ·exact zac (zaa ((zah (by omega)).trans fZ)) (i:=0) rfl
  ·rw [h0];rfl
  ·exact zbl ((h4.trans (zak gY (by omega) (by omega))).trans (zak gZ (by omega) (by omega))) (by omega) _
 ·rintro D ex pre F Y hD hfD ⟨t,ht⟩ ⟨_,rfl,h1,⟨c,rfl,h2⟩,h3,h4⟩ hdef;refine⟨_,rfl,hdef,?_⟩;refine⟨i64 (c:Nat),?_,.bool true,?_,?_,?_⟩
  ·exact zac (zaa ((zah (by omega)).trans h2)) (i:=0) rfl
  ·exact zac (zaa ((zah (by omega)).trans h3)) (i:=0) rfl
  ·rw [<- ht];rfl
  ·exact zbl h4 (by omega) _
def zaM:Enc UInt8:=⟨fun b=>[u8 b],1,fun _=>rfl,by decide,fun a u hu=>by
 simp only [List.mem_cons,List.not_mem_nil,or_false] at hu;subst hu;rfl⟩
def allN (n:Int):Nat:=if n<1 then 0 else if 64<=n then 18446744073709551615 else 2^n.toNat-1
theorem zb9 (n:Int):allN n<2^64:=by
 unfold allN
 split
 ·decide
 split
 ·decide
 ·have:=zaN (k:=n.toNat) (by omega);omega
theorem zjN {n:Int} {w:World}:Calls Tryz.prog 83 #[i64 n] w fun e w'=>e = .returned (s64 (allN n))/\w=w':=by
 refine cofE 10 [i64 n] Tryz.func83 ?_;refine biE (fun h=>?_) fun h=>?_
 ·have h:n<1:=dT h;exact⟨by unfold allN;rw [if_pos h];rfl,rfl⟩
 ·have h:¬ n<1:=dF h;refine biE (fun h2=>?_) fun h2=>?_
  ·have h2:64<=n:=dT h2;exact⟨by unfold allN;rw [if_neg h,if_pos h2];rfl,rfl⟩
  ·have h2:¬ 64<=n:=dF h2;obtain⟨k,rfl⟩:∃ k:Nat,n=k:=⟨n.toNat,by omega⟩;have hk:k<64:=by omega
   have hp:=zaN hk;have hp0:=Nat.two_pow_pos k;refine⟨by omega,_,zbX hk,?_⟩;refine⟨((2^k-1:Nat):Int),?_,?_⟩
   ·generalize 2^k=m at hp hp0 ⊢;exact (w64 (a:=(m:Int)-1) (by omega)).trans (by omega)
   ·exact⟨by unfold allN;rw [if_neg h,if_neg h2];rfl,rfl⟩
def natE:Enc Nat:=⟨fun n=>[i64 (n:Nat)],1,fun _=>rfl,by decide,fun a u hu=>by
 simp only [List.mem_cons,List.not_mem_nil,or_false] at hu;subst hu;rfl⟩
theorem zgj (s:Nat):(els s).length<=64:=by
 have:=List.length_filter_le (fun i=>s.testBit i) (List.range 64);rw [List.length_range] at this;exact this
def zdh (to:Nat->Nat):List Value:=(List.range 48).map fun i=>s64 (to i)
def relC (r:RelD):List Value:=i64 r.n::zdh r.to
def WrdR (to:Nat->Nat):Prop:=∀ i,i<48->to i<2^64
theorem zcQ (to:Nat->Nat):(zdh to).length=48:=by unfold zdh;rw [List.length_map,List.length_range]
theorem zeg (to:Nat->Nat) {i:Nat} (h:i<48):(zdh to)[i]?=some (s64 (to i)):=by
 unfold zdh;rw [List.getElem?_map,List.getElem?_range h];rfl
theorem zae (r:RelD):(relC r).length=49:=by unfold relC;rw [List.length_cons,zcQ]
theorem zhl (r:RelD) {i:Nat} (h:i<48):(relC r)[1+i]?=some (s64 (r.to i)):=by
 unfold relC;rw [Nat.add_comm,List.getElem?_cons_succ,zeg _ h]
theorem zok (to:Nat->Nat) {i:Nat} (h:i<48) (v:Nat):(zdh to).set i (s64 v)=zdh (upd to i v):=by
 apply List.ext_getElem?;intro j;by_cases hj:j<48
 ·rw [zeg _ hj];by_cases e:i=j
  ·subst e;rw [List.getElem?_set_self (by rw [zcQ];exact h),zbo]
  ·rw [List.getElem?_set_ne e,zeg _ hj,zcN _ _ (fun h=>e h.symm)]
 ·rw [List.getElem?_eq_none (by rw [List.length_set,zcQ];omega),List.getElem?_eq_none (by rw [zcQ];omega)]
theorem zfs (r:RelD) {i:Nat} (h:i<48) (v:Nat):(relC r).set (1+i) (s64 v)=relC ⟨r.n,upd r.to i v⟩:=by
 unfold relC;rw [Nat.add_comm,List.set_cons_succ,zok _ h]
theorem zaD (r:RelD):(relC r).all Value.oneCell'=true:=by
 unfold relC zdh;rw [List.all_cons,List.all_map];rw [bAT,List.all_eq_true];exact⟨rfl,fun x _=>rfl⟩
theorem zkA {S:Sig} {g:Nat} {caps:Array Value} {vs:List Value} {w:World} {K:Value->World->Prop} {KP:List PanicEntry->World->Prop} {R:Ending->World->Prop} (hok:zbQ S g=true)
  (h:Calls S.P g (vs++caps.toList).toArray w R) (k:∀ e w',R e w'->∃ v,e = .returned v/\K v w'):zoX S (.func (.func g) #[] caps) vs w K KP:=by
 unfold zoX;dsimp only;rw [hok];exact CallR.mk h k
theorem zgt (n:Int):allM n=allN n:=rfl
theorem zkp (a b:Nat):zdL a b=zco a b:=rfl
section
variable {r:RelD} {w:World}
theorem zbp (hr:WrdR r.to):CB 68 #[.agg (relC r).toArray] w (.bool (okR r)):=by
 refine cofE 38 [.agg (relC r).toArray] Tryz.func68 ?_;have f0:=hnew w (.cells (relC r).toArray 40);have hb:Bw w (w.alloc (.cells (relC r).toArray 40)):=zba w _;obtain⟨X,hX⟩:=nm (w.alloc (.cells (relC r).toArray 40));have hX':w.alloc (.cells (Value.agg (relC r).toArray).cells 40)=X:=hX.symm;rw [<- hX] at f0 hb;have hn:X.cell? ⟨w.heap.size,0+0,none⟩=some (i64 r.n):=zac (zaa f0) (i:=0) rfl;have out:∀ b,okR r=b->(∀ h:Ending.returned (.bool b)=Ending.returned (.bool (okR r)),True):=fun _ _ _=>trivial;refine⟨i64 r.n,by rw [hX'];exact hn,?_⟩;rw [hX'];refine biE (fun h=>?_) fun h=>?_
 ·have h:r.n<0:=dT h;refine brT ?_;exact⟨rb (by unfold okR;rw [decide_eq_false (by omega)];rfl),hb⟩
 have h:¬ r.n<0:=dF h;refine⟨i64 r.n,hn,?_⟩;refine biE (fun h2=>?_) fun h2=>?_
 ·have h2:(48:Int)<r.n:=dT h2;exact⟨rb (by unfold okR;rw [decide_eq_false (show ¬ r.n<=48 by omega),Bool.false_and,Bool.and_false]),hb⟩
 have h2:¬ (48:Int)<r.n:=dF h2;have ok0:okR r=(List.range 48).all (zeh r):=by
  unfold okR;rw [decide_eq_true (by omega),decide_eq_true (by omega)];rfl
 rw [ok0];refine⟨i64 r.n,hn,?_⟩;refine cmo zjN ?_;rintro e _ ⟨rfl,rfl⟩;refine⟨zdh r.to,zcQ _,?_,hlt f0,?_⟩
 ·have:=zaF (n:=1) (m:=48) (zaa f0);have e:((relC r).toArray.toList.drop 1).take 48=zdh r.to:=by
   show (zdh r.to).take 48=_;rw [List.take_of_length_le (by rw [zcQ];exact Nat.le_refl _)]
  rw [e] at this;exact this
 refine⟨Nat,fun k=>⟨[(1,.pointer (some ⟨w.heap.size,0,none⟩)),(3,s64 (allN r.n)),(18,.agg (zdh r.to).toArray),(19,i64 (k:Nat))],[]⟩,fun k Y=>X=Y/\k<=48/\∀ i,i<k->zeh r i=true,fun k=>48-k,0,
  (cvE rfl rfl),⟨rfl,Nat.zero_le _,fun i hi=>by omega⟩,?_⟩
 rintro k _ ⟨rfl,hk,hall⟩;refine biE (fun hc=>?_) fun hc=>?_
 ·have hc:(k:Int)<48:=dT hc;have hk':k<48:=by omega
  refine⟨k,rfl,hk',?_⟩;refine zcR (by rw [Nat.mul_one];exact zeg _ hk') ?_;refine⟨_,zdU (hr k hk') (zb9 _),?_⟩;have no:zeh r k=false->(List.range 48).all (zeh r)=false:=fun h=>by
   rw [List.all_eq_false];exact⟨k,List.mem_range.2 hk',by rw [h];exact Bool.false_ne_true⟩
  refine biE (fun h3=>?_) fun h3=>?_
  ·have h3:(!decide (((zco (r.to k) (allN r.n):Nat):Int)=0))=true:=h3;have h3:¬ zdL (r.to k) (allM r.n)=0:=fun e=>by
    rw [zkp,zgt] at e;rw [e] at h3;exact absurd h3 (by decide)
   refine brT ?_;exact⟨rb (no (by unfold zeh;rw [decide_eq_false h3];rfl)).symm,hb⟩
  have h3:(!decide (((zco (r.to k) (allN r.n):Nat):Int)=0))=false:=h3;have h3:zdL (r.to k) (allM r.n)=0:=by
   have h4:decide (((zco (r.to k) (allN r.n):Nat):Int)=0)=true:=by simpa using h3
   exact Int.ofNat.inj (dT h4)
  refine⟨i64 r.n,hn,?_⟩;have next:zeh r k=true->∀ {K:Prop},(∀ k',k'=k+1->(∀ i,i<k'->zeh r i=true)->K)->K:=fun h K hK=>hK _ rfl fun i hi=>by
   by_cases e:i=k
   ·rw [e];exact h
   ·exact hall i (by omega)
  have fin:zeh r k=true->∃ s':Nat,s'=k+1/\(X=X/\s'<=48/\∀ i,i<s'->zeh r i=true):=fun h=>next h fun k' e h=>⟨k',e,rfl,by omega,h⟩
  refine biE (fun h4=>?_) fun h4=>?_
  ·have h4:r.n<=(k:Int):=dT h4;refine biE (fun h5=>?_) fun h5=>?_
   ·have h5:(!decide (((r.to k:Nat):Int)=0))=true:=h5;have h5:¬ r.to k=0:=fun e=>by
     rw [e] at h5;exact absurd h5 (by decide)
    exact⟨rb (no (by unfold zeh;rw [decide_eq_true h3,decide_eq_false (by omega),decide_eq_false h5];rfl)).symm,hb⟩
   ·have h5:(!decide (((r.to k:Nat):Int)=0))=false:=h5;have h5:r.to k=0:=by
     have h6:decide (((r.to k:Nat):Int)=0)=true:=(by simpa using h5);exact Int.ofNat.inj (dT h6)
    obtain⟨s',e,hs⟩:=fin (by unfold zeh;rw [decide_eq_true h3,decide_eq_true h5];simp);refine nxI (by omega) ?_;exact⟨s',⟨.cons rfl (.cons rfl (.cons rfl (.cons (by rw [e];rfl) .nil))),rfl⟩,hs,by show 48-s'<48-k;omega⟩
  ·have h4:¬ r.n<=(k:Int):=dF h4;refine brF ?_;obtain⟨s',e,hs⟩:=fin (by unfold zeh;rw [decide_eq_true h3,decide_eq_true (by omega)];rfl);refine nxI (by omega) ?_;exact⟨s',⟨.cons rfl (.cons rfl (.cons rfl (.cons (by rw [e];rfl) .nil))),rfl⟩,hs,by show 48-s'<48-k;omega⟩
 ·have hc:¬ (k:Int)<48:=dF hc;obtain rfl:k=48:=by omega
  refine⟨rb ?_,hb⟩;symm;rw [List.all_eq_true];exact fun i hi=>hall i (List.mem_range.1 hi)
theorem zjI {n g:Nat} {caps:Array Value} {row:Nat->Nat} (hn:n<=48) (hok:zbQ (sg 0) g=true) (hrow:∀ a X,a<n->Bw w X->Calls Tryz.prog g (i64 (a:Nat)::caps.toList).toArray X fun e Y=>e = .returned (s64 (row a))/\Bw X Y) :
  CB 80 #[i64 n,.func (.func g) #[] caps] w (.agg (relC (zb7 n row)).toArray):=by
 refine cofM 21 [i64 n,.func (.func g) #[] caps] (.s .p (.c .p .p)) Tryz.func80 ?_;obtain⟨L,hL⟩:=nm (w.heap.size);refine⟨Unit,fun _=>⟨[(0,i64 n),(1,.func (.func g) #[] caps),(4,At0 L),(5,At0 (L+1))],[]⟩,fun _ X=>X.heap[L]?=some (.cells (relC zax).toArray 40 (0,0))/\X.heap[L+1]?=some (.cells (relC ⟨n,fun _=>0⟩).toArray 40 (0,0))/\X.heap.size=L+2/\Bw w X,?_,?_⟩
 ·have h1:=hnew w (.cells (relC zax).toArray 40);have s1:=wz w (.cells (relC zax).toArray 40);have h2:=hnew (w.alloc (.cells (relC zax).toArray 40)) (.cells (relC zax).toArray 40);have s2:=wz (w.alloc (.cells (relC zax).toArray 40)) (.cells (relC zax).toArray 40);have b2:Bw w ((w.alloc (.cells (relC zax).toArray 40)).alloc (.cells (relC zax).toArray 40)):=((zba w _)).alloc (by simp) _;refine⟨relC ⟨n,fun _=>0⟩,rfl,?_⟩;refine zas (v := .agg (relC ⟨n,fun _=>0⟩).toArray) k40 h2 rfl rfl (zaD _) ?_;rw [s1] at h2 s2;refine⟨(),⟨.cons rfl (.cons rfl (.cons (by rw [hL];rfl) (.cons (by rw [hL,<- s1];rfl) .nil))),rfl⟩,?_,?_,?_,?_⟩
  ·rw [hL];exact (zap (by rw [s1];omega)).trans (hold _ h1)
  ·rw [hL,s1];exact zan h2
  ·rw [hL];simp
  ·exact zaj b2 (by omega) _
 rintro _ X ⟨f0,f1,sX,hbX⟩;refine⟨Nat,fun k=>⟨[(1,.func (.func g) #[] caps),(4,At0 L),(5,At0 (L+1)),(9,i64 n),(10,i64 (k:Nat))],[]⟩,fun k Y=>k<=n/\Y.heap[L]?=some (.cells (relC zax).toArray 40 (0,0))/\Y.heap[L+1]?=some (.cells (relC (⟨n,fun i=>if i<k then row i else 0⟩)).toArray 40 (0,0))/\Bw w Y,fun k=>n-k,0,
  (cvE rfl rfl),⟨Nat.zero_le _,f0,f1,hbX⟩,?_⟩
 clear f0 f1 sX hbX X;rintro k X ⟨hk,f0,f1,hbX⟩;refine biE (fun hc=>?_) fun hc=>?_
 ·have hc:(k:Int)<(n:Int):=dT hc;have hkn:k<n:=by omega
  refine zkA (S:=sg 21) hok (hrow k X hkn hbX) ?_;rintro e Y ⟨rfl,hbY⟩;refine⟨_,rfl,?_⟩;refine⟨k,rfl,by omega,?_⟩;have f1Y:=zab hbY f1;refine zaq k37 f1Y (o:=0+1+k*1) (v:=s64 (row k)) rfl rfl (by rw [zae];omega) rfl fun Z fZ gZ sZ=>?_;rw [Nat.zero_add,Nat.mul_one,zfs _ (by omega)] at fZ;refine nxI (by omega) ?_;refine⟨k+1,(cvE rfl rfl),⟨hkn,(gZ.block L (hlt (zab hbY f0)) (by simp)).trans (zab hbY f0),?_,((zst hbX hbY)).trans (zak gZ ((zst hbX hbY)).size (by omega))⟩,zdc (by omega)⟩;have e:upd (fun i=>if i<k then row i else 0) k (row k)=fun i=>if i<k+1 then row i else 0:=by
   funext i;by_cases e:i=k
   ·subst e;rw [zbo,if_pos (by omega)]
   ·rw [zcN _ _ e];by_cases h:i<k
    ·rw [if_pos h,if_pos (by omega)]
    ·rw [if_neg h,if_neg (by omega)]
  rw [<- e];exact fZ
 ·have hc:¬ (k:Int)<(n:Int):=dF hc;obtain rfl:k=n:=by omega
  refine⟨relC (zb7 k row),zae _,zaa f1,hlt f1,?_⟩;refine zas (v := .agg (relC (zb7 k row)).toArray) k40 f0 rfl rfl (zaD _) ?_;exact⟨relC (zb7 k row),zae _,zaa (zan f0),rfl,zaj hbX (by omega) _⟩
end
theorem zdF {X:World} {b:Nat} {r:RelD} (f:X.heap[b]?=some (.cells (relC r).toArray 40 (0,0))) {i:Nat} (h:i<48):X.cell? ⟨b,0+1+i*1,none⟩=some (s64 (r.to i)):=by
 rw [Nat.mul_one,Nat.add_assoc];exact zac (zaa f) (zhl r h)
theorem zbx {r:RelD} (h:okR r=true):0<=r.n/\r.n<=48/\∀ a,a<48->zco (r.to a) (allN r.n)=0/\((a:Int)<r.n\/r.to a=0):=by
 unfold okR at h;rw [bAT,bAT,dE,dE,List.all_eq_true] at h;refine⟨h.1,h.2.1,fun a ha=>?_⟩;have:=h.2.2 a (List.mem_range.2 ha);unfold zeh at this;rw [bAT,Bool.or_eq_true,dE,dE,dE] at this;exact this
theorem zhX {n:Int} (h0:0<=n) (h:n<=64) {i:Nat} (hi:i<64):(allN n).testBit i=decide ((i:Int)<n):=by
 unfold allN
 split
 ·rw [Nat.zero_testBit,decide_eq_false (by omega)]
 split
 ·rw [show 18446744073709551615=2^64-1 from rfl,Nat.testBit_two_pow_sub_one];rw [decide_eq_true hi,decide_eq_true (by omega)]
 ·rw [Nat.testBit_two_pow_sub_one];apply decide_eq_decide.2;omega
theorem zjf {r:RelD} (h:okR r=true) (hr:WrdR r.to) {a i:Nat} (ha:a<48) (hb:(r.to a).testBit i=true):(i:Int)<r.n/\(a:Int)<r.n:=by
 obtain⟨h0,h48,hall⟩:=zbx h;obtain⟨h1,h2⟩:=hall a ha;have hi:i<64:=by
  apply Nat.lt_of_not_le;intro hi;have:=Nat.testBit_lt_two_pow (nL (hr a ha) (Nat.pow_le_pow_right (by decide) hi));rw [this] at hb;cases hb
 refine⟨?_,?_⟩
 ·have h3:(zco (r.to a) (allN r.n)).testBit i=false:=by rw [h1];exact Nat.zero_testBit i
  rw [zga (zb9 _) hi,hb,zhX h0 (by omega) hi] at h3;simpa using h3
 ·rcases h2 with h2 | h2
  ·exact h2
  ·rw [h2,Nat.zero_testBit] at hb;cases hb
theorem zje {r:RelD} (h:okR r=true) (hr:WrdR r.to) {a:Nat} (ha:a<48):∀ i∈els (r.to a),(i:Int)<r.n/\i<48:=fun i hi=>by
 have h1:=(zjf h hr ha (zhz.1 hi).2).1;have:=(zbx h).2.1;exact⟨h1,by omega⟩
theorem zdp {s:Nat} (h0:s≠0) (h:s<2^64):(els s).headD 0=ctz s/\(els s).isEmpty=false:=by
 rw [(zbE h0 h).1];exact⟨rfl,rfl⟩
theorem zhS {s:Nat} (h:s<2^64) (he:(els s).isEmpty=true):s=0:=by
 apply Classical.byContradiction;intro h0;rw [(zdp h0 h).2] at he;cases he
theorem zfA {s:Nat} (h:s<2^64) (he:(!(els s).isEmpty)=true):s≠0:=fun h0=>by
 subst h0;rw [zdu] at he;cases he
section
variable {r:RelD} {w:World}
theorem zqr {b s:Nat} (f:w.heap[b]?=some (.cells (relC r).toArray 40 (0,0))) (hr:WrdR r.to) (hs:s<2^64) (h48:∀ i∈els s,i<48) (hT:Tz64M w) :
  CB 78 #[At0 b,s64 s] w (s64 (zff r.to s)):=by
 refine cofE 32 [At0 b,s64 s] Tryz.func78 ?_;refine cmo (zcJ hs hT) ?_;rintro e X ⟨rfl,hbX⟩;refine⟨Nat×Nat,fun q=>⟨[(0,At0 b),(1,s64 q.2),(5,s64 q.1),(6,i64 ((els q.2).headD 0:Nat)),(7,.bool (!(els q.2).isEmpty))],[]⟩,
  fun q Y=>zff r.to s=(els q.2).foldl (fun t a=>t|||r.to a) q.1/\(q.1<2^64/\q.2<2^64/\∀ i∈els q.2,i<48)/\Bw w Y,fun q=>q.2,(0,s),
  (cvE rfl rfl),⟨rfl,⟨(by decide:0<2^64),hs,h48⟩,hbX⟩,?_⟩
 clear hbX X;rintro⟨t,q⟩ X ⟨he,⟨ht,hq,h48⟩,hbX⟩;dsimp only at he ht hq h48 ⊢;refine biE (fun hc=>?_) fun hc=>?_
 ·have h0:=zfA hq hc;obtain⟨e1,e2,_,e3⟩:=zbE h0 hq;have hd:=(zdp h0 hq).1;have hc48:ctz q<48:=h48 _ (by rw [e1];exact List.mem_cons_self);rw [hd];have fX:=zab hbX f;refine⟨ctz q,rfl,hc48,?_⟩;refine⟨_,zdF fX hc48,?_⟩;refine⟨_,zcA ht (hr _ hc48),?_⟩;refine⟨((q-1:Nat):Int),(w64 (a:=(q:Int)-1) (by omega)).trans (by omega),?_⟩;refine⟨((rest q:Nat):Int),zbY (a:=q) (b:=q-1) hq (by omega),?_⟩;refine cmo (zcJ (s:=rest q) (by omega) (hT.below hbX)) ?_;rintro e Y ⟨rfl,hbY⟩;refine⟨(t|||r.to (ctz q),rest q),(cvE rfl rfl),⟨?_,⟨Nat.or_lt_two_pow ht (hr _ hc48),by omega,fun i hi=>h48 i (by rw [e1];exact List.mem_cons_of_mem _ hi)⟩,(zst hbX hbY)⟩,e2⟩;rw [he,e1];rfl
 ·have hc:(els q).isEmpty=true:=by simpa using hc
  have:=zhS hq hc;subst this;refine⟨?_,hbX⟩;rw [he,zdu];rfl
theorem zns {ra rb:RelD} {ba bb g:Nat} {caps:Array Value} {row:Nat->Nat} (fa:w.heap[ba]?=some (.cells (relC ra).toArray 40 (0,0))) (fb:w.heap[bb]?=some (.cells (relC rb).toArray 40 (0,0)))
  (ha:WrdR ra.to) (hb:WrdR rb.to) (hok:zbQ (sg 0) g=true)
  (hrow:ra.n=rb.n->okR ra=true->okR rb=true->∀ i X,i<ra.n.toNat->Bw w X->Calls Tryz.prog g (i64 (i:Nat)::caps.toList).toArray X fun e Y=>e = .returned (s64 (row i))/\Bw X Y) :
  CB 73 #[At0 ba,At0 bb,.func (.func g) #[] caps] w (.tuple #[.agg (relC (comb ra rb row).1).toArray,i64 (comb ra rb row).2]):=by
 refine cofM 38 [At0 ba,At0 bb,.func (.func g) #[] caps] (.c .p (.s .p .p)) Tryz.func73 ?_;obtain⟨L,hL⟩:=nm (w.heap.size);refine⟨Unit,fun _=>⟨[(0,At0 ba),(1,At0 bb),(2,.func (.func g) #[] caps),(6,At0 L)],[]⟩,fun _ X=>X.heap[L]?=some (.cells (relC zax).toArray 40 (0,0))/\Bw w X,⟨(),⟨.cons rfl (.cons rfl (.cons rfl (.cons (by rw [hL];rfl) .nil))),rfl⟩,by rw [hL];exact hnew w _,(zba w _)⟩,?_⟩;rintro _ X ⟨f0,hbX⟩;have hd:Bw X X.drew:=(Below.refl _ X).drew;have hbD:=zst hbX hd;have no:∀ {Y:World},Y.heap[L]?=some (.cells (relC zax).toArray 40 (0,0))->Bw w Y->(ra.n=rb.n&&(okR ra&&okR rb))=false->∀ {K:World->Prop},(∀ Z,Z.heap[L]?=some (.cells (relC (comb ra rb row).1).toArray 40 (0,0))->(comb ra rb row).2=2->Bw w Z->K Z)->SatR ((storeVar 40 ⟨L,0,none⟩ (.agg (relC zax).toArray)).run Tryz.prog Y) fun _ w'=>K w' :=
  fun {Y} f b h {K} k=>by
   have e:comb ra rb row=(zax,2):=by unfold comb;rw [h];rfl
   refine zas (v := .agg (relC zax).toArray) k40 f rfl rfl (zaD _) ?_;exact k _ (by rw [e];exact zan f) (by rw [e]) (zaj b (by omega) _)
 refine DrawE.ord [] [0,1,2,3,4,5,6,7,8,9,10,11,12,13,14,15,16,17,18,19,20,21,22] (by kernel_rfl) ?_;have hz:∀ {Y:World},Bw w Y->∀ {K:Value->Prop},K (.agg (relC zax).toArray)->K (.agg (relC zax).toArray):=fun _ _ h=>h;refine⟨_,zac (zaa (zab hbD fa)) (i:=0) rfl,?_⟩;refine⟨_,zac (zaa (zab hbD fb)) (i:=0) rfl,?_⟩;refine biE (fun h=>?_) fun h=>?_
 ·have h:ra.n≠rb.n:=fun e=>by
   have h:(!decide (ra.n=rb.n))=true:=h;rw [decide_eq_true e] at h;cases h
  refine brT ?_;refine brT ?_;refine⟨relC zax,rfl,?_⟩;refine no (hdr f0) hbD (by rw [decide_eq_false h];rfl) fun Z fZ e2 bZ=>?_;refine⟨relC (comb ra rb row).1,zae _,zaa fZ,?_,bZ⟩;rw [e2];rfl
 have h:ra.n=rb.n:=by
  have h:(!decide (ra.n=rb.n))=false:=h;simpa using h
 refine⟨relC ra,zae _,zaa (zab hbD fa),hlt (zab hbD fa),?_⟩;refine cmo (zbp ha) ?_;rintro e Y ⟨rfl,hbY⟩;refine⟨hbY,?_⟩;have hbwY:=zst hbD hbY;have f0Y:=zab hbY (hdr f0);refine biE (fun h1=>?_) fun h1=>?_
 ·have h1:okR ra=false:=by
   have h1:(!okR ra)=true:=h1;simpa using h1
  refine brT ?_;refine⟨relC zax,rfl,?_⟩;refine no f0Y hbwY (by rw [h1,Bool.false_and,Bool.and_false]) fun Z fZ e2 bZ=>?_;refine⟨relC (comb ra rb row).1,zae _,zaa fZ,?_,bZ⟩;rw [e2];rfl
 have h1:okR ra=true:=by
  have h1:(!okR ra)=false:=h1;simpa using h1
 refine⟨relC rb,zae _,zaa (zab hbwY fb),hlt (zab hbwY fb),?_⟩;refine cmo (zbp hb) ?_;rintro e V ⟨rfl,hbV⟩;refine⟨hbV,?_⟩;have hbwV:=zst hbwY hbV;have f0V:=zab hbV f0Y;refine biE (fun h2=>?_) fun h2=>?_
 ·have h2:okR rb=false:=by
   have h2:(!okR rb)=true:=h2;simpa using h2
  refine⟨relC zax,rfl,?_⟩;refine no f0V hbwV (by rw [h2,Bool.and_false,Bool.and_false]) fun Z fZ e2 bZ=>?_;refine⟨relC (comb ra rb row).1,zae _,zaa fZ,?_,bZ⟩;rw [e2];rfl
 have h2:okR rb=true:=by
  have h2:(!okR rb)=false:=h2;simpa using h2
 obtain⟨p0,p48,_⟩:=zbx h1;have e:comb ra rb row=(zb7 ra.n.toNat row,0):=by unfold comb;rw [h1,h2,decide_eq_true h];rfl
 rw [e];have hn:ra.n=(ra.n.toNat:Int):=by omega
 refine⟨i64 (ra.n.toNat:Nat),by rw [<- hn];exact zac (zaa (zab hbwV fa)) (i:=0) rfl,?_⟩;refine cmo (zjI (w:=V) (n:=ra.n.toNat) (by omega) hok (fun i Z hi hbZ=>hrow h h1 h2 i Z hi ((zst hbwV hbZ)))) ?_;rintro e Z ⟨rfl,hbZ⟩;have f0Z:=zab hbZ f0V;refine zas (v := .agg (relC (zb7 ra.n.toNat row)).toArray) k40 f0Z rfl rfl (zaD _) ?_;exact⟨relC (zb7 ra.n.toNat row),zae _,zaa (zan f0Z),rfl,zaj ((zst hbwV hbZ)) (by omega) _⟩
end
theorem zeN {n:Nat} {f:Nat->Nat} (h:∀ i,i<n->i<48->f i<2^64):WrdR (zb7 n f).to:=fun i hi=>by
 unfold zb7;dsimp only
 split
 ·rename_i h1;exact h i h1 hi
 ·decide
theorem zks {to:Nat->Nat} (ht:WrdR to):∀ (l:List Nat) (t:Nat),t<2^64->(∀ i∈l,i<48)->l.foldl (fun t a=>t|||to a) t<2^64
 | [],t,h,_=>h
 | x::l,t,h,hl=>by
  rw [List.foldl_cons];exact zks ht l _ (Nat.or_lt_two_pow h (ht x (hl x List.mem_cons_self))) fun i hi=>hl i (List.mem_cons_of_mem _ hi)
section
variable {ra rb:RelD} {w:World}
theorem zrf {ba bb i:Nat} (fa:w.heap[ba]?=some (.cells (relC ra).toArray 40 (0,0))) (fb:w.heap[bb]?=some (.cells (relC rb).toArray 40 (0,0))) (ha:WrdR ra.to) (hb:WrdR rb.to) (hi:i<48) (h48:∀ j∈els (ra.to i),j<48) (hT:Tz64M w) :
  CB 77 (i64 (i:Nat)::[At0 bb,At0 ba]).toArray w (s64 (zff rb.to (ra.to i))):=by
 refine cofE 10 (i64 (i:Nat)::[At0 bb,At0 ba]) Tryz.func77 ?_;refine⟨i,rfl,hi,?_⟩;refine⟨_,zdF fa hi,?_⟩;refine cmo (zqr fb hb (ha i hi) h48 hT) ?_;rintro e Y ⟨rfl,hbY⟩;exact⟨rfl,hbY⟩
theorem znK (ha:WrdR ra.to) (hb:WrdR rb.to) (hT:Tz64M w):CB 26 #[.agg (relC ra).toArray,.agg (relC rb).toArray] w (.tuple #[.agg (relC (zh3 ra rb).1).toArray,i64 (zh3 ra rb).2]):=by
 refine cofM 10 [.agg (relC ra).toArray,.agg (relC rb).toArray] (.c .p .p) Tryz.func26 ?_;obtain⟨L,hL⟩:=nm (w.heap.size);refine⟨Unit,fun _=>⟨[(2,At0 L),(3,At0 (L+1)),(4,At0 (L+2)),(5,i64 0)],[]⟩,fun _ X=>X.heap[L]?=some (.cells (relC ra).toArray 40 (0,0))/\X.heap[L+1]?=some (.cells (relC rb).toArray 40 (0,0))/\X.heap[L+2]?=some (.cells (relC zax).toArray 40 (0,0))/\Bw w X,?_,?_⟩
 ·have s1:=wz w (.cells (relC ra).toArray 40);have s2:=wz (w.alloc (.cells (relC ra).toArray 40)) (.cells (relC rb).toArray 40);have h2:=hnew (w.alloc (.cells (relC ra).toArray 40)) (.cells (relC rb).toArray 40);have h3:=hnew ((w.alloc (.cells (relC ra).toArray 40)).alloc (.cells (relC rb).toArray 40)) (.cells (relC zax).toArray 40);rw [s1] at s2 h2;rw [s2] at h3;refine⟨(),⟨.cons (by rw [hL];rfl) (.cons (by rw [hL,<- s1];rfl) (.cons (by rw [hL,<- s2];rfl) (.cons rfl .nil))),rfl⟩,?_,?_,?_,?_⟩
  ·rw [hL];exact hold _ (hold _ (hnew w _))
  ·rw [hL];exact hold _ h2
  ·rw [hL];exact h3
  ·exact (((zba w _)).alloc (by simp) _).alloc (by simp;omega) _
 rintro _ X ⟨f0,f1,f2,hbX⟩;refine cmo (zns (row:=fun i=>zff rb.to (ra.to i)) f0 f1 ha hb (by kernel_rfl) (fun e h1 h2 i Y hi hbY=>?_)) ?_
 ·have h48:=(zbx h1).2.1;exact zrf (zab hbY f0) (zab hbY f1) ha hb (by omega) (fun j hj=>(zje h1 ha (by omega) j hj).2) ((hT.below hbX).below hbY)
 rintro e Y ⟨rfl,hbY⟩;refine zas (v := .agg (relC (zh3 ra rb).1).toArray) k40 (zab hbY f2) rfl rfl (zaD _) ?_;exact⟨relC (zh3 ra rb).1,zae _,zaa (zan (zab hbY f2)),rfl,zaj ((zst hbX hbY)) (by omega) _⟩
theorem zo8 {ba bb i a b:Nat} (fa:w.heap[ba]?=some (.cells #[s64 a] 37 (0,0))) (fb:w.heap[bb]?=some (.cells #[s64 b] 37 (0,0))) (hi:i<48) :
  CB 186 (i64 (i:Nat)::[At0 ba,At0 bb]).toArray w (s64 (if a.testBit i then b else 0)):=by
 refine cofE 11 (i64 (i:Nat)::[At0 ba,At0 bb]) Tryz.func186 ?_;refine⟨_,zac (zaa fa) (i:=0) rfl,?_⟩;refine⟨by omega,_,zg8 (k:=i) (by omega),?_⟩;have e1:IntKind.u64.wrap ((BitVec.ofInt IntKind.u64.bits ((a/2^i:Nat):Int)&&&BitVec.ofInt IntKind.u64.bits (1:Int)).toNat:Int)=((a/2^i&&&1:Nat):Int):=by
  show IntKind.u64.wrap ((BitVec.ofInt 64 ((a/2^i:Nat):Int)&&&BitVec.ofInt 64 (1:Int)).toNat:Int)=_;rw [BitVec.toNat_and,show (BitVec.ofInt 64 (1:Int)).toNat=1 from rfl,Nat.and_one_is_mod,Nat.and_one_is_mod,BitVec.toNat_ofInt];have e2:(((a/2^i:Nat):Int)%((2^64:Nat):Int)).toNat=(a/2^i)%2^64:=by
   rw [<- Int.natCast_emod,Int.toNat_natCast]
  rw [e2];generalize a/2^i=m;rw [w64 (by omega)];omega
 refine⟨_,e1,?_⟩;rw [zjJ];refine biE (fun h=>?_) fun h=>?_
 ·have h:a.testBit i=false:=by
   cases hc:a.testBit i with
   | false=>rfl
   | true =>
    rw [hc] at h;exact absurd h (by decide)
  exact⟨by rw [h];rfl,Below.refl _ _⟩
 ·have h:a.testBit i=true:=by
   cases hc:a.testBit i with
   | true=>rfl
   | false =>
    rw [hc] at h;exact absurd h (by decide)
  refine⟨_,zac (zaa fb) (i:=0) rfl,?_⟩;exact⟨by rw [h];rfl,Below.refl _ _⟩
theorem znQ {n a b:Nat} (hn:n<=48) (ha:a<2^64) (hb:b<2^64):CB 116 #[i64 n,s64 a,s64 b] w (.agg (relC (zgm n a b)).toArray):=by
 refine cofM 21 [i64 n,s64 a,s64 b] (.c .p (.s .p (.s .p .p))) Tryz.func116 ?_;obtain⟨L,hL⟩:=nm (w.heap.size);refine⟨Unit,fun _=>⟨[(0,i64 n),(4,At0 L),(5,At0 (L+1)),(6,At0 (L+2))],[]⟩,fun _ X=>X.heap[L]?=some (.cells #[s64 a] 37 (0,0))/\X.heap[L+1]?=some (.cells [s64 b].toArray 37 (0,0))/\X.heap[L+2]?=some (.cells (relC zax).toArray 40 (0,0))/\Bw w X,?_,?_⟩
 ·have s1:=wz w (.cells #[s64 a] 37);have s2:=wz (w.alloc (.cells #[s64 a] 37)) (.cells #[s64 b] 37);have h2:=hnew (w.alloc (.cells #[s64 a] 37)) (.cells #[s64 b] 37);have h3:=hnew ((w.alloc (.cells #[s64 a] 37)).alloc (.cells #[s64 b] 37)) (.cells (relC zax).toArray 40);rw [s1] at s2 h2;rw [s2] at h3;refine⟨(),⟨.cons rfl (.cons (by rw [hL];rfl) (.cons (by rw [hL,<- s1];rfl) (.cons (by rw [hL,<- s2];rfl) .nil))),rfl⟩,?_,?_,?_,?_⟩
  ·rw [hL];exact hold _ (hold _ (hnew w _))
  ·rw [hL];exact hold _ h2
  ·rw [hL];exact h3
  ·exact (((zba w _)).alloc (by simp) _).alloc (by simp;omega) _
 rintro _ X ⟨f0,f1,f2,hbX⟩;refine brN (decide_eq_false (by omega)) ?_;refine brN (decide_eq_false (by omega)) ?_;refine DrawE.ord [4] [0,1,2,3,4] (by kernel_rfl) ?_;refine⟨_,zac (zaa (hdr f1)) (i:=0) rfl,?_⟩;refine cmo zjN ?_;rintro e _ ⟨rfl,rfl⟩;refine⟨Below.refl _ _,?_⟩;refine⟨_,zbY (a:=b) (b:=allN n) hb (zb9 _),?_⟩;have hd:Bw X X.drew:=(Below.refl _ X).drew;refine zaq k37 (hdr f1) (o:=0) (v:=s64 (b&&&allN n)) rfl rfl (by show 0<1;decide) rfl fun Y fY gY sY=>?_;have fY:Y.heap[L+1]?=some (.cells #[s64 (b&&&allN n)] 37 (0,0)):=fY;have hbY:Bw w Y:=((zst hbX hd)).trans (zak gY hbX.size (by omega));have f0Y:=(gY.block L (hlt (hdr f0)) (by simp)).trans (hdr f0);have f2Y:=(gY.block (L+2) (hlt (hdr f2)) (by simp)).trans (hdr f2);refine cmo (zjI (w:=Y) (n:=n) (row:=fun x=>if a.testBit x then b&&&allM n else 0) hn (by kernel_rfl) (fun i Z hi hbZ=>zo8 (zab hbZ f0Y) (zab hbZ fY) (by omega))) ?_;rintro e Z ⟨rfl,hbZ⟩;have f2Z:=zab hbZ f2Y;refine zas (v := .agg (relC (zgm n a b)).toArray) k40 f2Z rfl rfl (zaD _) ?_;exact⟨relC (zgm n a b),zae _,zaa (zan f2Z),rfl,zaj ((zst hbY hbZ)) (by omega) _⟩
theorem ztN {ba i s:Nat} (fa:w.heap[ba]?=some (.cells #[s64 s] 37 (0,0))) (hs:s<2^64) (hi:i<48) :
  CB 150 (i64 (i:Nat)::[At0 ba]).toArray w (s64 (s&&&2^i)):=by
 refine cofE 8 (i64 (i:Nat)::[At0 ba]) Tryz.func150 ?_;refine DrawE.ord [] [0,1,2,3,4] (by kernel_rfl) ?_;refine⟨_,zac (zaa (hdr fa)) (i:=0) rfl,?_⟩;refine⟨by omega,_,zbX (e:=i) (by omega),?_⟩;exact⟨_,zbY hs (zaN (by omega)),rfl,(Below.refl _ w).drew⟩
theorem Id_c {n s:Nat} (hn:n<=48) (hs:s<2^64):CB 82 #[i64 n,s64 s] w (.agg (relC (idR n s)).toArray):=by
 refine cofM 15 [i64 n,s64 s] (.c .p (.s .p .p)) Tryz.func82 ?_;obtain⟨L,hL⟩:=nm (w.heap.size);refine⟨Unit,fun _=>⟨[(0,i64 n),(3,At0 L),(4,At0 (L+1))],[]⟩,fun _ X=>X.heap[L]?=some (.cells #[s64 s] 37 (0,0))/\X.heap[L+1]?=some (.cells (relC zax).toArray 40 (0,0))/\Bw w X,?_,?_⟩
 ·have s1:=wz w (.cells #[s64 s] 37);have h2:=hnew (w.alloc (.cells #[s64 s] 37)) (.cells (relC zax).toArray 40);rw [s1] at h2;refine⟨(),⟨.cons rfl (.cons (by rw [hL];rfl) (.cons (by rw [hL,<- s1];rfl) .nil)),rfl⟩,?_,?_,?_⟩
  ·rw [hL];exact hold _ (hnew w _)
  ·rw [hL];exact h2
  ·exact ((zba w _)).alloc (by simp) _
 rintro _ X ⟨f0,f1,hbX⟩;refine brN (decide_eq_false (by omega)) ?_;refine brN (decide_eq_false (by omega)) ?_;refine cmo (zjI (w:=X) (n:=n) (row:=fun a=>s&&&2^a) hn (by kernel_rfl) (fun i Z hi hbZ=>ztN (zab hbZ f0) hs (by omega))) ?_;rintro e Z ⟨rfl,hbZ⟩;have f1Z:=zab hbZ f1;refine zas (v := .agg (relC (idR n s)).toArray) k40 f1Z rfl rfl (zaD _) ?_;exact⟨relC (idR n s),zae _,zaa (zan f1Z),rfl,zaj ((zst hbX hbZ)) (by omega) _⟩
theorem zsL (ha:WrdR ra.to):CB 85 #[.agg (relC ra).toArray] w (s64 (zm4 ra)):=by
 refine cofE 24 [.agg (relC ra).toArray] Tryz.func85 ?_;have f0:=hnew w (.cells (relC ra).toArray 40);have hb:Bw w (w.alloc (.cells (relC ra).toArray 40)):=zba w _;refine⟨relC ra,zae _,zaa f0,hlt f0,?_⟩;refine cmo (zbp ha) ?_;rintro e X ⟨rfl,hbX⟩;have hbw:=zst hb hbX;have fX:=zab hbX f0;refine biE (fun h=>?_) fun h=>?_
 ·have h:okR ra=false:=by
   have h:(!okR ra)=true:=h;simpa using h
  exact⟨by unfold zm4;rw [h];rfl,hbw⟩
 have h:okR ra=true:=by
  have h:(!okR ra)=false:=h;simpa using h
 obtain⟨p0,p48,_⟩:=zbx h;obtain⟨n,hn⟩:∃ n:Nat,ra.n=n:=⟨ra.n.toNat,by omega⟩;refine⟨i64 n,by rw [<- hn];exact zac (zaa fX) (i:=0) rfl,?_⟩;have e0:zm4 ra=(List.range n).foldl (fun s a=>if ra.to a=0 then s else s|||2^a) 0:=by unfold zm4;rw [if_pos h,hn];rfl
 refine⟨Nat,fun k=>⟨[(1,.pointer (some ⟨w.heap.size,0,none⟩)),(3,s64 ((List.range k).foldl (fun s a=>if ra.to a=0 then s else s|||2^a) 0)),(9,i64 n),(10,i64 (k:Nat))],[]⟩,fun k Y=>X=Y/\k<=n/\(List.range k).foldl (fun s a=>if ra.to a=0 then s else s|||2^a) 0<2^64,fun k=>n-k,0,
  (cvE rfl rfl),⟨rfl,Nat.zero_le _,(by decide:0<2^64)⟩,?_⟩
 rintro k _ ⟨rfl,hk,hlt64⟩;refine biE (fun hc=>?_) fun hc=>?_
 ·have hc:(k:Int)<(n:Int):=dT hc;have hkn:k<n:=by omega
  have step:(List.range (k+1)).foldl (fun s a=>if ra.to a=0 then s else s|||2^a) 0=if ra.to k=0 then (List.range k).foldl (fun s a=>if ra.to a=0 then s else s|||2^a) 0 else (List.range k).foldl (fun s a=>if ra.to a=0 then s else s|||2^a) 0|||2^k:=by
   rw [List.range_succ,List.foldl_append];rfl
  refine⟨k,rfl,by omega,?_⟩;refine⟨_,zdF fX (by omega),?_⟩;refine biE (fun h1=>?_) fun h1=>?_
  ·have h1:¬ ra.to k=0:=fun e=>by
    have h1:(!decide (((ra.to k:Nat):Int)=0))=true:=h1;rw [e] at h1;exact absurd h1 (by decide)
   rw [if_neg h1] at step;refine⟨by omega,_,zbX (e:=k) (by omega),?_⟩;refine⟨_,zcA hlt64 (zaN (by omega)),?_⟩;refine nxI (by omega) ?_;exact⟨k+1,⟨.cons rfl (.cons (by rw [step];rfl) (.cons rfl (.cons rfl .nil))),rfl⟩,⟨rfl,hkn,by rw [step];exact Nat.or_lt_two_pow hlt64 (zaN (by omega))⟩,zdc (by omega)⟩
  ·have h1:ra.to k=0:=by
    have h1:(!decide (((ra.to k:Nat):Int)=0))=false:=h1;have h2:decide (((ra.to k:Nat):Int)=0)=true:=(by simpa using h1);exact Int.ofNat.inj (dT h2)
   rw [if_pos h1] at step;refine nxI (by omega) ?_;exact⟨k+1,⟨.cons rfl (.cons (by rw [step];rfl) (.cons rfl (.cons rfl .nil))),rfl⟩,⟨rfl,hkn,by rw [step];exact hlt64⟩,zdc (by omega)⟩
 ·have hc:¬ (k:Int)<(n:Int):=dF hc;obtain rfl:k=n:=by omega
  exact⟨by rw [e0];rfl,hbw⟩
theorem zrn (ha:WrdR ra.to):CB 33 #[.agg (relC ra).toArray] w (.bool (ziR ra)):=by
 refine cofE 10 [.agg (relC ra).toArray] Tryz.func33 ?_;have f0:=hnew w (.cells (relC ra).toArray 40);have hb:Bw w (w.alloc (.cells (relC ra).toArray 40)):=zba w _;refine⟨relC ra,zae _,zaa f0,hlt f0,?_⟩;refine cmo (zbp ha) ?_;rintro e X ⟨rfl,hbX⟩;have hbw:=zst hb hbX;have fX:=zab hbX f0;refine biE (fun h=>?_) fun h=>?_
 ·have h:okR ra=true:=h;refine⟨relC ra,zae _,zaa fX,hlt fX,?_⟩;refine cmo (zsL ha) ?_;rintro e Y ⟨rfl,hbY⟩;refine⟨rb ?_,(zst hbw hbY)⟩;unfold ziR;rw [h,Bool.true_and];exact decide_eq_decide.2 Int.ofNat_inj
 ·have h:okR ra=false:=h;exact⟨rb (by unfold ziR;rw [h];rfl),hbw⟩
end
theorem zg9 {f:Nat->Nat} (h:WrdR f) {i v:Nat} (hv:v<2^64):WrdR (upd f i v):=fun j hj=>by
 by_cases e:j=i
 ·rw [e,zbo];exact hv
 ·rw [zcN _ _ e];exact h j hj
def zsz (a:Nat) (l:List Nat) (f:Nat->Nat):Nat->Nat:=l.foldl (fun f b=>upd f b (f b|||2^a)) f
section
variable {r:RelD} {w:World}
theorem zi0 (hr:WrdR r.to) (hT:Tz64M w):Calls Tryz.prog 29 #[.agg (relC r).toArray] w fun e w'=>e = .returned (.agg (relC (zbJ r)).toArray)/\Bw w w'/\WrdR (zbJ r).to:=by
 refine cofM 50 [.agg (relC r).toArray] (.c .p (.s .p (.s .p (.c .p .p)))) Tryz.func29 ?_;obtain⟨L,hL⟩:=nm (w.heap.size);refine⟨Unit,fun _=>⟨[(1,At0 L),(2,At0 (L+1))],[]⟩,fun _ X=>X.heap[L]?=some (.cells (relC r).toArray 40 (0,0))/\X.heap[L+1]?=some (.cells (relC zax).toArray 40 (0,0))/\X.heap.size=L+2/\Bw w X,?_,?_⟩
 ·have s1:=wz w (.cells (relC r).toArray 40);have h2:=hnew (w.alloc (.cells (relC r).toArray 40)) (.cells (relC zax).toArray 40);have s2:=wz (w.alloc (.cells (relC r).toArray 40)) (.cells (relC zax).toArray 40);rw [s1] at h2 s2;refine⟨(),⟨.cons (by rw [hL];rfl) (.cons (by rw [hL,<- s1];rfl) .nil),rfl⟩,?_,?_,?_,?_⟩
  ·rw [hL];exact hold _ (hnew w _)
  ·rw [hL];exact h2
  ·rw [hL];exact s2
  ·exact ((zba w _)).alloc (by simp) _
 rintro _ X ⟨f0,f1,sX,hbX⟩;refine⟨relC r,zae _,zaa f0,hlt f0,?_⟩;refine cmo (zbp hr) ?_;rintro e Y ⟨rfl,hbY⟩;have hbwY:=zst hbX hbY;have f0Y:=zab hbY f0;have f1Y:=zab hbY f1;refine biE (fun h=>?_) fun h=>?_
 ·have h:okR r=false:=by
   have h:(!okR r)=true:=h;simpa using h
  have e:zbJ r=zax:=by unfold zbJ;rw [h];rfl
  rw [e];refine⟨relC zax,rfl,?_⟩;refine zas (v := .agg (relC zax).toArray) k40 f1Y rfl rfl (zaD _) ?_;exact⟨relC zax,zae _,zaa (zan f1Y),rfl,zaj hbwY (by omega) _,fun i _=>(by decide:0<2^64)⟩
 have h:okR r=true:=by
  have h:(!okR r)=false:=h;simpa using h
 obtain⟨p0,p48,_⟩:=zbx h;obtain⟨n,hn⟩:∃ n:Nat,r.n=n:=⟨r.n.toNat,by omega⟩;have hn48:n<=48:=by omega
 have e0:zbJ r=⟨n,zc5 r.to n⟩:=by unfold zbJ;rw [if_pos h,hn];rfl
 rw [e0];have hnY:Y.cell? ⟨L,0+0,none⟩=some (i64 n):=by rw [<- hn];exact zac (zaa f0Y) (i:=0) rfl
 refine⟨i64 n,hnY,?_⟩;refine⟨relC ⟨n,fun _=>0⟩,rfl,?_⟩;have sY:=hbY.size;refine zal (X:=Y) (v := .agg (relC ⟨n,fun _=>0⟩).toArray) k40 rfl rfl (zaD _) fun Z hbZ fZ sZ=>?_;obtain⟨M,hM⟩:=nm (Y.heap.size);rw [<- hM] at fZ sZ;have pM:some (Value.pointer (some ⟨Y.heap.size,0,none⟩))=some (At0 M):=by rw [hM]
 have hbwZ:=zst hbwY hbZ;refine⟨Unit,fun _=>⟨[(1,At0 L),(2,At0 (L+1)),(3,At0 M)],[]⟩,fun _ V=>V.heap[M]?=some (.cells (relC ⟨n,zc5 r.to n⟩).toArray 40 (0,0))/\V.heap[L+1]?=some (.cells (relC zax).toArray 40 (0,0))/\Bw w V/\WrdR (zc5 r.to n),?_,?_⟩
 ·refine⟨i64 n,by rw [<- hn];exact zac (zaa (zab hbZ f0Y)) (i:=0) rfl,?_⟩;refine⟨Nat,fun k=>⟨[(1,At0 L),(2,At0 (L+1)),(3,At0 M),(16,i64 n),(17,i64 (k:Nat))],[]⟩,
   fun k V=>k<=n/\V.heap[M]?=some (.cells (relC ⟨n,zc5 r.to k⟩).toArray 40 (0,0))/\WrdR (zc5 r.to k)/\Below M Z V,fun k=>n-k,0,
   ⟨.cons rfl (.cons rfl (.cons pM (.cons rfl (.cons rfl .nil)))),rfl⟩,⟨Nat.zero_le _,fZ,fun i _=>(by decide:0<2^64),Below.refl _ _⟩,?_⟩
  rintro k V ⟨hk,fV,hwV,hbV⟩;have sV:=hbV.size;refine biE (fun hc=>?_) fun hc=>?_
  ·have hc:(k:Int)<(n:Int):=dT hc;have hkn:k<n:=by omega
   have step:zc5 r.to (k+1)=zsz k (els (r.to k)) (zc5 r.to k):=by
    unfold zc5;rw [List.range_succ,List.foldl_append];rfl
   have h48:=zje h hr (a:=k) (by omega);have f0V:V.heap[L]?=some (.cells (relC r).toArray 40 (0,0)):=(hbV.block L (by omega)).trans (zab hbZ f0Y);have hTV:Tz64M V:=hT.below (hbwZ.trans (hbV.mono (by omega)));refine⟨k,rfl,by omega,?_⟩;refine⟨_,zdF f0V (by omega),?_⟩;refine cmo (zcJ (hr k (by omega)) hTV) ?_;rintro e U ⟨rfl,hbU⟩;refine⟨(Nat->Nat)×Nat,fun q=>⟨[(1,At0 L),(2,At0 (L+1)),(3,At0 M),(4,i64 (k:Nat)),(5,s64 q.2),(6,i64 ((els q.2).headD 0:Nat)),(7,.bool (!(els q.2).isEmpty)),(16,i64 n),(17,i64 (k:Nat))],[]⟩,
    fun q T=>(zc5 r.to (k+1)=zsz k (els q.2) q.1/\WrdR q.1/\q.2<2^64/\∀ b∈els q.2,b<48)/\T.heap[M]?=some (.cells (relC ⟨n,q.1⟩).toArray 40 (0,0))/\Below M Z T,fun q=>q.2,(zc5 r.to k,r.to k),
    (cvE rfl rfl),⟨⟨step,hwV,hr k (by omega),fun b hb=>(h48 b hb).2⟩,zab hbU fV,hbV.trans (hbU.mono (by omega))⟩,?_⟩
   rintro⟨g,q⟩ T ⟨⟨he,hg,hq,hb48⟩,fT,hbT⟩;dsimp only at he hg hq hb48 fT ⊢;have sT:=hbT.size;refine biE (fun hc=>?_) fun hc=>?_
   ·have h0:=zfA hq hc;obtain⟨e1,e2,_,e3⟩:=zbE h0 hq;have hd:=(zdp h0 hq).1;have hc48:ctz q<48:=hb48 _ (by rw [e1];exact List.mem_cons_self);rw [hd];refine DrawE.ord [9] [0,1,2,3,4,5,6,7,8,9] (by kernel_rfl) ?_;refine⟨ctz q,rfl,hc48,?_⟩;refine⟨_,zdF (hdr fT) hc48,?_⟩;refine⟨by omega,_,zbX (e:=k) (by omega),?_⟩;refine⟨_,zcA (hg _ hc48) (zaN (by omega)),?_⟩;refine⟨ctz q,rfl,hc48,?_⟩;refine zaq k37 (hdr fT) (o:=0+1+ctz q*1) (v:=s64 (g (ctz q)|||2^k)) rfl rfl (by rw [zae];omega) rfl fun S fS gS sS=>?_;rw [Nat.zero_add,Nat.mul_one,zfs _ hc48] at fS;have hdT:Bw T T.drew:=(Below.refl _ T).drew;have hbS:Below M Z S:=(hbT.trans (hdT.mono (show M<=T.heap.size by omega))).trans (zak gS (show M<=T.heap.size by omega) (Nat.le_refl _));refine⟨((q-1:Nat):Int),(w64 (a:=(q:Int)-1) (by omega)).trans (by omega),?_⟩;refine⟨((rest q:Nat):Int),zbY (a:=q) (b:=q-1) hq (by omega),?_⟩;refine cmo (zcJ (s:=rest q) (by omega) (hT.below (hbwZ.trans (hbS.mono (by omega))))) ?_;rintro e R ⟨rfl,hbR⟩;have sS2:=hbS.size;refine⟨(upd g (ctz q) (g (ctz q)|||2^k),rest q),(cvE rfl rfl),⟨⟨?_,zg9 hg (Nat.or_lt_two_pow (hg _ hc48) (zaN (by omega))),by show rest q<_;omega,fun b hb=>hb48 b (by rw [e1];exact List.mem_cons_of_mem _ hb)⟩,zab hbR fS,hbS.trans (hbR.mono (by omega))⟩,e2⟩;rw [he,e1];rfl
   ·have hc:(els q).isEmpty=true:=(by simpa using hc);have:=zhS hq hc;subst this;rw [zdu] at he;have he:zc5 r.to (k+1)=g:=he;refine nxI (by omega) ?_;exact⟨k+1,(cvE rfl rfl),⟨hkn,by rw [he];exact fT,by rw [he];exact hg,hbT⟩,zdc (by omega)⟩
  ·have hc:¬ (k:Int)<(n:Int):=dF hc;obtain rfl:k=n:=by omega
   exact⟨(),(cvE rfl rfl),fV,(hbV.block (L+1) (by omega)).trans (zab hbZ f1Y),hbwZ.trans (hbV.mono (by omega)),hwV⟩
 clear fZ sZ pM hbwZ hbZ Z;rintro _ V ⟨fM,f1V,hbV,hw⟩;refine⟨relC ⟨n,zc5 r.to n⟩,zae _,zaa fM,hlt fM,?_⟩;refine zas (v := .agg (relC ⟨n,zc5 r.to n⟩).toArray) k40 f1V rfl rfl (zaD _) ?_;exact⟨relC ⟨n,zc5 r.to n⟩,zae _,zaa (zan f1V),rfl,zaj hbV (by omega) _,hw⟩
theorem zm6 {p:Nat->Bool} {x:Nat} {l:List Nat}:(x::l).find? p=if p x then some x else l.find? p:=by
 rw [List.find?_cons]
 cases p x <;> rfl
theorem zr1 {b left:Nat} (f:w.heap[b]?=some (.cells (relC r).toArray 40 (0,0))) (hr:WrdR r.to) (hs:left<2^64) (h48:∀ i∈els left,i<48) (hT:Tz64M w) :
  CB 202 #[At0 b,s64 left] w (.tuple #[i64 ((zgA r.to left).getD 0:Nat),.bool (zgA r.to left).isSome]):=by
 refine cofE 35 [At0 b,s64 left] Tryz.func202 ?_;refine cmo (zcJ hs hT) ?_;rintro e X ⟨rfl,hbX⟩;refine⟨Nat,fun q=>⟨[(0,At0 b),(1,s64 left),(6,s64 q),(7,i64 ((els q).headD 0:Nat)),(8,.bool (!(els q).isEmpty))],[]⟩,
  fun q Y=>zgA r.to left=(els q).find? (fun a=>decide (r.to a&&&left=0))/\(q<2^64/\∀ i∈els q,i<48)/\Bw w Y,fun q=>q,left,
  (cvE rfl rfl),⟨rfl,⟨hs,h48⟩,hbX⟩,?_⟩
 clear hbX X;rintro q X ⟨he,⟨hq,h48⟩,hbX⟩;refine biE (fun hc=>?_) fun hc=>?_
 ·have h0:=zfA hq hc;obtain⟨e1,e2,_,e3⟩:=zbE h0 hq;have hd:=(zdp h0 hq).1;have hc48:ctz q<48:=h48 _ (by rw [e1];exact List.mem_cons_self);have fX:=zab hbX f;refine⟨ctz q,congrArg Nat.cast hd.symm,hc48,?_⟩;refine⟨_,zdF fX hc48,?_⟩;refine⟨_,zbY (hr _ hc48) hs,?_⟩;rw [e1,zm6] at he;refine biE (fun h=>?_) fun h=>?_
  ·have h:r.to (ctz q)&&&left=0:=Int.ofNat.inj (dT h);rw [decide_eq_true h] at he;have he:zgA r.to left=some (ctz q):=he;exact⟨by rw [he,<- hd];rfl,hbX⟩
  ·have h:¬ r.to (ctz q)&&&left=0:=fun e=>by
    have h:¬ (((r.to (ctz q)&&&left:Nat):Int)=0):=dF h;exact h (by rw [e];rfl)
   rw [decide_eq_false h] at he;refine⟨((q-1:Nat):Int),(w64 (a:=(q:Int)-1) (by omega)).trans (by omega),?_⟩;refine⟨((rest q:Nat):Int),zbY (a:=q) (b:=q-1) hq (by omega),?_⟩;refine cmo (zcJ (s:=rest q) (by omega) (hT.below hbX)) ?_;rintro e Y ⟨rfl,hbY⟩;exact⟨rest q,(cvE rfl rfl),⟨he,⟨by omega,fun i hi=>h48 i (by rw [e1];exact List.mem_cons_of_mem _ hi)⟩,(zst hbX hbY)⟩,e2⟩
 ·have hc:(els q).isEmpty=true:=by simpa using hc
  have:=zhS hq hc;subst this;rw [zdu] at he;have he:zgA r.to left=none:=he;exact⟨by rw [he];rfl,hbX⟩
end
theorem zhT {s a:Nat} (hs:s<2^64) (ha:a∈els s):els (zco s (2^a))=(els s).filter (fun i => !decide (i=a)):=by
 have ha64:=zsd ha;unfold els;rw [List.filter_filter];apply List.filter_congr;intro i hi;rw [zga (zaN ha64) (List.mem_range.1 hi),Nat.testBit_two_pow,Bool.and_comm];congr 2;exact decide_eq_decide.2 ⟨fun h=>h.symm,fun h=>h.symm⟩
theorem zdO {s a:Nat} (hs:s<2^64) (ha:a∈els s):(els (zco s (2^a))).length<(els s).length:=by
 rw [zhT hs ha];exact List.length_filter_lt_length_iff_exists.2 ⟨a,ha,by simp⟩
theorem zoF {s a:Nat} (hs:s<2^64) (ha:a∈els s):zco s (2^a)<s:=by
 have h1:zco s (2^a)<=s:=Nat.and_le_left;have h2:zco s (2^a)≠s:=fun e=>by
  have:=zdO hs ha;rw [e] at this;omega
 omega
theorem zjy {n:Nat} (h:n<=64):els (allN n)=List.range n:=by
 have e:∀ i∈List.range 64,(allN n).testBit i=decide (i<n):=fun i hi=>by
  rw [zhX (by omega) (by omega) (List.mem_range.1 hi)];exact decide_eq_decide.2 (by omega)
 unfold els;rw [List.filter_congr e];obtain⟨m,hm⟩:∃ m,64=n+m:=⟨64-n,by omega⟩;rw [hm,List.range_add,List.filter_append];have f1:(List.range n).filter (fun i=>decide (i<n))=List.range n:=by
  rw [List.filter_eq_self];intro i hi;simpa using hi
 have f2:((List.range m).map (n + ·)).filter (fun i=>decide (i<n))=[]:=by
  rw [List.filter_eq_nil_iff];intro i hi;obtain⟨j,_,rfl⟩:=List.mem_map.1 hi;simp
 rw [f1,f2,List.append_nil]
theorem zoO {before:Nat->Nat} {left a:Nat} (h:zgA before left=some a):a∈els left:=List.mem_of_find?_eq_some h
section
variable {r:RelD} {w:World}
theorem ztK (hr:WrdR r.to) (hT:Tz64M w):Calls Tryz.prog 142 #[.agg (relC r).toArray] w fun e w' =>
  (∃ p c,e = .returned (.tuple #[.slice p ((topF r).getD []).length c,.bool (topF r).isSome])/\OwnS natE 3 w.heap.size w' p c ((topF r).getD []))/\Bw w w':=by
 refine cofM 38 [.agg (relC r).toArray] (.c .p (.s .p (.c .p (.c .p (.s .p .p))))) Tryz.func142 ?_;obtain⟨L,hL⟩:=nm (w.heap.size);refine⟨Unit,fun _=>⟨[(1,At0 L)],[]⟩,fun _ X=>X.heap[L]?=some (.cells (relC r).toArray 40 (0,0))/\X.heap.size=L+1/\Bw w X,⟨(),⟨.cons (by rw [hL];rfl) .nil,rfl⟩,by rw [hL];exact hnew w _,by rw [hL];exact wz _ _,(zba w _)⟩,?_⟩;rintro _ X ⟨f0,sX,hbX⟩;refine⟨relC r,zae _,zaa f0,hlt f0,?_⟩;refine cmo (zbp hr) ?_;rintro e Y ⟨rfl,hbY⟩;have hbwY:=zst hbX hbY;have f0Y:=zab hbY f0;refine biE (fun h=>?_) fun h=>?_
 ·have h:okR r=false:=by
   have h:(!okR r)=true:=h;simpa using h
  have e:topF r=none:=by unfold topF;rw [h];rfl
  rw [e];exact⟨⟨none,0,rfl,OwnS.nil⟩,hbwY⟩
 have h:okR r=true:=by
  have h:(!okR r)=false:=h;simpa using h
 obtain⟨p0,p48,_⟩:=zbx h;obtain⟨n,hn⟩:∃ n:Nat,r.n=n:=⟨r.n.toNat,by omega⟩;have hn48:n<=48:=by omega
 have sY:=hbY.size;refine⟨Nat,fun M=>⟨[(1,At0 L),(4,At0 M)],[]⟩,fun M Z=>Z.heap[M]?=some (.cells (relC (zbJ r)).toArray 40 (0,0))/\L<M/\Z.heap[L]?=some (.cells (relC r).toArray 40 (0,0))/\WrdR (zbJ r).to/\Bw w Z,?_,?_⟩
 ·refine⟨relC r,zae _,zaa f0Y,hlt f0Y,?_⟩;refine cmo (zi0 hr (hT.below hbwY)) ?_;rintro e Z ⟨rfl,hbZ,hw⟩;refine zal (X:=Z) (v := .agg (relC (zbJ r)).toArray) k40 rfl rfl (zaD _) fun V hbV fV sV=>?_;have sZ:=hbZ.size;exact⟨Z.heap.size,(cvE rfl rfl),fV,by omega,zab hbV (zab hbZ f0Y),hw,((zst hbwY hbZ)).trans (hbV.mono (by omega))⟩
 clear f0 sX hbX hbY hbwY f0Y sY Y X;rintro M X ⟨fM,hLM,f0,hw,hbX⟩;refine⟨Unit,fun _=>⟨[(1,At0 L),(4,At0 M),(5,s64 (allN n))],[]⟩,fun _ Y=>X=Y,?_,?_⟩
 ·refine⟨i64 n,by rw [<- hn];exact zac (zaa f0) (i:=0) rfl,?_⟩;refine cmo zjN ?_;rintro e _ ⟨rfl,rfl⟩;exact⟨(),(cvE rfl rfl),rfl⟩
 rintro _ _ rfl;refine⟨i64 n,by rw [<- hn];exact zac (zaa f0) (i:=0) rfl,?_⟩;refine zeC (E:=natE) Tryz.underlying149 k3 rfl rfl rfl n (by show 8*n<=_;omega) (by unfold maxLen;omega) fun Z oZ hbZ sZ=>?_;have hbwZ:=zst hbX hbZ;have wX:=hbX.size;have eT:topF r=topR (zbJ r).to 64 (allN n) []:=by unfold topF;rw [if_pos h,zgt,hn]
 have hMX:=hlt fM;refine⟨Nat×List Nat×Nat×Option Addr×Nat,fun q=>⟨[(1,At0 L),(4,At0 M),(5,s64 q.1),(6,.slice q.2.2.2.1 q.2.1.length q.2.2.2.2)],[]⟩,
  fun q Y=>(topF r=topR (zbJ r).to q.2.2.1 q.1 q.2.1/\(els q.1).length<=q.2.2.1/\q.2.2.1+q.2.1.length=64/\q.1<2^64/\∀ i∈els q.1,i<48)/\OwnS natE 3 X.heap.size Y q.2.2.2.1 q.2.2.2.2 q.2.1/\Bw X Y,fun q=>q.1,(allN n,[],64,some ⟨X.heap.size,0,none⟩,n),
  (cvE rfl rfl),⟨⟨eT,zgj _,rfl,zb9 _,fun i hi=>by
   rw [show els (allN n)=List.range n from zjy (by omega)] at hi;have:=List.mem_range.1 hi;omega⟩,oZ,hbZ⟩,?_⟩
 rintro⟨q,l,m,p,c⟩ Y ⟨⟨he,hm,hml,hq,h48⟩,ho,hbY⟩;dsimp only at he hm hml hq h48 ho ⊢;have sY:=hbY.size;refine biE (fun hc=>?_) fun hc=>?_
 ·have hc:(!decide ((q:Int)=0))=true:=hc;have h0:q≠0:=fun e=>by
   subst e;exact absurd hc (by decide)
  obtain⟨e1,_,_,_⟩:=zbE h0 hq;have hm1:1<=(els q).length:=by rw [e1];simp
  obtain⟨m,rfl⟩:∃ m',m=m'+1:=⟨m-1,by omega⟩;have fMY:=zab hbY fM;have step:topF r=match zgA (zbJ r).to q with | none=>none | some a=>topR (zbJ r).to m (zdL q (2^a)) (l++[a]):=by
   rw [he];show (if q=0 then some l else _)=_;rw [if_neg h0]
   cases zgA (zbJ r).to q <;> rfl
  refine cmo (zr1 fMY hw hq h48 (hT.below (hbX.trans (hbY.mono wX)))) ?_;rintro e V ⟨rfl,hbV⟩;have hbXV:=hbY.trans (hbV.mono sY)
  cases hf:zgA (zbJ r).to q with
  | none =>
   rw [hf] at step;refine brT ?_;have e:topF r=none:=step;rw [e];exact⟨⟨none,0,rfl,OwnS.nil⟩,hbX.trans (hbXV.mono wX)⟩
  | some a =>
   rw [hf] at step;refine brF ?_;have ha:=zoO hf;have ha48:=h48 a ha;refine⟨⟨by decide,by decide,rfl⟩,natE.enc a,rfl,?_⟩;have hba:Bw V (V.alloc (.cells (natE.enc a).toArray 3)):=zba _ _;have hYa:Bw Y (V.alloc (.cells (natE.enc a).toArray 3)):=zst hbV hba;have sa:(V.alloc (.cells (natE.enc a).toArray 3)).heap.size=V.heap.size+1:=wz _ _;have sV:=hbV.size;refine zbA (E:=natE) (T:=3) (B:=X.heap.size) (l:=l) (news:=[a]) (cap:=c) (m:=1) Tryz.underlying149 k3 rfl rfl rfl (ho.below hYa) rfl (zbi natE a) (by omega) (by omega) (by show (l.length+1)*8<=_;omega) ?_;intro p2 c2 U oU gU hbU hat;refine⟨by omega,_,zbX (e:=a) (by omega),?_⟩;refine⟨_,zdU hq (zaN (by omega)),?_⟩;have hlen:=zdO hq ha;refine⟨(zco q (2^a),l++[a],m,p2,c2),(cvE rfl rfl),⟨⟨step,by show (els (zco q (2^a))).length<=m;omega,by simp only [lap,List.length_cons,List.length_nil];omega,zhE hq,fun i hi=>?_⟩,oU,?_⟩,zoF hq ha⟩
   ·rw [zhT hq ha] at hi;exact h48 i (List.mem_filter.1 hi).1
   ·exact (hbY.trans (hYa.mono sY)).trans hbU
 ·have hc:(!decide ((q:Int)=0))=false:=hc;have h0:q=0:=by
   have h1:decide ((q:Int)=0)=true:=by simpa using hc
   exact Int.ofNat.inj (dT h1)
  subst h0;have e:topF r=some l:=by
   rw [he]
   cases m <;> rfl
  rw [e];exact⟨⟨p,c,rfl,OwnS.lower ho wX⟩,hbX.trans (hbY.mono wX)⟩
theorem zi1 (hr:WrdR r.to) (hT:Tz64M w):CB 61 #[.agg (relC r).toArray] w (.bool (acyR r)):=by
 refine cofE 11 [.agg (relC r).toArray] Tryz.func61 ?_;have f0:=hnew w (.cells (relC r).toArray 40);have hb:Bw w (w.alloc (.cells (relC r).toArray 40)):=zba w _;refine⟨relC r,zae _,zaa f0,hlt f0,?_⟩;refine cmo (ztK hr (hT.below hb)) ?_;rintro e X ⟨⟨p,c,rfl,_⟩,hbX⟩;exact⟨rfl,(zst hb hbX)⟩
end
end Go.Proofs.YtkpkdmipjinoaaaGreatDoor
namespace Go.Vc
open Go.RowKit
theorem KeepsG.more {F G:Nat->Prop} {A B:World} {g:Nat} (h:KeepsG G F A B) (hg:G g):KeepsG G (fun k=>F k\/k=g) A B :=
 ⟨h.os,h.tape,h.output,h.size,h.same,fun k hk=>hk.elim (h.fp k) fun e => .inl (by rw [e];exact hg)⟩
theorem zrd {α:Type} {E:Enc α} {P:Program} {w:World} {t T ty B g cap m c:Nat} {a:Addr} {l news:List α} {iT:TI} (hu:P.underlying t=some (.slice T)) (hT:TIok P T iT) (hs:iT.size=E.sz)
  (ho:OwnS E T B w (some ⟨g,0,none⟩) cap l) (hm:news.length=m) (hn:zav w a (news.flatMap E.enc)) (hroom:l.length+m<=cap) {K:Value->World->Prop}
  (k:∀ w',OwnS E T B w' (some ⟨g,0,none⟩) cap (l++news)->w.grownBy w' (some g)->K (.slice (some ⟨g,0,none⟩) (l++news).length cap) w') :
  SatR ((Builtin.append_ #[t,t] ty #[.slice (some ⟨g,0,none⟩) l.length cap,.slice (some a) m c]).run P w) K:=by
 obtain⟨⟨inf,hi,hsz,_,_⟩,_⟩:=hT;obtain⟨w',hr,ho',hg⟩:=run_append_fits (P:=P) w B t ty T inf E.sz hu hi (hsz.trans hs) g l.length cap (l.flatMap E.enc) ho a m c (news.flatMap E.enc) (by rw [za8,hm]) hn (zhO news) hroom;refine SatR.mk hr ?_;have hl:l.length+m=(l++news).length:=by simp [hm]
 have hf:l.flatMap E.enc++news.flatMap E.enc=(l++news).flatMap E.enc:=by rw [List.flatMap_append]
 rw [hl,hf] at ho';rw [hl];exact k w' ho' hg
theorem OwnS.pref {α:Type} {E:Enc α} {T B cap g:Nat} {w:World} {l m:List α} (h:OwnS E T B w (some ⟨g,0,none⟩) cap (l++m)):OwnS E T B w (some ⟨g,0,none⟩) cap l:=by
 rcases h.inv with ⟨h,_⟩ | ⟨g',cur,hg,hB,hc,hl,hm,hs,ht⟩
 ·cases h
 ·simp only [Option.some.injEq,Addr.mk.injEq,and_true] at hg;subst hg;unfold OwnS World.ownsRow;refine⟨by rw [za8],.inr ⟨g,cap,cur,rfl,hB,hc,by rw [lap] at hl;omega,hm,hs,?_⟩⟩;have:=congrArg (List.take (l.length*E.sz)) ht;rw [List.take_take,List.flatMap_append,List.take_left' (za8 l)] at this;rw [<- this];congr 1;rw [lap,Nat.add_mul];omega
theorem zau {α:Type} {E:Enc α} {T B c:Nat} {Y:World} {q:Option Addr} {l:List α} (h:OwnS E T B Y q c l) {a:Addr} (ha:q=some a):B<=a.block/\a.block<Y.heap.size/\∃ cur,Y.heap[a.block]?=some (.cells cur T (0,0)):=by
 rcases h.inv with ⟨h1,_⟩ | ⟨g,cur,h1,h2,h3,_⟩
 ·rw [h1] at ha;cases ha
 ·rw [h1] at ha;cases ha;exact⟨h2,hlt h3,cur,h3⟩
structure Gath {α:Type} (E:Enc α) (T TS B n0 L:Nat) (W:World) (NIn:(Nat->Prop)->World->α->Prop) (xs:List α) (F:Nat->Prop) (Y:World):Prop where
 size:n0<=Y.heap.size
 inL:F L
 lt:∀ k,F k->k<Y.heap.size
 row:∃ (p:Option Addr) (c:Nat),Y.heap[L]?=some (.cells [.slice p xs.length c].toArray TS (0,0))/\OwnS E T B Y p c xs/\∀ a,p=some a->F a.block
 nest:∀ x∈xs,NIn F Y x
 old:Below B W Y
def zlw {α:Type} (T TS:Nat) (NIn:(Nat->Prop)->World->α->Prop):Prop :=
 ∀ (F G:Nat->Prop) (Y Z:World) (x:α),NIn F Y x->(∀ k cur T',F k->Y.heap[k]?=some (.cells cur T' (0,0))->T'≠T->T'≠TS->Z.heap[k]?=Y.heap[k]?)->(∀ k,F k->G k)->NIn G Z x
theorem Gath.iter {α σ:Type} {E:Enc α} {T TS B n0 L:Nat} {W:World} {NIn:(Nat->Prop)->World->α->Prop} {f:σ->List α->Prop} (hN:zlw T TS NIn) (hB:B<=n0) :
  JG n0 (fun _=>False) (fun (s:σ) F Y=>∃ xs,f s xs/\Gath E T TS B n0 L W NIn xs F Y):=by
 refine⟨?_,?_⟩
 ·rintro s F A C ⟨xs,hf,h⟩ hs;have sf:∀ k,F k->k<A.heap.size->C.heap[k]?=A.heap[k]?:=fun k hk hl=>hs.same k hl (.inr hk);obtain⟨p,c,h1,h2,h3⟩:=h.row;exact⟨xs,hf,Nat.le_trans h.size hs.size,h.inL,fun k hk=>nL (h.lt k hk) hs.size,⟨p,c,(sf L h.inL (h.lt L h.inL)).trans h1,h2.same fun a ha=>sf _ (h3 a ha) (h.lt _ (h3 a ha)),h3⟩,
   fun x hx=>hN F F A C x (h.nest x hx) (fun k _ _ hk _ _ _=>sf k hk (h.lt k hk)) fun k h=>h,h.old.trans ⟨hs.os,hs.tape,hs.output,hs.size,fun k hk=>hs.same k (nL (nL hk hB) h.size) (.inl ⟨by omega,fun h=>h⟩)⟩⟩
 ·rintro s F A k ⟨xs,_,h⟩ hk;exact⟨h.lt k hk,fun h=>h⟩
theorem Gath.stepX {α:Type} {E:Enc α} {P:Program} {T TS B n0 L ty cap1:Nat} {W Y2 Y3:World} {NIn:(Nat->Prop)->World->α->Prop} {xs:List α} {F:Nat->Prop} {iT iS:TI} {z:List Value} (hN:zlw T TS NIn) (hne:T≠TS)
  (hu:P.underlying TS=some (.slice T)) (hT:TIok P T iT) (hz:iT.zero=some z) (hs:iT.size=E.sz) (hzl:z.length=E.sz) (hS:TIok P TS iS) (hS1:iS.size=1)
  (h:Gath E T TS B n0 L W NIn xs F Y2) (hB:B<=n0) (hL:B<=L) (hb3:Bw Y2 Y3) (nx:α) (hl:xs.length+1<=4611686018427387904) (hby:(xs.length+1)*iT.bytes<=140737488355328)
  (hnew:∀ (G:Nat->Prop) (Z:World),(∀ k,Y2.heap.size<=k->k<Y3.heap.size->Z.heap[k]?=Y3.heap[k]?)->(∀ k,Y2.heap.size<=k->k<Y3.heap.size->G k)->(∀ k cur T',F k->Y2.heap[k]?=some (.cells cur T' (0,0))->T'≠T->T'≠TS->Z.heap[k]?=Y2.heap[k]?)->(∀ k,F k->G k)->NIn G Z nx) :
  ∀ p c,Y2.heap[L]?=some (.cells [.slice p xs.length c].toArray TS (0,0)) ->
  ∃ v Y5,(Builtin.append_ #[TS,TS] ty #[.slice p xs.length c,.slice (some ⟨Y3.heap.size,0,none⟩) 1 cap1]).run P (Y3.alloc (.cells (E.enc nx).toArray T)) = .ok v Y5 /\
   ∃ Z,(storeVar TS ⟨L,0,none⟩ v).run P Y5 = .ok () Z/\∃ F',Gath E T TS B n0 L W NIn (xs++[nx]) F' Z/\KeepsG F F' Y2 Z/\∀ k,F k->F' k:=by
 intro p c h4;obtain⟨p',c',h4',h5,h6⟩:=h.row;rw [h4] at h4';simp at h4';obtain⟨rfl,rfl⟩:=h4';have h1:=h.size;have h2:=h.inL;have h3:=h.lt;have hba:Bw Y3 (Y3.alloc (.cells (E.enc nx).toArray T)):=zba _ _;have sa:(Y3.alloc (.cells (E.enc nx).toArray T)).heap.size=Y3.heap.size+1:=wz _ _;have s3:Y2.heap.size<=Y3.heap.size:=hb3.size;have hb2:Bw Y2 (Y3.alloc (.cells (E.enc nx).toArray T)):=hb3.trans (hba.mono s3);have hap:SatR ((Builtin.append_ #[TS,TS] ty #[.slice p xs.length c,.slice (some ⟨Y3.heap.size,0,none⟩) 1 cap1]).run P (Y3.alloc (.cells (E.enc nx).toArray T))) fun v Y5=>∃ p2 c2,v = .slice p2 (xs++[nx]).length c2/\OwnS E T B Y5 p2 c2 (xs++[nx])/\(Y3.alloc (.cells (E.enc nx).toArray T)).grownBy Y5 (Value.slice p xs.length c).ownBlock/\∀ a,p2=some a->p=some a\/a.block=(Y3.alloc (.cells (E.enc nx).toArray T)).heap.size :=
  zbA (E:=E) (T:=T) (B:=B) (l:=xs) (news:=[nx]) (cap:=c) (m:=1) hu hT hz hs hzl (h5.below hb2) rfl (by
   have:=ziV (w:=Y3) (cs:=(E.enc nx).toArray) (t:=T);simpa using this) (by omega) (by omega) hby fun p2 c2 Y5 o5 g5 hb5 hat=>⟨p2,c2,rfl,o5,g5,hat⟩
 obtain⟨v,Y5,hrun,p2,c2,rfl,o5,g5,hat⟩:=hap;have pb:∀ {k:Nat},(Value.slice p xs.length c).ownBlock=some k->∃ a,p=some a/\a.block=k:=fun {k} e=>by
  cases hp:p with
  | none=>rw [hp] at e;simp [Value.ownBlock] at e
  | some a =>
   rw [hp] at e;simp only [Value.ownBlock,Option.some.injEq] at e;exact⟨a,rfl,e⟩
 have h4':Y5.heap[L]?=some (.cells [.slice p xs.length c].toArray TS (0,0)):=by
  refine (g5.block L (hlt (zab hb2 h4)) fun e=>?_).trans (zab hb2 h4);obtain⟨a,hp,e⟩:=pb e.symm;obtain⟨_,_,cur,hcur⟩:=zau h5 hp;rw [e,h4] at hcur;simp at hcur;exact hne hcur.2.symm
 have hst:SatR ((storeVar TS ⟨L,0,none⟩ (.slice p2 (xs++[nx]).length c2)).run P Y5) fun _ Z=>Z.heap[L]?=some (.cells [.slice p2 (xs++[nx]).length c2].toArray TS (0,0))/\Y5.grownBy Z (some L)/\Z.heap.size=Y5.heap.size :=
  zaq hS h4' (o:=0) (v := .slice p2 (xs++[nx]).length c2) rfl hS1 (by show 0<1;decide) rfl fun Z fZ gZ sZ=>⟨fZ,gZ,sZ⟩
 obtain⟨u,Z,hrun2,fZ,gZ,sZ⟩:=hst;have s5:=g5.size;refine⟨_,Y5,hrun,Z,hrun2,fun k=>F k\/(Y2.heap.size<=k/\k<Z.heap.size),?_⟩;have wr:∀ k,k<Y2.heap.size->k≠L->(∀ a,p=some a->k≠a.block)->Z.heap[k]?=Y2.heap[k]?:=fun k hk hne hnp=>by
  refine (gZ.block k (by omega) (by simpa using hne)).trans ((g5.block k (by omega) fun e=>?_).trans (hb2.block k hk));obtain⟨a,hp,e⟩:=pb e.symm;exact hnp a hp e.symm
 have new:∀ k,Y2.heap.size<=k->k<Y3.heap.size->Z.heap[k]?=Y3.heap[k]?:=fun k hk1 hk2=>by
  have hL2:=h3 L h2;refine (gZ.block k (by omega) (by simp;omega)).trans ((g5.block k (by omega) fun e=>?_).trans (hba.block k hk2));obtain⟨a,hp,e⟩:=pb e.symm;have:=h3 _ (h6 a hp);omega
 have ty':∀ k cur T',F k->Y2.heap[k]?=some (.cells cur T' (0,0))->T'≠T->T'≠TS->Z.heap[k]?=Y2.heap[k]?:=fun k cur T' hk hc t1 t2=>by
  refine wr k (h3 k hk) (fun e=>?_) fun a ha e=>?_
  ·rw [e,h4] at hc;simp at hc;exact t2 hc.2.symm
  ·obtain⟨_,_,cur',hcur'⟩:=zau h5 ha;rw [<- e,hc] at hcur';simp at hcur';exact t1 hcur'.2
 refine⟨⟨by omega,.inl h2,fun k hk=>?_,⟨p2,c2,fZ,o5.kept gZ fun g hg e=>?_,fun a ha=>?_⟩,fun y hy=>?_,?_⟩,⟨gZ.os.trans (g5.os.trans hb2.os),gZ.tape.trans (g5.tape.trans hb2.tape),gZ.output.trans (g5.output.trans hb2.output),by omega,fun k hk hf=>wr k hk (fun e=>hf (by rw [e];exact h2)) (fun a ha e=>hf (by rw [e];exact h6 a ha)),fun k hk=>hk.imp id fun h=>h.1⟩,fun k hk => .inl hk⟩
 ·rcases hk with hk | hk
  ·have:=h3 k hk;omega
  ·exact hk.2
 ·obtain⟨_,_,cur,hcur⟩:=zau o5 hg;simp only [Option.some.injEq] at e;have hcur:Y5.heap[g]?=_:=hcur;rw [<- e,h4'] at hcur;simp at hcur;exact hne hcur.2.symm
 ·rcases hat a ha with h | h
  ·exact .inl (h6 a h)
  ·have:=(zau o5 ha).2.1;exact .inr ⟨by omega,by omega⟩
 ·rcases List.mem_append.1 hy with hy | hy
  ·exact hN F _ Y2 Z y (h.nest y hy) ty' fun k hk => .inl hk
  ·simp only [List.mem_singleton] at hy;subst hy;exact hnew _ Z new (fun k hk1 hk2 => .inr ⟨hk1,by omega⟩) ty' fun k hk => .inl hk
 ·refine h.old.trans ⟨gZ.os.trans (g5.os.trans hb2.os),gZ.tape.trans (g5.tape.trans hb2.tape),gZ.output.trans (g5.output.trans hb2.output),by omega,fun k hk=>wr k (by omega) (by omega) fun a ha=>?_⟩;have:=(zau h5 ha).1;omega
theorem Gath.step {α:Type} {E:Enc α} {P:Program} {T TS B n0 L ty cap1:Nat} {W Y2 Y3:World} {NIn:(Nat->Prop)->World->α->Prop} {xs:List α} {F:Nat->Prop} {iT iS:TI} {z:List Value} (hN:zlw T TS NIn) (hne:T≠TS)
  (hu:P.underlying TS=some (.slice T)) (hT:TIok P T iT) (hz:iT.zero=some z) (hs:iT.size=E.sz) (hzl:z.length=E.sz) (hS:TIok P TS iS) (hS1:iS.size=1)
  (h:Gath E T TS B n0 L W NIn xs F Y2) (hB:B<=n0) (hL:B<=L) (hb3:Bw Y2 Y3) (nx:α) (hl:xs.length+1<=4611686018427387904) (hby:(xs.length+1)*iT.bytes<=140737488355328)
  (hnew:∀ (G:Nat->Prop) (Z:World),(∀ k,Y2.heap.size<=k->k<Y3.heap.size->Z.heap[k]?=Y3.heap[k]?)->(∀ k,Y2.heap.size<=k->k<Y3.heap.size->G k)->NIn G Z nx) :
  ∀ p c,Y2.heap[L]?=some (.cells [.slice p xs.length c].toArray TS (0,0)) ->
  ∃ v Y5,(Builtin.append_ #[TS,TS] ty #[.slice p xs.length c,.slice (some ⟨Y3.heap.size,0,none⟩) 1 cap1]).run P (Y3.alloc (.cells (E.enc nx).toArray T)) = .ok v Y5 /\
   ∃ Z,(storeVar TS ⟨L,0,none⟩ v).run P Y5 = .ok () Z/\∃ F',Gath E T TS B n0 L W NIn (xs++[nx]) F' Z/\KeepsG F F' Y2 Z/\∀ k,F k->F' k :=
 h.stepX hN hne hu hT hz hs hzl hS hS1 hB hL hb3 nx hl hby fun G Z h1 h2 _ _=>hnew G Z h1 h2
end Go.Vc
namespace Go.Proofs.YtkpkdmipjinoaaaGreatDoor
open Go.Vc Go.RowKit Go.Sei
abbrev RelH (X : World) (b : Nat) (r : RelD) : Prop := X.heap[b]? = some (.cells (relC r).toArray 40 (0, 0))
def StO (pre : List (List Nat)) (vs : List Value) (W : World) : Prop := ∃ l q c, pre.getLast? = some l ∧ vs = [.slice q l.length c] ∧ SlR natE W q l ∧ (q = none → c = 0) ∧ ∀ a, q = some a → ∃ cur, W.heap[a.block]? = some (.cells cur 3 (0, 0))
section
variable {yl n0 n bB : Nat} {J Jx : List (List Nat) → (Nat → Prop) → World → Prop} {xs : List (List Nat)} {r : RelD}
theorem zoQ (hJ : JG n0 (fun _ => False) J) (hn0 : ∀ pre F X, J pre F X → n0 ≤ X.heap.size) (hy : ∀ pre x vs F W1, J pre F W1 → StO (pre ++ [x]) vs W1 → (pre ++ [x]) <+: xs → YieldR Tryz.prog yl vs.toArray W1 fun v W2 =>
      (v = .bool true ∧ ∃ F', J (pre ++ [x]) F' W2 ∧ KeepsG F F' W1 W2) ∨ (v = .bool false ∧ ∃ F', Jx (pre ++ [x]) F' W2)) (hr : WrdR r.to) (hn : n ≤ 48) (ht0 : 5 < n0) :
    ∀ (m left : Nat) (l : List Nat) (g : Nat) (pre : List (List Nat)) (F : Nat → Prop) (X : World), (els left).length ≤ m → left < 2 ^ 64 → (∀ i ∈ els left, i < 48) → l.length + (els left).length ≤ n → OwnS natE 3 n0 X (some ⟨g, 0, none⟩) n l → ¬ F g → J pre F X → RelH X bB r → ¬ F bB → n0 ≤ bB → bB ≠ g → Tz64M X → ¬ F 5 → (pre ++ extR r.to m left l) <+: xs →
      Calls Tryz.prog 304 #[At0 bB, s64 left, .slice (some ⟨g, 0, none⟩) l.length n, .func (.yield yl) #[] #[]] X fun e Y =>
        (e = .returned (.bool true) ∧ ∃ F', J (pre ++ extR r.to m left l) F' Y ∧ KeepsG (fun k => F k ∨ k = g) F' X Y ∧ OwnS natE 3 n0 Y (some ⟨g, 0, none⟩) n l ∧ ¬ F' g) ∨ (e = .returned (.bool false) ∧ ∃ pre' F', pre' <+: xs ∧ Jx pre' F' Y) := by
  intro m
  induction m with
  | zero =>
    intro left l g pre F X hm hlt64 h48 hln ho hFg hj hR hFb hbn hbg hT hFt hpre
    have h0 : left = 0 := by
      apply Classical.byContradiction
      intro h0
      rw [(zbE h0 hlt64).1] at hm
      simp at hm
    subst h0
    refine za4 (S := sg 56) (sgOk _) (args := [At0 bB, s64 0, .slice (some ⟨g, 0, none⟩) l.length n, .func (.yield yl) #[] #[]]) Tryz.func304 rfl rfl (Nat.le_of_ble_eq_true rfl) rfl ?_
    refine brT ?_
    have hs : extR r.to 0 0 l = [l] := rfl
    rw [hs] at hpre ⊢
    refine YieldR.mono (hy pre l [.slice (some ⟨g, 0, none⟩) l.length n] F X hj ⟨l, _, n, by simp, rfl, ho.row, fun h => (by cases h), fun a ha => (zau ho ha).2.2⟩ hpre) ?_
    rintro v Z (⟨rfl, F', hJZ, hKZ⟩ | ⟨rfl, F', hJZ⟩)
    · have hgl : g < X.heap.size := (zau ho rfl).2.1
      exact .inl ⟨rfl, F', hJZ, hKZ.weak fun k h => .inl h, ho.same fun a ha => by cases ha; exact hKZ.same g hgl hFg, fun h => by
        rcases hKZ.fp g h with h | h
        · exact hFg h
        · omega⟩
    · exact .inr ⟨rfl, _, F', hpre, hJZ⟩
  | succ m ih =>
    intro left l g pre F X hm hlt64 h48 hln ho hFg hj hR hFb hbn hbg hT hFt hpre
    refine za4 (S := sg 56) (sgOk _) (args := [At0 bB, s64 left, .slice (some ⟨g, 0, none⟩) l.length n, .func (.yield yl) #[] #[]]) Tryz.func304 rfl rfl (Nat.le_of_ble_eq_true rfl) rfl ?_
    have hgl : g < X.heap.size := (zau ho rfl).2.1
    have hgn : n0 ≤ g := (zau ho rfl).1
    refine And.intro (fun h => ?_) (fun h => ?_)
    · have h : left = 0 := Int.ofNat.inj (of_decide_eq_true h)
      subst h
      have hs : extR r.to (m + 1) 0 l = [l] := rfl
      rw [hs] at hpre ⊢
      refine YieldR.mono (hy pre l [.slice (some ⟨g, 0, none⟩) l.length n] F X hj ⟨l, _, n, by simp, rfl, ho.row, fun h => (by cases h), fun a ha => (zau ho ha).2.2⟩ hpre) ?_
      rintro v Z (⟨rfl, F', hJZ, hKZ⟩ | ⟨rfl, F', hJZ⟩)
      · exact .inl ⟨rfl, F', hJZ, hKZ.weak fun k h => .inl h, ho.same fun a ha => by cases ha; exact hKZ.same g hgl hFg, fun h => by
        rcases hKZ.fp g h with h | h
        · exact hFg h
        · omega⟩
      · exact .inr ⟨rfl, _, F', hpre, hJZ⟩
    have h : left ≠ 0 := fun e => (of_decide_eq_false h) (by rw [e]; rfl)
    obtain ⟨G, hG⟩ : ∃ G : Nat → List (List Nat), G = fun a => if r.to a &&& left = 0 then extR r.to m (zdL left (2 ^ a)) (l ++ [a]) else [] := ⟨_, rfl⟩
    have hs : extR r.to (m + 1) left l = (els left).flatMap G := by
      rw [hG]
      show (if left = 0 then [l] else _) = _
      rw [if_neg h]
    rw [hs] at hpre ⊢
    refine Calls.mono (zcJ hlt64 hT) ?_
    rintro e X1 ⟨rfl, hb1⟩
    refine ⟨Nat × List Nat × (Nat → Prop), fun s => ⟨[(0, At0 bB), (1, s64 left), (2, .slice (some ⟨g, 0, none⟩) l.length n), (3, .func (.yield yl) #[] #[]), (9, s64 s.1), (10, i64 ((els s.1).headD 0 : Nat)), (11, .bool (!(els s.1).isEmpty))], []⟩,
      fun s Z => (els left = s.2.1 ++ els s.1 ∧ s.1 < 2 ^ 64) ∧ J (pre ++ s.2.1.flatMap G) s.2.2 Z ∧ OwnS natE 3 n0 Z (some ⟨g, 0, none⟩) n l ∧ ¬ s.2.2 g ∧ RelH Z bB r ∧ ¬ s.2.2 bB ∧ Tz64M Z ∧ ¬ s.2.2 5 ∧ KeepsG (fun k => F k ∨ k = g) s.2.2 X Z, fun s => s.1, (left, [], F),
      ⟨.cons rfl (.cons rfl (.cons rfl (.cons rfl (.cons rfl (.cons rfl (.cons rfl .nil)))))), rfl⟩, ⟨⟨rfl, hlt64⟩, by show J (pre ++ []) F X1; rw [List.append_nil]; exact hJ.step _ _ _ _ hj (.below hb1), ho.below hb1, hFg, zab hb1 hR, hFb, hT.below hb1, hFt, KeepsG.below hb1 fun k h => .inl (.inl h)⟩, ?_⟩
    rintro ⟨q, don, F1⟩ Z ⟨⟨he, hq⟩, hjZ, hoZ, hgZ, hRZ, hbZ, hTZ, htZ, kZ⟩
    dsimp only at he hq hjZ hgZ hbZ htZ kZ ⊢
    have hZn := hn0 _ _ _ hjZ
    refine And.intro (fun hc => ?_) (fun hc => ?_)
    · have h0 := zfA hq hc
      obtain ⟨e1, e2, _, e3⟩ := zbE h0 hq
      have hd := (zdp h0 hq).1
      have hmem : ctz q ∈ els left := by rw [he, e1]; simp
      have hc48 : ctz q < 48 := h48 _ hmem
      rw [e1] at he
      have hpa : ∀ t, (don ++ [ctz q]).flatMap t = don.flatMap t ++ t (ctz q) := fun t : Nat → List (List Nat) => by
        rw [List.flatMap_append, List.flatMap_cons, List.flatMap_nil, List.append_nil]
      have next : ∀ {Y : World} {F2 : Nat → Prop}, J (pre ++ (don ++ [ctz q]).flatMap G) F2 Y → OwnS natE 3 n0 Y (some ⟨g, 0, none⟩) n l → ¬ F2 g → RelH Y bB r → ¬ F2 bB → Tz64M Y → ¬ F2 5 → KeepsG (fun k => F k ∨ k = g) F2 X Y →
          ∀ Y2, Below Y.heap.size Y Y2 → ((els left = (don ++ [ctz q]) ++ els (rest q) ∧ rest q < 2 ^ 64) ∧ J (pre ++ (don ++ [ctz q]).flatMap G) F2 Y2 ∧ OwnS natE 3 n0 Y2 (some ⟨g, 0, none⟩) n l ∧ ¬ F2 g ∧ RelH Y2 bB r ∧ ¬ F2 bB ∧ Tz64M Y2 ∧ ¬ F2 5 ∧ KeepsG (fun k => F k ∨ k = g) F2 X Y2) :=
        fun {Y F2} a1 a2 a3 a4 a5 a6 a7 a8 Y2 hb => ⟨⟨by rw [he]; simp, by omega⟩, hJ.step _ _ _ _ a1 (.below hb), a2.below hb, a3, zab hb a4, a5, a6.below hb, a7, a8.trans (KeepsG.below hb fun k h => .inl h)⟩
      refine DrawE.ord [18, 20] [0, 1, 2, 3, 4, 5, 6, 7, 8, 9, 10, 11, 12, 13, 14, 15, 16, 19, 17, 18, 20, 21, 22] (by kernel_rfl) ?_
      have hdZ : Below Z.heap.size Z Z.drew := (Below.refl _ _).drew
      refine ⟨ctz q, congrArg Nat.cast hd.symm, hc48, ?_⟩
      refine ⟨_, zdF (hdr hRZ) hc48, ?_⟩
      refine ⟨_, zbY (hr _ hc48) hlt64, ?_⟩
      refine And.intro (fun hb => ?_) (fun hb => ?_)
      · have hb : r.to (ctz q) &&& left = 0 := Int.ofNat.inj (of_decide_eq_true hb)
        have hGc : G (ctz q) = extR r.to m (zdL left (2 ^ ctz q)) (l ++ [ctz q]) := by rw [hG]; exact if_pos hb
        refine ⟨by omega, ((2 ^ ctz q : Nat) : Int), by rw [hd]; exact zbX (e := ctz q) (by omega), ?_⟩
        refine ⟨_, zdU hlt64 (zaN (by omega)), ?_⟩
        refine ⟨⟨by decide, by decide, rfl⟩, natE.enc (ctz q), by rw [hd]; rfl, ?_⟩
        have hba : Below Z.drew.heap.size Z.drew (Z.drew.alloc (.cells (natE.enc (ctz q)).toArray 3)) := (Below.refl _ _).alloc (Nat.le_refl _) _
        refine ⟨hba, ?_⟩
        have hbA : Below Z.heap.size Z (Z.drew.alloc (.cells (natE.enc (ctz q)).toArray 3)) := hdZ.trans hba
        have hll := zdO hlt64 hmem
        refine zrd (E := natE) (l := l) (news := [ctz q]) (m := 1) Tryz.underlying149 (ttOk.get 3 _ rfl) rfl (hoZ.below hbA) rfl (zbi natE (ctz q)) (by
          have : 1 ≤ (els left).length := by rw [he]; simp; omega
          omega) ?_
        intro Y oY gY
        have hjY := hJ.step _ _ _ _ (hJ.step _ _ _ _ hjZ (.below hbA)) (StepG.grown gY (.inl hgn) hgZ)
        have sA : (Z.drew.alloc (.cells (natE.enc (ctz q)).toArray 3)).heap.size = Z.heap.size + 1 := World.size_alloc _ _
        have hRY : RelH Y bB r := (gY.block bB (hlt (zab hbA hRZ)) (by simpa using hbg)).trans (zab hbA hRZ)
        have htl := zcB hTZ
        have hTY : Tz64M Y := zbZ (hTZ.below hbA) (gY.block _ (by omega) (by
          intro e
          have : 5 = g := by simpa using e
          omega))
        have hpre2 : ((pre ++ don.flatMap G) ++ extR r.to m (zdL left (2 ^ ctz q)) (l ++ [ctz q])) <+: xs := by
          refine List.IsPrefix.trans ?_ hpre
          rw [he, ← hGc, List.flatMap_append, List.flatMap_cons]
          exact ⟨(els (rest q)).flatMap G, by simp only [List.append_assoc]⟩
        refine Calls.mono (ih (zco left (2 ^ ctz q)) (l ++ [ctz q]) g (pre ++ don.flatMap G) F1 Y (by omega) (zhE hlt64) (fun i hi => by
          rw [zhT hlt64 hmem] at hi
          exact h48 i (List.mem_filter.1 hi).1) (by simp only [List.length_append, List.length_cons, List.length_nil]; omega) oY hgZ hjY hRY hbZ hbn hbg hTY htZ hpre2) ?_
        rintro e V (⟨rfl, F2, hjV, kV, oV, hgV⟩ | ⟨rfl, pre', F2, hp', hjx⟩)
        · refine brF ?_
          have kZY : KeepsG (fun k => F1 k ∨ k = g) (fun k => F1 k ∨ k = g) Z Y := (KeepsG.below hbA fun k h => .inl h).trans (KeepsG.grown gY (.inr rfl))
          have kW : KeepsG (fun k => F k ∨ k = g) F2 X V := ((kZ.more (.inr rfl)).trans kZY).trans kV
          have sY := gY.size
          have kYV := kV.size
          have hbV : ¬ F2 bB := fun h => by
            have := hlt hRY
            rcases kV.fp bB h with (h | h) | h
            · exact hbZ h
            · exact hbg h
            · omega
          have htV : ¬ F2 5 := fun h => by
            rcases kV.fp _ h with (h | h) | h
            · exact htZ h
            · omega
            · omega
          have hRV : RelH V bB r := (kV.same bB (hlt hRY) (fun h => h.elim hbZ hbg)).trans hRY
          have hTV : Tz64M V := zbZ hTY (kV.same _ (by omega) (fun h => h.elim htZ fun e => by omega))
          refine ⟨((q - 1 : Nat) : Int), (w64 (a := (q : Int) - 1) (by omega)).trans (by omega), ?_⟩
          refine ⟨((rest q : Nat) : Int), zbY (a := q) (b := q - 1) hq (by omega), ?_⟩
          refine Calls.mono (zcJ (s := rest q) (by omega) hTV) ?_
          rintro e U ⟨rfl, hbU⟩
          exact ⟨(rest q, don ++ [ctz q], F2), ⟨.cons rfl (.cons rfl (.cons rfl (.cons rfl (.cons rfl (.cons rfl (.cons rfl .nil)))))), rfl⟩, next (by rw [hpa, hGc, ← List.append_assoc]; exact hjV) oV.pref hgV hRV hbV hTV htV kW U hbU, e2⟩
        · refine brT ?_
          exact .inr ⟨rfl, pre', F2, hp', hjx⟩
      · have hb : ¬ r.to (ctz q) &&& left = 0 := fun e => (of_decide_eq_false hb) (by rw [e]; rfl)
        have hGc : G (ctz q) = [] := by rw [hG]; exact if_neg hb
        refine brF ?_
        refine ⟨((q - 1 : Nat) : Int), (w64 (a := (q : Int) - 1) (by omega)).trans (by omega), ?_⟩
        refine ⟨((rest q : Nat) : Int), zbY (a := q) (b := q - 1) hq (by omega), ?_⟩
        refine Calls.mono (zcJ (s := rest q) (by omega) (hTZ.below hdZ)) ?_
        rintro e Y ⟨rfl, hbY⟩
        exact ⟨(rest q, don ++ [ctz q], F1), ⟨.cons rfl (.cons rfl (.cons rfl (.cons rfl (.cons rfl (.cons rfl (.cons rfl .nil)))))), rfl⟩, next (by rw [hpa, hGc, List.append_nil]; exact hjZ) hoZ hgZ hRZ hbZ hTZ htZ kZ Y (hdZ.trans hbY), e2⟩
    · have hc : (els q).isEmpty = true := by simpa using hc
      have := zhS hq hc
      subst this
      rw [zdu, List.append_nil] at he
      rw [he]
      exact .inl ⟨rfl, F1, hjZ, kZ, hoZ, hgZ⟩
end
def evE:Enc Ev:=⟨fun e=>[i64 e.th,u8 e.k,u8 e.l,u8 e.v,u8 e.m,u8 e.i,u8 e.p],7,fun _=>rfl,by decide,fun a u hu=>by
 simp only [List.mem_cons,List.not_mem_nil,or_false] at hu;rcases hu with rfl | rfl | rfl | rfl | rfl | rfl | rfl <;> rfl⟩
def seg (n:Nat) (f:Nat->Value):List Value:=(List.range n).map f
def evsC (f:Nat->Ev):List Value:=((List.range 24).map f).flatMap evE.enc
def runC (R:RunD):List Value:=i64 R.pc::(seg 8 (fun i=>u8 (R.regs i))++(seg 8 (fun i=>s32 (R.deps i))++([s32 R.ctl,i64 R.many]++(evsC R.ev ++
 (seg 24 (fun i=>s32 (R.data i))++(seg 24 (fun i=>s32 (R.ctrl i))++seg 24 (fun i=>s32 (R.att i))))))))
theorem zaz (n:Nat) (f:Nat->Value):(seg n f).length=n:=by unfold seg;rw [List.length_map,List.length_range]
theorem zen (f:Nat->Ev):(evsC f).length=168:=by
 unfold evsC;rw [za8,List.length_map,List.length_range];rfl
theorem zfc {n:Nat} (f:Nat->Value) {i:Nat} (h:i<n):(seg n f)[i]?=some (f i):=by
 unfold seg;rw [List.getElem?_map,List.getElem?_range h];rfl
theorem zl6 {n:Nat} (f g:Nat->Value) {i:Nat} (h:i<n) (hg:g i=g i) (hs:∀ j,j≠i->g j=f j):(seg n f).set i (g i)=seg n g:=by
 apply List.ext_getElem?;intro j;by_cases hj:j<n
 ·rw [zfc g hj];by_cases e:i=j
  ·subst e;rw [List.getElem?_set_self (by rw [zaz];exact h)]
  ·rw [List.getElem?_set_ne e,zfc f hj,hs j (fun h=>e h.symm)]
 ·rw [List.getElem?_eq_none (by rw [List.length_set,zaz];omega),List.getElem?_eq_none (by rw [zaz];omega)]
theorem zbt {A B:List Value} {n i:Nat} (h:A.length=n):(A++B)[n+i]?=B[i]?:=by
 rw [List.getElem?_append_right (by omega),h,Nat.add_sub_cancel_left]
theorem zhK {B:List Value} {n i:Nat} {f:Nat->Value} (h:i<n):(seg n f++B)[i]?=some (f i):=by
 rw [List.getElem?_append_left (by rw [zaz];exact h),zfc f h]
theorem zbS {A B:List Value} {n i:Nat} (h:A.length=n) {v:Value}:(A++B).set (n+i) v=A++B.set i v:=by
 rw [List.set_append_right _ _ (by omega),h,Nat.add_sub_cancel_left]
theorem zfJ {B:List Value} {n i:Nat} {f:Nat->Value} (g:Nat->Value) (h:i<n) (hs:∀ j,j≠i->g j=f j):(seg n f++B).set i (g i)=seg n g++B:=by
 rw [List.set_append_left _ _ (by rw [zaz];exact h),zl6 f g h rfl hs]
theorem zcu (R:RunD):(runC R).length=259:=by
 unfold runC;simp only [List.length_cons,lap,zaz,zen,List.length_nil]
section
variable (R:RunD)
theorem zpU {i:Nat} (h:i<8):(runC R)[1+i]?=some (u8 (R.regs i)):=by
 unfold runC;rw [Nat.add_comm,List.getElem?_cons_succ,zhK h]
theorem zpV {i:Nat} (h:i<8):(runC R)[9+i]?=some (s32 (R.deps i)):=by
 unfold runC;rw [show 9+i=(8+i)+1 by omega,List.getElem?_cons_succ,zbt (zaz _ _),zhK h]
theorem zic:∃ A,A.length=16/\runC R=i64 R.pc::(A++([s32 R.ctl,i64 R.many]++(evsC R.ev++(seg 24 (fun i=>s32 (R.data i))++(seg 24 (fun i=>s32 (R.ctrl i))++seg 24 (fun i=>s32 (R.att i))))))) :=
 ⟨seg 8 (fun i=>u8 (R.regs i))++seg 8 (fun i=>s32 (R.deps i)),by rw [lap,zaz,zaz],by unfold runC;rw [List.append_assoc]⟩
theorem zpW:(runC R)[17]?=some (s32 R.ctl):=by
 obtain⟨A,hA,e⟩:=zic R;rw [e];exact (zbt (i:=0) hA).trans rfl
theorem zdg:(runC R)[18]?=some (i64 R.many):=by
 obtain⟨A,hA,e⟩:=zic R;rw [e];exact (zbt (i:=1) hA).trans rfl
theorem zoh {i:Nat} (h:i<24):(runC R)[187+i]?=some (s32 (R.data i)):=by
 obtain⟨A,hA,e⟩:=zic R;rw [e,show 187+i=(16+(2+(168+i)))+1 by omega,List.getElem?_cons_succ,zbt hA,zbt (A:=[s32 R.ctl,i64 R.many]) (n:=2) rfl,zbt (zen _),zhK h]
theorem zoi {i:Nat} (h:i<24):(runC R)[211+i]?=some (s32 (R.ctrl i)):=by
 obtain⟨A,hA,e⟩:=zic R;rw [e,show 211+i=(16+(2+(168+(24+i))))+1 by omega,List.getElem?_cons_succ,zbt hA,zbt (A:=[s32 R.ctl,i64 R.many]) (n:=2) rfl,zbt (zen _),zbt (zaz _ _),zhK h]
theorem zpX {i:Nat} (h:i<24):(runC R)[235+i]?=some (s32 (R.att i)):=by
 obtain⟨A,hA,e⟩:=zic R;rw [e,show 235+i=(16+(2+(168+(24+(24+i)))))+1 by omega,List.getElem?_cons_succ,zbt hA,zbt (A:=[s32 R.ctl,i64 R.many]) (n:=2) rfl,zbt (zen _),zbt (zaz _ _),zbt (zaz _ _),zfc _ h]
theorem zkV (n:Nat):(runC R).set 0 (i64 n)=runC { R with pc:=n }:=rfl
theorem zi6 {i:Nat} (h:i<8) (v:UInt8):(runC R).set (1+i) (u8 v)=runC { R with regs:=upd R.regs i v }:=by
 unfold runC;rw [Nat.add_comm,List.set_cons_succ];have:=zfJ (B:=seg 8 (fun i=>s32 (R.deps i))++([s32 R.ctl,i64 R.many]++(evsC R.ev++(seg 24 (fun i=>s32 (R.data i))++(seg 24 (fun i=>s32 (R.ctrl i))++seg 24 (fun i=>s32 (R.att i))))))) (f:=fun i=>u8 (R.regs i)) (fun j=>u8 (upd R.regs i v j)) h (fun j hj=>by rw [zcN _ _ hj]);rw [zbo] at this;rw [this]
theorem zi7 {i:Nat} (h:i<8) (v:Nat):(runC R).set (9+i) (s32 v)=runC { R with deps:=upd R.deps i v }:=by
 unfold runC;rw [show 9+i=(8+i)+1 by omega,List.set_cons_succ,zbS (zaz _ _)];have:=zfJ (B:=[s32 R.ctl,i64 R.many]++(evsC R.ev++(seg 24 (fun i=>s32 (R.data i))++(seg 24 (fun i=>s32 (R.ctrl i))++seg 24 (fun i=>s32 (R.att i)))))) (f:=fun i=>s32 (R.deps i)) (fun j=>s32 (upd R.deps i v j)) h (fun j hj=>by rw [zcN _ _ hj]);rw [zbo] at this;rw [this]
theorem zid (v:Nat):(runC R).set 18 (i64 v)=runC { R with many:=v }:=by
 unfold runC;show i64 R.pc::(seg 8 (fun i=>u8 (R.regs i))++_).set (8+(8+1)) (i64 v)=_;rw [zbS (zaz _ _),zbS (zaz _ _)];rfl
theorem zie {i:Nat} (h:i<24) (v:Nat):(runC R).set (187+i) (s32 v)=runC { R with data:=upd R.data i v }:=by
 unfold runC;rw [show 187+i=(8+(8+(2+(168+i))))+1 by omega,List.set_cons_succ,zbS (zaz _ _),zbS (zaz _ _),zbS (A:=[s32 R.ctl,i64 R.many]) (n:=2) rfl,zbS (zen _)];have:=zfJ (B:=seg 24 (fun i=>s32 (R.ctrl i))++seg 24 (fun i=>s32 (R.att i))) (f:=fun i=>s32 (R.data i)) (fun j=>s32 (upd R.data i v j)) h (fun j hj=>by rw [zcN _ _ hj]);rw [zbo] at this;rw [this]
theorem zif {i:Nat} (h:i<24) (v:Nat):(runC R).set (211+i) (s32 v)=runC { R with ctrl:=upd R.ctrl i v }:=by
 unfold runC;rw [show 211+i=(8+(8+(2+(168+(24+i)))))+1 by omega,List.set_cons_succ,zbS (zaz _ _),zbS (zaz _ _),zbS (A:=[s32 R.ctl,i64 R.many]) (n:=2) rfl,zbS (zen _),zbS (zaz _ _)];have:=zfJ (B:=seg 24 (fun i=>s32 (R.att i))) (f:=fun i=>s32 (R.ctrl i)) (fun j=>s32 (upd R.ctrl i v j)) h (fun j hj=>by rw [zcN _ _ hj]);rw [zbo] at this;rw [this]
theorem zqj {α:Type} (f:Nat->α) {n i:Nat} (h:i<n) (v:α):((List.range n).map f).set i v=(List.range n).map (upd f i v):=by
 apply List.ext_getElem?;intro j;by_cases hj:j<n
 ·rw [List.getElem?_map,List.getElem?_range hj];by_cases e:i=j
  ·subst e;rw [List.getElem?_set_self (by simpa using h)];show _=some (upd f i v i);rw [zbo]
  ·rw [List.getElem?_set_ne e,List.getElem?_map,List.getElem?_range hj];show some (f j)=some (upd f i v j);rw [zcN _ _ (fun h=>e h.symm)]
 ·rw [List.getElem?_eq_none (by simp;omega),List.getElem?_eq_none (by simp;omega)]
theorem zkW {i:Nat} (h:i<24) (v:Ev):(runC R).take (19+i*7)++evE.enc v++(runC R).drop (19+i*7+7)=runC { R with ev:=upd R.ev i v }:=by
 obtain⟨A,hA,e⟩:∃ A:List Value,A.length=19/\∀ ev,runC { R with ev:=ev }=A++(evsC ev++(seg 24 (fun i=>s32 (R.data i))++(seg 24 (fun i=>s32 (R.ctrl i))++seg 24 (fun i=>s32 (R.att i))))) :=
  ⟨i64 R.pc::(seg 8 (fun i=>u8 (R.regs i))++(seg 8 (fun i=>s32 (R.deps i))++[s32 R.ctl,i64 R.many])),by
   simp only [List.length_cons,lap,zaz,List.length_nil],fun ev=>by
   unfold runC;simp only [List.cons_append,List.append_assoc,List.nil_append]⟩
 have e1:runC R=_:=e R.ev;rw [e1,e,<- hA,List.take_length_add_append,Nat.add_assoc,List.drop_length_add_append];have:=zku (E:=evE) ((List.range 24).map R.ev) (i:=i) (by simpa using h) v (seg 24 (fun i=>s32 (R.data i))++(seg 24 (fun i=>s32 (R.ctrl i))++seg 24 (fun i=>s32 (R.att i))));rw [zqj _ h] at this;unfold evsC;rw [List.append_assoc,List.append_assoc,<- this,List.append_assoc];rfl
end
theorem zpt (f:Nat->Ev) {i:Nat} (h:i<24):((evsC f).drop (i*7)).take 7=evE.enc (f i):=by
 unfold evsC;have:=zfy (E:=evE) ((List.range 24).map f) i (by simpa using h);rw [List.getElem_map,List.getElem_range] at this;exact this
theorem zl9 {R:RunD} {w:World} {b:Nat} {t:TypeId} (f:w.heap[b]?=some (.cells (runC R).toArray t (0,0))):zav w ⟨b,19,none⟩ (evsC R.ev):=by
 have h:=zaa f;unfold runC at h;have h1:=zaF (n:=19) (m:=168) h;have e:((i64 R.pc::(seg 8 (fun i=>u8 (R.regs i))++(seg 8 (fun i=>s32 (R.deps i))++([s32 R.ctl,i64 R.many]++(evsC R.ev++(seg 24 (fun i=>s32 (R.data i))++(seg 24 (fun i=>s32 (R.ctrl i))++seg 24 (fun i=>s32 (R.att i))))))))).drop 19).take 168=evsC R.ev:=by
  show ((seg 8 (fun i=>u8 (R.regs i))++_).drop (8+(8+2))).take 168=_;have d:∀ {A B:List Value} {n i:Nat},A.length=n->(A++B).drop (n+i)=B.drop i:=fun {A B n i} h=>by rw [<- h,List.drop_length_add_append]
  rw [d (zaz _ _),d (zaz _ _)];show (evsC R.ev++_).take 168=_;rw [List.take_left' (zen _)]
 rw [<- e];exact h1
end Go.Proofs.YtkpkdmipjinoaaaGreatDoor
