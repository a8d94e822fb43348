/-
  Printed by wip/tools/mkparts2.py from what wip/tools/ck2.py found: lag.Behind in parts.
-/
import Derived.Test.YtkfifbopmpcanaaGreatLj
set_option maxRecDepth 1000000
set_option maxHeartbeats 0
namespace Go.Proofs.YtkfifbopmpcanaaGreat
theorem z20:zbw EE Tryz.prog 100000 13 (zad 348) zqw zqx (zbl zqy 8091 8000) zqz zq0 zq1 9326 8000=true:=by decide +kernel
end Go.Proofs.YtkfifbopmpcanaaGreat
