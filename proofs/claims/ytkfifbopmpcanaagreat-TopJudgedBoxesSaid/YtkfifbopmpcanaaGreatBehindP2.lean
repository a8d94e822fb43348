/-
  Printed by wip/tools/mkparts2.py from what wip/tools/ck2.py found: lag.Behind in parts.
-/
import Derived.Test.YtkfifbopmpcanaaGreatLj
set_option maxRecDepth 1000000
set_option maxHeartbeats 0
namespace Go.Proofs.YtkfifbopmpcanaaGreat
theorem z21:zbw EE Tryz.prog 100000 13 (zad 348) zqz zq0 (zbl zq1 9326 8000) zq2 zq3 zq4 10603 8000=true:=by decide +kernel
end Go.Proofs.YtkfifbopmpcanaaGreat
