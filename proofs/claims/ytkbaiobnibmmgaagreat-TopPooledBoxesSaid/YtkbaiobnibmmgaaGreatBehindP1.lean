/-
  Printed by wip/tools/mkparts2.py from what wip/tools/ck2.py found: lag.Behind in parts.
-/
import Derived.Test.YtkbaiobnibmmgaaGreatLj
set_option maxRecDepth 1000000
set_option maxHeartbeats 0
namespace Go.Proofs.YtkbaiobnibmmgaaGreat
theorem z3j:zb6 EE Tryz.prog 100000 13 (zae 342) zrp zrq (zbv zrr 8091 8000) zrs zrt zru 9326 8000=true:=by decide +kernel
end Go.Proofs.YtkbaiobnibmmgaaGreat
