/-
  Printed by wip/tools/mkparts2.py from what wip/tools/ck2.py found: lag.Behind in parts.
-/
import Derived.Test.YtdamgacabfbpjaaGreatLj
set_option maxRecDepth 1000000
set_option maxHeartbeats 0
namespace Go.Proofs.YtdamgacabfbpjaaGreat
theorem z2r:zb4 EE Tryz.prog 100000 13 (zaa 280) zqr zqs (zbt zqt 9326 8000) zqu zqv zqw 10603 8000=true:=by decide +kernel
end Go.Proofs.YtdamgacabfbpjaaGreat
