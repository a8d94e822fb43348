/-
  Printed by wip/tools/mkparts2.py from what wip/tools/ck2.py found: lag.Behind in parts.
-/
import Derived.Test.YtdcnbeehckgpcaaGreatLj
set_option maxRecDepth 1000000
set_option maxHeartbeats 0
namespace Go.Proofs.YtdcnbeehckgpcaaGreat
theorem zaer:zdz EE Tryz.prog 100000 13 (zax 287) zyv zyw (zdh zyx 8091 8000) zyy zyz zy0 9326 8000=true:=by decide +kernel
theorem zaes:zdz EE Tryz.prog 100000 13 (zax 287) zyy zyz (zdh zy0 9326 8000) zy1 zy2 zy3 10603 8000=true:=by decide +kernel
theorem zabp:zmw EE Tryz.prog 100000 12 (zax 287) zy1 zy2 (zdh zy3 10603 8000) (zu0 8000 11885 [(4,.slo 11884 0 3 1),(5,iN 0)] [(11884,.cells [iN 4,iN 5,iN 7])])=true:=by decide +kernel
end Go.Proofs.YtdcnbeehckgpcaaGreat
