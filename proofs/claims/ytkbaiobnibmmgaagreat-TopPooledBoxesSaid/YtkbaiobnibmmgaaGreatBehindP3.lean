/-
  Printed by wip/tools/mkparts2.py from what wip/tools/ck2.py found: lag.Behind in parts.
-/
import Derived.Test.YtkbaiobnibmmgaaGreatLj
set_option maxRecDepth 1000000
set_option maxHeartbeats 0
namespace Go.Proofs.YtkbaiobnibmmgaaGreat
theorem z0w:zh9 EE Tryz.prog 100000 12 (zae 342) zrv zrw (zbv zrx 10603 8000) (zo5 8000 11885 [(4,.slo 11884 0 3 1),(5,iN 0)] [(11884,.cells [iN 4,iN 5,iN 7])])=true:=by decide +kernel
end Go.Proofs.YtkbaiobnibmmgaaGreat
