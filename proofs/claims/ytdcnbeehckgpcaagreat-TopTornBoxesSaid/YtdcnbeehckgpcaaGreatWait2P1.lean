/-
  Printed by wip/tools/mkparts.py from what wip/tools/ck.py found: lag.Wait in parts.
-/
import Derived.Test.YtdcnbeehckgpcaaGreatLj
set_option maxRecDepth 1000000
set_option maxHeartbeats 0
namespace Go.Proofs.YtdcnbeehckgpcaaGreat
theorem zaeo:zrl EE Tryz.prog 100000 (zbr 2 (zax 285)) z17 (zdh z18 4469 4000) 4000 5695 [(4,iN 4),(5,iN 0)]=true:=by decide +kernel
end Go.Proofs.YtdcnbeehckgpcaaGreat
