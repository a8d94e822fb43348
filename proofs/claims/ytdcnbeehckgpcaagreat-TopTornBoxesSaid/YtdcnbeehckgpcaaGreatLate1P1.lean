/-
  Printed by wip/tools/mkparts.py from what wip/tools/ck.py found: lag.Late in parts.
-/
import Derived.Test.YtdcnbeehckgpcaaGreatLj
set_option maxRecDepth 1000000
set_option maxHeartbeats 0
namespace Go.Proofs.YtdcnbeehckgpcaaGreat
theorem zaeq:zrl EE Tryz.prog 100000 (zbr 2 (zax 286)) z19 (zdh z2a 6090 6000) 6000 7496 [(4,iN 2),(5,iN 0)]=true:=by decide +kernel
end Go.Proofs.YtdcnbeehckgpcaaGreat
