/-
  Printed by wip/tools/mkparts.py from what wip/tools/ck.py found: quinellalaw03.Works in parts.
-/
import Derived.Test.YtdcnbeehckgpcaaGreatLj
set_option maxRecDepth 1000000
set_option maxHeartbeats 0
namespace Go.Proofs.YtdcnbeehckgpcaaGreat
theorem z0s:ztj EE Tryz.prog 100000 (zbr 5 (zax 207)) zos (zna zot 350) 0=true:=by decide +kernel
end Go.Proofs.YtdcnbeehckgpcaaGreat
