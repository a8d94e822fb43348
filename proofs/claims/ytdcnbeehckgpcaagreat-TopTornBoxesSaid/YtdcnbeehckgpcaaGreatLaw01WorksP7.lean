/-
  Printed by wip/tools/mkparts.py from what wip/tools/ck.py found: quinellalaw01.Works in parts.
-/
import Derived.Test.YtdcnbeehckgpcaaGreatLj
set_option maxRecDepth 1000000
set_option maxHeartbeats 0
namespace Go.Proofs.YtdcnbeehckgpcaaGreat
theorem z0n:ztj EE Tryz.prog 100000 (zbr 15 (zax 205)) zoq (zna zor 8748) 0=true:=by decide +kernel
end Go.Proofs.YtdcnbeehckgpcaaGreat
