/-
  Printed by wip/tools/mkparts.py from what wip/tools/ck.py found: quinellalaw01.Works in parts.
-/
import Derived.Test.YtdcnbeehckgpcaaGreatLj
set_option maxRecDepth 1000000
set_option maxHeartbeats 0
namespace Go.Proofs.YtdcnbeehckgpcaaGreat
theorem z2o:zg4 EE Tryz.prog 100000 1 (zbr 9 (zax 205)) zoi (zna zoj 2750) zok zol 5281=true:=by decide +kernel
end Go.Proofs.YtdcnbeehckgpcaaGreat
