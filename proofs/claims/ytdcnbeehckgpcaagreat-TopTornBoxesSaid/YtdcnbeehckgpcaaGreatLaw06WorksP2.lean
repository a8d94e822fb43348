/-
  Printed by wip/tools/mkparts2.py from what wip/tools/ck2.py found: quinellalaw06.Works in parts.
-/
import Derived.Test.YtdcnbeehckgpcaaGreatLj
set_option maxRecDepth 1000000
set_option maxHeartbeats 0
namespace Go.Proofs.YtdcnbeehckgpcaaGreat
theorem z21:zdz EE Tryz.prog 100000 4 (zax 67) zpb zpc (zdh zpd 2841 0) zpe zpf zpg 4531 0=true:=by decide +kernel
end Go.Proofs.YtdcnbeehckgpcaaGreat
