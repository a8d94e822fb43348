/-
  Printed by wip/tools/mkparts2.py from what wip/tools/ck2.py found: quinellalaw06.Works in parts.
-/
import Derived.Test.YtdcnbeehckgpcaaGreatLj
set_option maxRecDepth 1000000
set_option maxHeartbeats 0
namespace Go.Proofs.YtdcnbeehckgpcaaGreat
theorem z22:zdz EE Tryz.prog 100000 2 (zax 67) zph zpi (zdh zpj 5305 0) zpk zpl zpm 7338 0=true:=by decide +kernel
end Go.Proofs.YtdcnbeehckgpcaaGreat
