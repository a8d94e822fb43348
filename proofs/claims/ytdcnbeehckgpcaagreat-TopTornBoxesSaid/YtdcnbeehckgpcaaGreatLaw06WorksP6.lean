/-
  Printed by wip/tools/mkparts2.py from what wip/tools/ck2.py found: quinellalaw06.Works in parts.
-/
import Derived.Test.YtdcnbeehckgpcaaGreatLj
set_option maxRecDepth 1000000
set_option maxHeartbeats 0
namespace Go.Proofs.YtdcnbeehckgpcaaGreat
theorem z23:zdz EE Tryz.prog 100000 11 (zax 67) zpn zpo (zdh zpp 8485 0) zpq zpr zps 10142 0=true:=by decide +kernel
end Go.Proofs.YtdcnbeehckgpcaaGreat
