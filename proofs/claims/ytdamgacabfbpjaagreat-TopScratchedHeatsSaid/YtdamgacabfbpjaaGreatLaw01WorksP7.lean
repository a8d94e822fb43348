/-
  Printed by wip/tools/mkparts.py from what wip/tools/ck.py found: quinellalaw01.Works in parts.
-/
import Derived.Test.YtdamgacabfbpjaaGreatLj
set_option maxRecDepth 1000000
set_option maxHeartbeats 0
namespace Go.Proofs.YtdamgacabfbpjaaGreat
theorem zx9:zrv EE Tryz.prog 100000 (zbh 15 (zak 189)) zn2 (zmh zn3 8748) 0=true:=by decide +kernel
end Go.Proofs.YtdamgacabfbpjaaGreat
