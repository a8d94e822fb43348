/-
  Printed by wip/tools/mkparts.py from what wip/tools/ck.py found: quinellalaw03.Works in parts.
-/
import Derived.Test.YtdamgacabfbpjaaGreatLj
set_option maxRecDepth 1000000
set_option maxHeartbeats 0
namespace Go.Proofs.YtdamgacabfbpjaaGreat
theorem zyc:zrv EE Tryz.prog 100000 (zbh 5 (zak 191)) zn4 (zmh zn5 350) 0=true:=by decide +kernel
end Go.Proofs.YtdamgacabfbpjaaGreat
