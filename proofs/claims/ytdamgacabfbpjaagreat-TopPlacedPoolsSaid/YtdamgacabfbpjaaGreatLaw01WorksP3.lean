/-
  Printed by wip/tools/mkparts.py from what wip/tools/ck.py found: quinellalaw01.Works in parts.
-/
import Derived.Test.YtdamgacabfbpjaaGreatLj
set_option maxRecDepth 1000000
set_option maxHeartbeats 0
namespace Go.Proofs.YtdamgacabfbpjaaGreat
theorem ztz:zdp EE Tryz.prog 100000 1 (zao 9 (zaa 189)) zjd (ckSt zje 2750) zjf zjg 5281=true:=by decide +kernel
end Go.Proofs.YtdamgacabfbpjaaGreat
