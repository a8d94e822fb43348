/-
  Printed by wip/tools/mkparts.py from what wip/tools/ck.py found: quinellalaw01.Works in parts.
-/
import Derived.Test.YtdamgacabfbpjaaGreatLj
set_option maxRecDepth 1000000
set_option maxHeartbeats 0
namespace Go.Proofs.YtdamgacabfbpjaaGreat
theorem zty:zdp EE Tryz.prog 100000 1 (zao 7 (zaa 189)) zi9 (ckSt zja 561) zjb zjc 2628=true:=by decide +kernel
end Go.Proofs.YtdamgacabfbpjaaGreat
