/-
  Printed by wip/tools/mkparts.py from what wip/tools/ck.py found: quinellalaw01.Works in parts.
-/
import Derived.Test.YtdamgacabfbpjaaGreatLj
set_option maxRecDepth 1000000
set_option maxHeartbeats 0
namespace Go.Proofs.YtdamgacabfbpjaaGreat
theorem zt0:zdp EE Tryz.prog 100000 1 (zao 13 (zaa 189)) zjh (ckSt zji 6346) zjj zjk 8459=true:=by decide +kernel
end Go.Proofs.YtdamgacabfbpjaaGreat
