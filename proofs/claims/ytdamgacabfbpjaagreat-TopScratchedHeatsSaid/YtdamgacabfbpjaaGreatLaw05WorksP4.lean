/-
  Printed by wip/tools/mkparts2.py from what wip/tools/ck2.py found: quinellalaw05.Works in parts.
-/
import Derived.Test.YtdamgacabfbpjaaGreatLj
set_option maxRecDepth 1000000
set_option maxHeartbeats 0
namespace Go.Proofs.YtdamgacabfbpjaaGreat
theorem zyd:zqd EE Tryz.prog 100000 11 (zak 85) zoh zoi (zc8 zoj 3248 0) (ze5 0)=true:=by decide +kernel
end Go.Proofs.YtdamgacabfbpjaaGreat
