/-
  Printed by wip/tools/mkparts2.py from what wip/tools/ck2.py found: quinellalaw07.Works in parts.
-/
import Derived.Test.YtdamgacabfbpjaaGreatLj
set_option maxRecDepth 1000000
set_option maxHeartbeats 0
namespace Go.Proofs.YtdamgacabfbpjaaGreat
theorem zyf:zqd EE Tryz.prog 100000 9 (zak 24) zo8 zo9 (zc8 zpa 2511 0) (ze5 0)=true:=by decide +kernel
end Go.Proofs.YtdamgacabfbpjaaGreat
