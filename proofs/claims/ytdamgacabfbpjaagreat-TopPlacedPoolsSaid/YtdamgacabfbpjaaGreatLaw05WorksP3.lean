/-
  Printed by wip/tools/mkparts2.py from what wip/tools/ck2.py found: quinellalaw05.Works in parts.
-/
import Derived.Test.YtdamgacabfbpjaaGreatLj
set_option maxRecDepth 1000000
set_option maxHeartbeats 0
namespace Go.Proofs.YtdamgacabfbpjaaGreat
theorem zt6:zb4 EE Tryz.prog 100000 2 (zaa 85) zjx zjy (zbt zjz 2553 0) zj0 zj1 zj2 3248 0=true:=by decide +kernel
end Go.Proofs.YtdamgacabfbpjaaGreat
