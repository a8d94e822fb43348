/-
  Printed by wip/tools/mkparts2.py from what wip/tools/ck2.py found: quinellalaw05.Works in parts.
-/
import Derived.Test.YtdamgacabfbpjaaGreatLj
set_option maxRecDepth 1000000
set_option maxHeartbeats 0
namespace Go.Proofs.YtdamgacabfbpjaaGreat
theorem zt5:zb4 EE Tryz.prog 100000 8 (zaa 85) zju zjv (zbt zjw 1540 0) zjx zjy zjz 2553 0=true:=by decide +kernel
end Go.Proofs.YtdamgacabfbpjaaGreat
