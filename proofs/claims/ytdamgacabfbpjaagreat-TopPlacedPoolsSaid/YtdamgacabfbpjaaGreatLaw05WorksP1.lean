/-
  Printed by wip/tools/mkparts2.py from what wip/tools/ck2.py found: quinellalaw05.Works in parts.
-/
import Derived.Test.YtdamgacabfbpjaaGreatLj
set_option maxRecDepth 1000000
set_option maxHeartbeats 0
namespace Go.Proofs.YtdamgacabfbpjaaGreat
theorem zt4:zb4 EE Tryz.prog 100000 10 (zaa 85) zjr zjs (zbt zjt 652 0) zju zjv zjw 1540 0=true:=by decide +kernel
end Go.Proofs.YtdamgacabfbpjaaGreat
