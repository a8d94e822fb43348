/-
  Printed by wip/tools/mkparts2.py from what wip/tools/ck2.py found: quinellalaw07.Works in parts.
-/
import Derived.Test.YtdamgacabfbpjaaGreatLj
set_option maxRecDepth 1000000
set_option maxHeartbeats 0
namespace Go.Proofs.YtdamgacabfbpjaaGreat
theorem zue:zb4 EE Tryz.prog 100000 27 (zaa 24) [.c []] (⟨.leaf,zbi 24⟩:Tm) st0 zko zkp zkq 1192 0=true:=by decide +kernel
end Go.Proofs.YtdamgacabfbpjaaGreat
