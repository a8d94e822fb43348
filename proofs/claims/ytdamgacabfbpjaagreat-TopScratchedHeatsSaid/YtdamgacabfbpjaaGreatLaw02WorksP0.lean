/-
  Printed by wip/tools/mkparts2.py from what wip/tools/ck2.py found: quinellalaw02.Works in parts.
-/
import Derived.Test.YtdamgacabfbpjaaGreatLx
set_option maxRecDepth 1000000
set_option maxHeartbeats 0
namespace Go.Proofs.YtdamgacabfbpjaaGreat
theorem zya:zqd EW Tryz.prog 100000 40 (zak 190) [.c []] (⟨.leaf,zcy 190⟩:Tm) st0 (ze5 0)=true:=by decide +kernel
end Go.Proofs.YtdamgacabfbpjaaGreat
