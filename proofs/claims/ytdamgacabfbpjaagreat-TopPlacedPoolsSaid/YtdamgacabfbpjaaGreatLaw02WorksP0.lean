/-
  Printed by wip/tools/mkparts2.py from what wip/tools/ck2.py found: quinellalaw02.Works in parts.
-/
import Derived.Test.YtdamgacabfbpjaaGreatLx
set_option maxRecDepth 1000000
set_option maxHeartbeats 0
namespace Go.Proofs.YtdamgacabfbpjaaGreat
theorem zr3:zlo EW Tryz.prog 100000 40 (zaa 190) [.c []] (⟨.leaf,zbi 190⟩:Tm) st0 (zcy 0)=true:=by decide +kernel
end Go.Proofs.YtdamgacabfbpjaaGreat
