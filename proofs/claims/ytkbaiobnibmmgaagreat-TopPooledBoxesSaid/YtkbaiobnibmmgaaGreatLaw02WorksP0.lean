/-
  Printed by wip/tools/mkparts2.py from what wip/tools/ck2.py found: quinellalaw02.Works in parts.
-/
import Derived.Test.YtkbaiobnibmmgaaGreatLx
set_option maxRecDepth 1000000
set_option maxHeartbeats 0
namespace Go.Proofs.YtkbaiobnibmmgaaGreat
theorem zs0:zh9 EW Tryz.prog 100000 40 (zae 250) [.c []] (⟨.leaf,zbl 250⟩:Tm) st0 (zct 0)=true:=by decide +kernel
end Go.Proofs.YtkbaiobnibmmgaaGreat
