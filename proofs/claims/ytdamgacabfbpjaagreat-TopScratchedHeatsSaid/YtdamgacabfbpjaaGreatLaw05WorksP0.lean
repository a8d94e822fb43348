/-
  Printed by wip/tools/mkparts2.py from what wip/tools/ck2.py found: quinellalaw05.Works in parts.
-/
import Derived.Test.YtdamgacabfbpjaaGreatLj
set_option maxRecDepth 1000000
set_option maxHeartbeats 0
namespace Go.Proofs.YtdamgacabfbpjaaGreat
theorem z0m:zdt EE Tryz.prog 100000 13 (zak 85) [.c []] (⟨.leaf,zcy 85⟩:Tm) st0 zn8 zn9 zoa 652 0=true:=by decide +kernel
end Go.Proofs.YtdamgacabfbpjaaGreat
