/-
  Printed by wip/tools/mkparts2.py from what wip/tools/ck2.py found: quinellalaw02.Works in parts.
-/
import Derived.Test.YtnoffnkmibjndaaGreatLx
set_option maxRecDepth 1000000
set_option maxHeartbeats 0
namespace Go.Proofs.YtnoffnkmibjndaaGreat
theorem zx6:zsz EW Tryz.prog 100000 40 (zaq 97) [.c []] (⟨.leaf,zcw 97⟩:Tm) st0 (zfq 0)=true:=by decide +kernel
end Go.Proofs.YtnoffnkmibjndaaGreat
