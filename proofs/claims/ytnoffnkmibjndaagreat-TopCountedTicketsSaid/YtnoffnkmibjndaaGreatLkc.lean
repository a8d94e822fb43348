/-
  Printed by wip/tools/mkparts.py from what wip/tools/ck.py found: quinellalaw03.Works in parts.
-/
import Derived.Test.YtnoffnkmibjndaaGreatLj
set_option maxRecDepth 1000000
set_option maxHeartbeats 0
namespace Go.Proofs.YtnoffnkmibjndaaGreat
theorem zz1:zfp EE Tryz.prog 100000 5 (zbf 0 (zaq 98)) (⟨.leaf,zcw 98⟩:Tm) st0 znv znw 350=true:=by decide +kernel
theorem zz2:zfp EE Tryz.prog 100000 2 (zbf 0 (zaq 56)) (⟨.leaf,zcw 56⟩:Tm) st0 znx zny 3=true:=by decide +kernel
theorem zx7:zrp EE Tryz.prog 100000 (zbf 2 (zaq 56)) znx (zmc zny 3) 0=true:=by decide +kernel
end Go.Proofs.YtnoffnkmibjndaaGreat
