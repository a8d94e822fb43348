/-
  Printed by wip/tools/mkparts2.py from what wip/tools/ck2.py found: quinellalaw07.Works in parts.
-/
import Derived.Test.YtnfdiohfojjnlaaGreatLj
set_option maxRecDepth 1000000
set_option maxHeartbeats 0
namespace Go.Proofs.YtnfdiohfojjnlaaGreat
theorem zy5:zcs EE Tryz.prog 100000 27 (zaa 91) [.c []] (⟨.leaf,zbm 91⟩:Tm) st0 znk znl znm 1192 0=true:=by decide +kernel
theorem zy6:zcs EE Tryz.prog 100000 8 (zaa 91) znk znl (zcf znm 1192 0) znn zno znp 2511 0=true:=by decide +kernel
theorem zww:ziw EE Tryz.prog 100000 9 (zaa 91) znn zno (zcf znp 2511 0) (zc2 0)=true:=by decide +kernel
end Go.Proofs.YtnfdiohfojjnlaaGreat
