/-
  Printed by wip/tools/mkparts2.py from what wip/tools/ck2.py found: quinellalaw05.Works in parts.
-/
import Derived.Test.YtnfdiohfojjnlaaGreatLj
import Derived.Test.YtnfdiohfojjnlaaGreatLx
set_option maxRecDepth 1000000
set_option maxHeartbeats 0
namespace Go.Proofs.YtnfdiohfojjnlaaGreat
theorem zys:zcs EE Tryz.prog 100000 2 (zaa 184) zmt zmu (zcf zmv 2553 0) zmw zmx zmy 3248 0=true:=by decide +kernel
theorem zwq:ziw EE Tryz.prog 100000 11 (zaa 184) zmw zmx (zcf zmy 3248 0) (zc2 0)=true:=by decide +kernel
theorem zwr:ziw EW Tryz.prog 100000 40 (zaa 297) [.c []] (⟨.leaf,zbm 297⟩:Tm) st0 (zc2 0)=true:=by decide +kernel
end Go.Proofs.YtnfdiohfojjnlaaGreat
