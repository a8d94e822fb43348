/-
  Printed by wip/tools/mkparts.py from what wip/tools/ck.py found: quinellalaw03.Works in parts.
-/
import Derived.Test.YtnfdiohfojjnlaaGreatLj
set_option maxRecDepth 1000000
set_option maxHeartbeats 0
namespace Go.Proofs.YtnfdiohfojjnlaaGreat
theorem zyt:zfc EE Tryz.prog 100000 5 (za5 0 (zaa 298)) (⟨.leaf,zbm 298⟩:Tm) st0 zmj zmk 350=true:=by decide +kernel
theorem zyu:zfc EE Tryz.prog 100000 2 (za5 0 (zaa 240)) (⟨.leaf,zbm 240⟩:Tm) st0 zml zmm 3=true:=by decide +kernel
theorem zws:zqp EE Tryz.prog 100000 (za5 2 (zaa 240)) zml (zky zmm 3) 0=true:=by decide +kernel
theorem zwt:ziw EE Tryz.prog 100000 5 (zaa 49) znq znr (zcf zns 1772 0) (zc2 0)=true:=by decide +kernel
end Go.Proofs.YtnfdiohfojjnlaaGreat
