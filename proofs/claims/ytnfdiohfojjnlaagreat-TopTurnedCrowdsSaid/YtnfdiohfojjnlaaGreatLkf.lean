/-
  Printed by wip/tools/mkparts2.py from what wip/tools/ck2.py found: quinellalaw05.Works in parts.
-/
import Derived.Test.YtnfdiohfojjnlaaGreatLj
set_option maxRecDepth 1000000
set_option maxHeartbeats 0
namespace Go.Proofs.YtnfdiohfojjnlaaGreat
theorem zyv:zcs EE Tryz.prog 100000 13 (zaa 184) [.c []] (⟨.leaf,zbm 184⟩:Tm) st0 zmn zmo zmp 652 0=true:=by decide +kernel
theorem zyw:zcs EE Tryz.prog 100000 10 (zaa 184) zmn zmo (zcf zmp 652 0) zmq zmr zms 1540 0=true:=by decide +kernel
theorem zyx:zcs EE Tryz.prog 100000 8 (zaa 184) zmq zmr (zcf zms 1540 0) zmt zmu zmv 2553 0=true:=by decide +kernel
end Go.Proofs.YtnfdiohfojjnlaaGreat
