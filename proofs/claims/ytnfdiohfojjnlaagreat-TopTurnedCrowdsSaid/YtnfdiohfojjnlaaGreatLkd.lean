/-
  Printed by wip/tools/mkparts2.py from what wip/tools/ck2.py found: quinellalaw06.Works in parts.
-/
import Derived.Test.YtnfdiohfojjnlaaGreatLj
set_option maxRecDepth 1000000
set_option maxHeartbeats 0
namespace Go.Proofs.YtnfdiohfojjnlaaGreat
theorem zyy:zcs EE Tryz.prog 100000 15 (zaa 137) [.c []] (⟨.leaf,zbm 137⟩:Tm) st0 zmz zm0 zm1 1205 0=true:=by decide +kernel
theorem zyz:zcs EE Tryz.prog 100000 2 (zaa 137) zm5 zm6 (zcf zm7 4531 0) zm8 zm9 zna 5305 0=true:=by decide +kernel
theorem zwv:ziw EE Tryz.prog 100000 4 (zaa 137) znh zni (zcf znj 10142 0) (zc2 0)=true:=by decide +kernel
theorem zy0:zcs EE Tryz.prog 100000 4 (zaa 137) zmz zm0 (zcf zm1 1205 0) zm2 zm3 zm4 2841 0=true:=by decide +kernel
theorem zy1:zcs EE Tryz.prog 100000 2 (zaa 137) znb znc (zcf znd 7338 0) zne znf zng 8485 0=true:=by decide +kernel
end Go.Proofs.YtnfdiohfojjnlaaGreat
