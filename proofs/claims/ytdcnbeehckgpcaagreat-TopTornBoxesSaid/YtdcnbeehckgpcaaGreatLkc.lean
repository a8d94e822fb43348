/-
  Printed by wip/tools/mkparts.py from what wip/tools/ck.py found: quinellalaw03.Works in parts.
-/
import Derived.Test.YtdcnbeehckgpcaaGreatLj
set_option maxRecDepth 1000000
set_option maxHeartbeats 0
namespace Go.Proofs.YtdcnbeehckgpcaaGreat
theorem z2s:zg4 EE Tryz.prog 100000 5 (zbr 0 (zax 207)) (⟨.leaf,zcs 207⟩:Tm) st0 zos zot 350=true:=by decide +kernel
theorem z2t:zg4 EE Tryz.prog 100000 2 (zbr 0 (zax 161)) (⟨.leaf,zcs 161⟩:Tm) st0 zou zov 3=true:=by decide +kernel
theorem z0q:ztj EE Tryz.prog 100000 (zbr 2 (zax 161)) zou (zna zov 3) 0=true:=by decide +kernel
theorem z0r:zmw EE Tryz.prog 100000 5 (zax 20) zpz zp0 (zdh zp1 1772 0) (zez 0)=true:=by decide +kernel
end Go.Proofs.YtdcnbeehckgpcaaGreat
