/-
  Printed by wip/tools/mkparts.py from what wip/tools/ck.py found: lag.Late in parts.
-/
import Derived.Test.YtdcnbeehckgpcaaGreatLj
set_option maxRecDepth 1000000
set_option maxHeartbeats 0
namespace Go.Proofs.YtdcnbeehckgpcaaGreat
theorem zahe:zuw EE Tryz.prog 100000 2 (zbr 0 (zax 286)) (⟨zf1 ([.sl 0 0 3 3,.sl 3 0 1 1]:List AV) 0 .leaf,zcs 286⟩:Tm) (⟨(zat [(0,.cells [iN 3,iN 4,iN 4]),(1,.cells [iN 0,iN 2,iN 4]),(3,.cells [.sl 1 0 3 3])]:Tr AO),6000,0,0⟩:St) z19 z2a 6090 6000=true:=by decide +kernel
theorem zaep:zdz EE Tryz.prog 100000 26 (zax 287) [.c []] (⟨zf1 ([.sl 0 0 3 3,.sl 3 0 1 1]:List AV) 0 .leaf,zcs 287⟩:Tm) (⟨zat [(0,.cells [iN 3,iN 4,iN 4]),(1,.cells [iN 0,iN 2,iN 4]),(3,.cells [.sl 1 0 3 3])],8000,0,0⟩:St) zyv zyw zyx 8091 8000=true:=by decide +kernel
theorem z2q:zdz EE Tryz.prog 100000 29 (zax 20) [.c []] (⟨.leaf,zcs 20⟩:Tm) st0 zpz zp0 zp1 1772 0=true:=by decide +kernel
end Go.Proofs.YtdcnbeehckgpcaaGreat
