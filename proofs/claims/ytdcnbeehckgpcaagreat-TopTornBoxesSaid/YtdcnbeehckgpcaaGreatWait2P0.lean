/-
  Printed by wip/tools/mkparts.py from what wip/tools/ck.py found: lag.Wait in parts.
-/
import Derived.Test.YtdcnbeehckgpcaaGreatLj
set_option maxRecDepth 1000000
set_option maxHeartbeats 0
namespace Go.Proofs.YtdcnbeehckgpcaaGreat
theorem zahd:zuw EE Tryz.prog 100000 2 (zbr 0 (zax 285)) (⟨zf1 ([.sl 0 0 3 3,.sl 4 0 2 2]:List AV) 0 .leaf,zcs 285⟩:Tm) (⟨(zat [(0,.cells [iN 3,iN 4,iN 4]),(1,.cells [iN 0,iN 2,iN 4]),(4,.cells [.sl 1 0 3 3,.sl 1 0 3 3])]:Tr AO),4000,0,0⟩:St) z17 z18 4469 4000=true:=by decide +kernel
end Go.Proofs.YtdcnbeehckgpcaaGreat
