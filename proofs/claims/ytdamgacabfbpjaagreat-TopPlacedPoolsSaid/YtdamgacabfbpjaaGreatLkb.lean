/-
  Printed by wip/tools/mkparts.py from what wip/tools/ck.py found: lag.Late in parts.
-/
import Derived.Test.YtdamgacabfbpjaaGreatLj
set_option maxRecDepth 1000000
set_option maxHeartbeats 0
namespace Go.Proofs.YtdamgacabfbpjaaGreat
theorem z4w:zn0 EE Tryz.prog 100000 2 (zao 0 (zaa 279)) (⟨zc3 ([.sl 0 0 3 3,.sl 3 0 1 1]:List AV) 0 .leaf,zbi 279⟩:Tm) (⟨(trOf [(0,.cells [iN 3,iN 4,iN 4]),(1,.cells [iN 0,iN 2,iN 4]),(3,.cells [.sl 1 0 3 3])]:Tr AO),6000,0,0⟩:St) zs7 zs8 6090 6000=true:=by decide +kernel
end Go.Proofs.YtdamgacabfbpjaaGreat
set_option maxRecDepth 1000000
set_option maxHeartbeats 0
namespace Go.Proofs.YtdamgacabfbpjaaGreat
theorem z2o:zb4 EE Tryz.prog 100000 26 (zaa 280) [.c []] (⟨zc3 ([.sl 0 0 3 3,.sl 3 0 1 1]:List AV) 0 .leaf,zbi 280⟩:Tm) (⟨trOf [(0,.cells [iN 3,iN 4,iN 4]),(1,.cells [iN 0,iN 2,iN 4]),(3,.cells [.sl 1 0 3 3])],8000,0,0⟩:St) zqo zqp zqq 8091 8000=true:=by decide +kernel
end Go.Proofs.YtdamgacabfbpjaaGreat
