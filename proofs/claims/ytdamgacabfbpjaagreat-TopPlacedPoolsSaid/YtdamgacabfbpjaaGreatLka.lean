/-
  Printed by wip/tools/mkparts.py from what wip/tools/ck.py found: quinellalaw01.Works in parts.
-/
import Derived.Test.YtdamgacabfbpjaaGreatLj
set_option maxRecDepth 1000000
set_option maxHeartbeats 0
namespace Go.Proofs.YtdamgacabfbpjaaGreat
theorem ztu:zdp EE Tryz.prog 100000 7 (zao 0 (zaa 189)) (⟨.leaf,zbi 189⟩:Tm) st0 zi9 zja 561=true:=by decide +kernel
end Go.Proofs.YtdamgacabfbpjaaGreat
set_option maxRecDepth 1000000
set_option maxHeartbeats 0
namespace Go.Proofs.YtdamgacabfbpjaaGreat
theorem ztv:zdp EE Tryz.prog 100000 1 (zao 8 (zaa 189)) zjb (ckSt zjc 2628) zjd zje 2750=true:=by decide +kernel
end Go.Proofs.YtdamgacabfbpjaaGreat
set_option maxRecDepth 1000000
set_option maxHeartbeats 0
namespace Go.Proofs.YtdamgacabfbpjaaGreat
theorem ztw:zdp EE Tryz.prog 100000 3 (zao 10 (zaa 189)) zjf (ckSt zjg 5281) zjh zji 6346=true:=by decide +kernel
end Go.Proofs.YtdamgacabfbpjaaGreat
set_option maxRecDepth 1000000
set_option maxHeartbeats 0
namespace Go.Proofs.YtdamgacabfbpjaaGreat
theorem ztx:zdp EE Tryz.prog 100000 1 (zao 14 (zaa 189)) zjj (ckSt zjk 8459) zjl zjm 8748=true:=by decide +kernel
end Go.Proofs.YtdamgacabfbpjaaGreat
