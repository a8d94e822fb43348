/-
  Printed by wip/tools/mkparts.py from what wip/tools/ck.py found: quinellalaw03.Works in parts.
-/
import Derived.Test.YtdamgacabfbpjaaGreatLj
set_option maxRecDepth 1000000
set_option maxHeartbeats 0
namespace Go.Proofs.YtdamgacabfbpjaaGreat
theorem zt1:zdp EE Tryz.prog 100000 5 (zao 0 (zaa 191)) (⟨.leaf,zbi 191⟩:Tm) st0 zjn zjo 350=true:=by decide +kernel
end Go.Proofs.YtdamgacabfbpjaaGreat
set_option maxRecDepth 1000000
set_option maxHeartbeats 0
namespace Go.Proofs.YtdamgacabfbpjaaGreat
theorem zt2:zdp EE Tryz.prog 100000 2 (zao 0 (zaa 133)) (⟨.leaf,zbi 133⟩:Tm) st0 zjp zjq 3=true:=by decide +kernel
end Go.Proofs.YtdamgacabfbpjaaGreat
set_option maxRecDepth 1000000
set_option maxHeartbeats 0
namespace Go.Proofs.YtdamgacabfbpjaaGreat
theorem zr4:zmx EE Tryz.prog 100000 (zao 2 (zaa 133)) zjp (ckSt zjq 3) 0=true:=by decide +kernel
end Go.Proofs.YtdamgacabfbpjaaGreat
