/-
  Printed by wip/tools/mkparts2.py from what wip/tools/ck2.py found: quinellalaw06.Works in parts.
-/
import Derived.Test.YtdamgacabfbpjaaGreatLj
set_option maxRecDepth 1000000
set_option maxHeartbeats 0
namespace Go.Proofs.YtdamgacabfbpjaaGreat
theorem zt7:zb4 EE Tryz.prog 100000 15 (zaa 49) [.c []] (⟨.leaf,zbi 49⟩:Tm) st0 zj3 zj4 zj5 1205 0=true:=by decide +kernel
end Go.Proofs.YtdamgacabfbpjaaGreat
set_option maxRecDepth 1000000
set_option maxHeartbeats 0
namespace Go.Proofs.YtdamgacabfbpjaaGreat
theorem zt8:zb4 EE Tryz.prog 100000 2 (zaa 49) zj9 zka (zbt zkb 4531 0) zkc zkd zke 5305 0=true:=by decide +kernel
end Go.Proofs.YtdamgacabfbpjaaGreat
set_option maxRecDepth 1000000
set_option maxHeartbeats 0
namespace Go.Proofs.YtdamgacabfbpjaaGreat
theorem zr7:zlo EE Tryz.prog 100000 4 (zaa 49) zkl zkm (zbt zkn 10142 0) (zcy 0)=true:=by decide +kernel
end Go.Proofs.YtdamgacabfbpjaaGreat
