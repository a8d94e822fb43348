/-
  Printed by wip/tools/mkparts.py from what wip/tools/ck.py found: quinellalaw03.Works in parts.
-/
import Derived.Test.YtdamgacabfbpjaaGreatLj
set_option maxRecDepth 1000000
set_option maxHeartbeats 0
namespace Go.Proofs.YtdamgacabfbpjaaGreat
theorem z0k:zf4 EE Tryz.prog 100000 5 (zbh 0 (zak 191)) (⟨.leaf,zcy 191⟩:Tm) st0 zn4 zn5 350=true:=by decide +kernel
theorem z0l:zf4 EE Tryz.prog 100000 2 (zbh 0 (zak 133)) (⟨.leaf,zcy 133⟩:Tm) st0 zn6 zn7 3=true:=by decide +kernel
theorem zyb:zrv EE Tryz.prog 100000 (zbh 2 (zak 133)) zn6 (zmh zn7 3) 0=true:=by decide +kernel
end Go.Proofs.YtdamgacabfbpjaaGreat
