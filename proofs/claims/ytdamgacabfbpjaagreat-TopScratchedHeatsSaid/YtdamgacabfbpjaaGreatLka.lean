/-
  Printed by wip/tools/mkparts.py from what wip/tools/ck.py found: quinellalaw01.Works in parts.
-/
import Derived.Test.YtdamgacabfbpjaaGreatLj
set_option maxRecDepth 1000000
set_option maxHeartbeats 0
namespace Go.Proofs.YtdamgacabfbpjaaGreat
theorem z0d:zf4 EE Tryz.prog 100000 7 (zbh 0 (zak 189)) (⟨.leaf,zcy 189⟩:Tm) st0 znq znr 561=true:=by decide +kernel
theorem z0e:zf4 EE Tryz.prog 100000 1 (zbh 8 (zak 189)) zns (zmh znt 2628) znu znv 2750=true:=by decide +kernel
theorem z0f:zf4 EE Tryz.prog 100000 3 (zbh 10 (zak 189)) znw (zmh znx 5281) zny znz 6346=true:=by decide +kernel
theorem z0g:zf4 EE Tryz.prog 100000 1 (zbh 14 (zak 189)) zn0 (zmh zn1 8459) zn2 zn3 8748=true:=by decide +kernel
end Go.Proofs.YtdamgacabfbpjaaGreat
