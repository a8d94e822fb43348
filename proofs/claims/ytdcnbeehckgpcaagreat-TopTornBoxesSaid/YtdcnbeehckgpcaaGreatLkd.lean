/-
  Printed by wip/tools/mkparts2.py from what wip/tools/ck2.py found: quinellalaw06.Works in parts.
-/
import Derived.Test.YtdcnbeehckgpcaaGreatLj
set_option maxRecDepth 1000000
set_option maxHeartbeats 0
namespace Go.Proofs.YtdcnbeehckgpcaaGreat
theorem z2x:zdz EE Tryz.prog 100000 15 (zax 67) [.c []] (⟨.leaf,zcs 67⟩:Tm) st0 zo8 zo9 zpa 1205 0=true:=by decide +kernel
theorem z2y:zdz EE Tryz.prog 100000 2 (zax 67) zpe zpf (zdh zpg 4531 0) zph zpi zpj 5305 0=true:=by decide +kernel
theorem z0t:zmw EE Tryz.prog 100000 4 (zax 67) zpq zpr (zdh zps 10142 0) (zez 0)=true:=by decide +kernel
theorem z2z:zdz EE Tryz.prog 100000 4 (zax 67) zo8 zo9 (zdh zpa 1205 0) zpb zpc zpd 2841 0=true:=by decide +kernel
theorem z20:zdz EE Tryz.prog 100000 2 (zax 67) zpk zpl (zdh zpm 7338 0) zpn zpo zpp 8485 0=true:=by decide +kernel
end Go.Proofs.YtdcnbeehckgpcaaGreat
