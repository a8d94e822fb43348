/-
  Printed by wip/tools/mkparts2.py from what wip/tools/ck2.py found: quinellalaw05.Works in parts.
-/
import Derived.Test.YtdcnbeehckgpcaaGreatLj
set_option maxRecDepth 1000000
set_option maxHeartbeats 0
namespace Go.Proofs.YtdcnbeehckgpcaaGreat
theorem z2u:zdz EE Tryz.prog 100000 13 (zax 113) [.c []] (⟨.leaf,zcs 113⟩:Tm) st0 zow zox zoy 652 0=true:=by decide +kernel
theorem z2v:zdz EE Tryz.prog 100000 10 (zax 113) zow zox (zdh zoy 652 0) zoz zo0 zo1 1540 0=true:=by decide +kernel
theorem z2w:zdz EE Tryz.prog 100000 8 (zax 113) zoz zo0 (zdh zo1 1540 0) zo2 zo3 zo4 2553 0=true:=by decide +kernel
end Go.Proofs.YtdcnbeehckgpcaaGreat
