/-
  Printed by wip/tools/mkparts2.py from what wip/tools/ck2.py found: quinellalaw07.Works in parts.
-/
import Derived.Test.YtdcnbeehckgpcaaGreatLj
set_option maxRecDepth 1000000
set_option maxHeartbeats 0
namespace Go.Proofs.YtdcnbeehckgpcaaGreat
theorem z24:zdz EE Tryz.prog 100000 27 (zax 38) [.c []] (⟨.leaf,zcs 38⟩:Tm) st0 zpt zpu zpv 1192 0=true:=by decide +kernel
theorem z25:zdz EE Tryz.prog 100000 8 (zax 38) zpt zpu (zdh zpv 1192 0) zpw zpx zpy 2511 0=true:=by decide +kernel
theorem z0u:zmw EE Tryz.prog 100000 9 (zax 38) zpw zpx (zdh zpy 2511 0) (zez 0)=true:=by decide +kernel
end Go.Proofs.YtdcnbeehckgpcaaGreat
