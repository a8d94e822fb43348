/-
  Printed by wip/tools/mkparts2.py from what wip/tools/ck2.py found: quinellalaw06.Works in parts.
-/
import Derived.Test.YtkbaiobnibmmgaaGreatLj
set_option maxRecDepth 1000000
set_option maxHeartbeats 0
namespace Go.Proofs.YtkbaiobnibmmgaaGreat
theorem zvb:zb6 EE Tryz.prog 100000 2 (zae 104) zkp zkq (zbv zkr 5305 0) zks zkt zku 7338 0=true:=by decide +kernel
end Go.Proofs.YtkbaiobnibmmgaaGreat
