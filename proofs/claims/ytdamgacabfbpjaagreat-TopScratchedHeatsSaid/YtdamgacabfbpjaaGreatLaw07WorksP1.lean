/-
  Printed by wip/tools/mkparts2.py from what wip/tools/ck2.py found: quinellalaw07.Works in parts.
-/
import Derived.Test.YtdamgacabfbpjaaGreatLj
set_option maxRecDepth 1000000
set_option maxHeartbeats 0
namespace Go.Proofs.YtdamgacabfbpjaaGreat
theorem z0y:zdt EE Tryz.prog 100000 8 (zak 24) zo5 zo6 (zc8 zo7 1192 0) zo8 zo9 zpa 2511 0=true:=by decide +kernel
end Go.Proofs.YtdamgacabfbpjaaGreat
