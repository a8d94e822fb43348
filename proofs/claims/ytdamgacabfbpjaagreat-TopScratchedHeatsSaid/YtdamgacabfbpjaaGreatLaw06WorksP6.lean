/-
  Printed by wip/tools/mkparts2.py from what wip/tools/ck2.py found: quinellalaw06.Works in parts.
-/
import Derived.Test.YtdamgacabfbpjaaGreatLj
set_option maxRecDepth 1000000
set_option maxHeartbeats 0
namespace Go.Proofs.YtdamgacabfbpjaaGreat
theorem z0w:zdt EE Tryz.prog 100000 11 (zak 49) zoz zo0 (zc8 zo1 8485 0) zo2 zo3 zo4 10142 0=true:=by decide +kernel
end Go.Proofs.YtdamgacabfbpjaaGreat
