/-
  Printed by wip/tools/mkparts.py from what wip/tools/ck.py found: quinellalaw01.Works in parts.
-/
import Derived.Test.YtdamgacabfbpjaaGreatLj
set_option maxRecDepth 1000000
set_option maxHeartbeats 0
namespace Go.Proofs.YtdamgacabfbpjaaGreat
theorem z0i:zf4 EE Tryz.prog 100000 1 (zbh 9 (zak 189)) znu (zmh znv 2750) znw znx 5281=true:=by decide +kernel
end Go.Proofs.YtdamgacabfbpjaaGreat
