/-
  Printed by wip/tools/mkparts.py from what wip/tools/ck.py found: quinellalaw01.Works in parts.
-/
import Derived.Test.YtdamgacabfbpjaaGreatLj
set_option maxRecDepth 1000000
set_option maxHeartbeats 0
namespace Go.Proofs.YtdamgacabfbpjaaGreat
theorem z0j:zf4 EE Tryz.prog 100000 1 (zbh 13 (zak 189)) zny (zmh znz 6346) zn0 zn1 8459=true:=by decide +kernel
end Go.Proofs.YtdamgacabfbpjaaGreat
