/-
  Printed by wip/tools/mkparts2.py from what wip/tools/ck2.py found: quinellalaw06.Works in parts.
-/
import Derived.Test.YtdamgacabfbpjaaGreatLj
set_option maxRecDepth 1000000
set_option maxHeartbeats 0
namespace Go.Proofs.YtdamgacabfbpjaaGreat
theorem zud:zb4 EE Tryz.prog 100000 11 (zaa 49) zki zkj (zbt zkk 8485 0) zkl zkm zkn 10142 0=true:=by decide +kernel
end Go.Proofs.YtdamgacabfbpjaaGreat
