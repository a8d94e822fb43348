/-
  Printed by wip/tools/mkparts2.py from what wip/tools/ck2.py found: quinellalaw07.Works in parts.
-/
import Derived.Test.YtdamgacabfbpjaaGreatLj
set_option maxRecDepth 1000000
set_option maxHeartbeats 0
namespace Go.Proofs.YtdamgacabfbpjaaGreat
theorem zr8:zlo EE Tryz.prog 100000 9 (zaa 24) zkr zks (zbt zkt 2511 0) (zcy 0)=true:=by decide +kernel
end Go.Proofs.YtdamgacabfbpjaaGreat
