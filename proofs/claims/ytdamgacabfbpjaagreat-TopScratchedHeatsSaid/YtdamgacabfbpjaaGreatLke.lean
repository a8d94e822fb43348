/-
  Printed by wip/tools/mkparts2.py from what wip/tools/ck2.py found: quinellalaw06.Works in parts.
-/
import Derived.Test.YtdamgacabfbpjaaGreatLj
set_option maxRecDepth 1000000
set_option maxHeartbeats 0
namespace Go.Proofs.YtdamgacabfbpjaaGreat
theorem z0s:zdt EE Tryz.prog 100000 4 (zak 49) zok zol (zc8 zom 1205 0) zon zoo zop 2841 0=true:=by decide +kernel
theorem z0t:zdt EE Tryz.prog 100000 2 (zak 49) zow zox (zc8 zoy 7338 0) zoz zo0 zo1 8485 0=true:=by decide +kernel
end Go.Proofs.YtdamgacabfbpjaaGreat
