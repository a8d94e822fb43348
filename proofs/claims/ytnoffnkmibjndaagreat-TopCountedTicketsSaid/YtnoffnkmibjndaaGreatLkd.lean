/-
  Printed by wip/tools/mkparts2.py from what wip/tools/ck2.py found: quinellalaw06.Works in parts.
-/
import Derived.Test.YtnoffnkmibjndaaGreatLj
set_option maxRecDepth 1000000
set_option maxHeartbeats 0
namespace Go.Proofs.YtnoffnkmibjndaaGreat
theorem zz7:zd2 EE Tryz.prog 100000 15 (zaq 17) [.c []] (⟨.leaf,zcw 17⟩:Tm) st0 zob zoc zod 1205 0=true:=by decide +kernel
theorem zz8:zd2 EE Tryz.prog 100000 2 (zaq 17) zoh zoi (zdg zoj 4531 0) zok zol zom 5305 0=true:=by decide +kernel
theorem zya:zsz EE Tryz.prog 100000 4 (zaq 17) zot zou (zdg zov 10142 0) (zfq 0)=true:=by decide +kernel
end Go.Proofs.YtnoffnkmibjndaaGreat
