/-
  Printed by wip/tools/mkparts.py from what wip/tools/ck.py found: quinellalaw01.Works in parts.
-/
import Derived.Test.YtnoffnkmibjndaaGreatLj
set_option maxRecDepth 1000000
set_option maxHeartbeats 0
namespace Go.Proofs.YtnoffnkmibjndaaGreat
theorem zzu:zfp EE Tryz.prog 100000 7 (zbf 0 (zaq 96)) (⟨.leaf,zcw 96⟩:Tm) st0 znh zni 561=true:=by decide +kernel
theorem zzv:zfp EE Tryz.prog 100000 1 (zbf 8 (zaq 96)) znj (zmc znk 2628) znl znm 2750=true:=by decide +kernel
theorem zzw:zfp EE Tryz.prog 100000 3 (zbf 10 (zaq 96)) znn (zmc zno 5281) znp znq 6346=true:=by decide +kernel
theorem zzx:zfp EE Tryz.prog 100000 1 (zbf 14 (zaq 96)) znr (zmc zns 8459) znt znu 8748=true:=by decide +kernel
end Go.Proofs.YtnoffnkmibjndaaGreat
