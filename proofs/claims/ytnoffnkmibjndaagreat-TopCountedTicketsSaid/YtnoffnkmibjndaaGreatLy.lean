/-
  Printed by wip/tools/mkparts2.py from what wip/tools/ck2.py found: quinellalaw02.Works in parts.
-/
import Derived.Test.YtnoffnkmibjndaaGreatLaw02WorksP0
import Derived.Test.YtnoffnkmibjndaaGreatLkc
import Derived.Test.YtnoffnkmibjndaaGreatLaw03WorksP1
import Derived.Test.YtnoffnkmibjndaaGreatLaw05WorksP0
import Derived.Test.YtnoffnkmibjndaaGreatLaw05WorksP1
import Derived.Test.YtnoffnkmibjndaaGreatLaw05WorksP2
import Derived.Test.YtnoffnkmibjndaaGreatLaw05WorksP3
import Derived.Test.YtnoffnkmibjndaaGreatLaw05WorksP4
import Derived.Test.YtnoffnkmibjndaaGreatLkd
import Derived.Test.YtnoffnkmibjndaaGreatLke
import Derived.Test.YtnoffnkmibjndaaGreatLaw06WorksP2
import Derived.Test.YtnoffnkmibjndaaGreatLaw06WorksP4
import Derived.Test.YtnoffnkmibjndaaGreatLaw06WorksP6
import Derived.Test.YtnoffnkmibjndaaGreatLx
import Derived.Test.YtnoffnkmibjndaaGreatBb
set_option maxRecDepth 1000000
set_option maxHeartbeats 0
namespace Go.Proofs.YtnoffnkmibjndaaGreat
theorem zwt:Good Tryz.prog EW (zd0 0) (zaq 97) (⟨.leaf,zcw 97⟩:Tm) st0:=zrs (zlw (by decide +kernel) (zjr zag zadg zaf zaf7 zx6))
theorem zwu:Good Tryz.prog EE (zd0 0) (zaq 98) (⟨.leaf,zcw 98⟩:Tm) st0:=(zds zag zav zaf zay zz1 (by exact (zrq zag zav zaf zay zx8)))
theorem zwv:Good Tryz.prog EE (zd0 0) (zaq 56) (⟨.leaf,zcw 56⟩:Tm) st0:=(zds zag zav zaf zay zz2 (by exact (zrq zag zav zaf zay zx7)))
theorem zww:Good Tryz.prog EE (zd0 0) (zaq 28) (⟨.leaf,zcw 28⟩:Tm) st0:=zrs (zlw (by decide +kernel) (zbp zag zav zaf zay zz3 (zbp zag zav zaf zay zz4 (zbp zag zav zaf zay zz5 (zbp zag zav zaf zay zz6 (zjr zag zav zaf zay zx9))))))
theorem zwx:Good Tryz.prog EE (zd0 0) (zaq 17) (⟨.leaf,zcw 17⟩:Tm) st0:=zrs (zlw (by decide +kernel) (zbp zag zav zaf zay zz7 (zbp zag zav zaf zay zz9 (zbp zag zav zaf zay z0b (zbp zag zav zaf zay zz8 (zbp zag zav zaf zay z0c (zbp zag zav zaf zay z0a (zbp zag zav zaf zay z0d (zjr zag zav zaf zay zya)))))))))
open Go.RowKit
theorem zaf8 (w:World):Calls Tryz.prog 96 #[] w fun e W=>e = .returned (.bool true)∧Ext w W:=by
 obtain ⟨e1,e2⟩:=zf7 (f:=96) (by decide +kernel) Tryz.func96 rfl;have g:=zws;rw [e1,e2] at g;exact zg3 zav Tryz.func96 rfl rfl g w
theorem zaf9 (w:World):Calls Tryz.prog 97 #[] w fun e W=>e = .returned (.bool true)∧Ext w W:=by
 obtain ⟨e1,e2⟩:=zf7 (f:=97) (by decide +kernel) Tryz.func97 rfl;have g:=zwt;rw [e1,e2] at g;exact zg3 zadg Tryz.func97 rfl rfl g w
theorem zaga (w:World):Calls Tryz.prog 98 #[] w fun e W=>e = .returned (.bool true)∧Ext w W:=by
 obtain ⟨e1,e2⟩:=zf7 (f:=98) (by decide +kernel) Tryz.func98 rfl;have g:=zwu;rw [e1,e2] at g;exact zg3 zav Tryz.func98 rfl rfl g w
theorem zagb (w:World):Calls Tryz.prog 56 #[] w fun e W=>e = .returned (.bool true)∧Ext w W:=by
 obtain ⟨e1,e2⟩:=zf7 (f:=56) (by decide +kernel) Tryz.func56 rfl;have g:=zwv;rw [e1,e2] at g;exact zg3 zav Tryz.func56 rfl rfl g w
theorem zagc (w:World):Calls Tryz.prog 28 #[] w fun e W=>e = .returned (.bool true)∧Ext w W:=by
 obtain ⟨e1,e2⟩:=zf7 (f:=28) (by decide +kernel) Tryz.func28 rfl;have g:=zww;rw [e1,e2] at g;exact zg3 zav Tryz.func28 rfl rfl g w
theorem zagd (w:World):Calls Tryz.prog 17 #[] w fun e W=>e = .returned (.bool true)∧Ext w W:=by
 obtain ⟨e1,e2⟩:=zf7 (f:=17) (by decide +kernel) Tryz.func17 rfl;have g:=zwx;rw [e1,e2] at g;exact zg3 zav Tryz.func17 rfl rfl g w
theorem z7u (w:World):Calls Tryz.prog 55 #[] w fun e W=>e = .returned (.bool true)∧Ext w W:=by
 go_enter Tryz.func55,Tryz.ntmps55
 go_wp2_with fail;refine (zaf8 _).mono ?_
 rintro e W1 ⟨rfl,h1⟩;go_wp2_with fail;refine (zaf9 _).mono ?_
 rintro e W2 ⟨rfl,h2⟩;go_wp2_with fail;refine (zaga _).mono ?_
 rintro e W3 ⟨rfl,h3⟩;go_wp2_with fail;go_ret;exact ⟨rfl,(h1.trans' h2).trans' h3⟩
theorem z7v (w:World):Calls Tryz.prog 27 #[] w fun e W=>e = .returned (.bool true)∧Ext w W:=by
 go_enter Tryz.func27,Tryz.ntmps27
 go_wp2_with fail;refine (z7u _).mono ?_
 rintro e W1 ⟨rfl,h1⟩;go_wp2_with fail;refine (zagb _).mono ?_
 rintro e W2 ⟨rfl,h2⟩;go_wp2_with fail;go_ret;exact ⟨rfl,h1.trans' h2⟩
theorem z7w (w:World):Calls Tryz.prog 16 #[] w fun e W=>e = .returned (.bool true)∧Ext w W:=by
 go_enter Tryz.func16,Tryz.ntmps16
 go_wp2_with fail;refine (z7v _).mono ?_
 rintro e W1 ⟨rfl,h1⟩;go_wp2_with fail;refine (zagc _).mono ?_
 rintro e W2 ⟨rfl,h2⟩;go_wp2_with fail;go_ret;exact ⟨rfl,h1.trans' h2⟩
theorem zeu (w:World):Calls Tryz.prog 6 #[] w fun e W=>e = .returned (.bool true)∧Ext w W:=by
 go_enter Tryz.func6,Tryz.ntmps6
 go_wp2_with fail;refine (z7w _).mono ?_
 rintro e W1 ⟨rfl,h1⟩;go_wp2_with fail;refine (zagd _).mono ?_
 rintro e W2 ⟨rfl,h2⟩;go_wp2_with fail;go_ret;exact ⟨rfl,h1.trans' h2⟩
end Go.Proofs.YtnoffnkmibjndaaGreat
