/-
  Printed by wip/tools/mkparts2.py from what wip/tools/ck2.py found: quinellalaw09.Works in parts.
-/
import Derived.Test.YtnfdiohfojjnlaaGreatWa
import Derived.Test.YtnfdiohfojjnlaaGreatLy
set_option maxRecDepth 1000000
set_option maxHeartbeats 0
namespace Go.Proofs.YtnfdiohfojjnlaaGreat
theorem zwx:ziw ES Tryz.prog 100000 36 (zaa 21) [.c []] (⟨.leaf,zbm 21⟩:Tm) st0 (zc2 0)=true:=by decide +kernel
theorem zvk:Good Tryz.prog ES (zcc 0) (zaa 21) (⟨.leaf,zbm 21⟩:Tm) st0:=zgp (zff (by decide +kernel) (zej zw zabq zu zaex zwx))
open Go.RowKit
theorem zaey (w:World):Calls Tryz.prog 21 #[] w fun e W=>e = .returned (.bool true)∧Ext w W:=by
 obtain ⟨e1,e2⟩:=zc8 (f:=21) (by decide +kernel) Tryz.func21 rfl;have g:=zvk;rw [e1,e2] at g;exact zdh zabq Tryz.func21 rfl rfl g w
theorem zix (w:World):Calls Tryz.prog 6 #[] w fun e W=>e = .returned (.bool true)∧Ext w W:=by
 go_enter Tryz.func6,Tryz.ntmps6
 go_wp2_with fail;refine (z6i _).mono ?_
 rintro e W1 ⟨rfl,h1⟩;go_wp2_with fail;refine (zaey _).mono ?_
 rintro e W2 ⟨rfl,h2⟩;go_wp2_with fail;go_ret;exact ⟨rfl,h1.trans' h2⟩
end Go.Proofs.YtnfdiohfojjnlaaGreat
