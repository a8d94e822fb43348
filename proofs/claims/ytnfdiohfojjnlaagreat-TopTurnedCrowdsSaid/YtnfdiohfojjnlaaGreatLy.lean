/-
  Printed by wip/tools/mkparts2.py from what wip/tools/ck2.py found: quinellalaw02.Works in parts.
-/
import Derived.Test.YtnfdiohfojjnlaaGreatLkg
import Derived.Test.YtnfdiohfojjnlaaGreatLkc
import Derived.Test.YtnfdiohfojjnlaaGreatLaw03WorksP1
import Derived.Test.YtnfdiohfojjnlaaGreatLkf
import Derived.Test.YtnfdiohfojjnlaaGreatLkd
import Derived.Test.YtnfdiohfojjnlaaGreatLaw06WorksP2
import Derived.Test.YtnfdiohfojjnlaaGreatLaw06WorksP4
import Derived.Test.YtnfdiohfojjnlaaGreatLaw06WorksP6
import Derived.Test.YtnfdiohfojjnlaaGreatLkh
import Derived.Test.YtnfdiohfojjnlaaGreatLx
import Derived.Test.YtnfdiohfojjnlaaGreatBb
import Derived.Test.YtnfdiohfojjnlaaGreatLkb
set_option maxRecDepth 1000000
set_option maxHeartbeats 0
namespace Go.Proofs.YtnfdiohfojjnlaaGreat
theorem zvd:Good Tryz.prog EW (zcc 0) (zaa 297) (⟨.leaf,zbm 297⟩:Tm) st0:=zgp (zff (by decide +kernel) (zej zw zabp zu zaen zwr))
theorem zve:Good Tryz.prog EE (zcc 0) (zaa 298) (⟨.leaf,zbm 298⟩:Tm) st0:=(zdg zw zag zu zal zyt (by exact (zqq zw zag zu zal zwu)))
theorem zvf:Good Tryz.prog EE (zcc 0) (zaa 240) (⟨.leaf,zbm 240⟩:Tm) st0:=(zdg zw zag zu zal zyu (by exact (zqq zw zag zu zal zws)))
theorem zvg:Good Tryz.prog EE (zcc 0) (zaa 184) (⟨.leaf,zbm 184⟩:Tm) st0:=zgp (zff (by decide +kernel) (za2 zw zag zu zal zyv (za2 zw zag zu zal zyw (za2 zw zag zu zal zyx (za2 zw zag zu zal zys (zej zw zag zu zal zwq))))))
theorem zvh:Good Tryz.prog EE (zcc 0) (zaa 137) (⟨.leaf,zbm 137⟩:Tm) st0:=zgp (zff (by decide +kernel) (za2 zw zag zu zal zyy (za2 zw zag zu zal zy0 (za2 zw zag zu zal zy2 (za2 zw zag zu zal zyz (za2 zw zag zu zal zy3 (za2 zw zag zu zal zy1 (za2 zw zag zu zal zy4 (zej zw zag zu zal zwv)))))))))
theorem zvi:Good Tryz.prog EE (zcc 0) (zaa 91) (⟨.leaf,zbm 91⟩:Tm) st0:=zgp (zff (by decide +kernel) (za2 zw zag zu zal zy5 (za2 zw zag zu zal zy6 (zej zw zag zu zal zww))))
open Go.RowKit
theorem zaeo (w:World):Calls Tryz.prog 296 #[] w fun e W=>e = .returned (.bool true)∧Ext w W:=by
 obtain ⟨e1,e2⟩:=zc8 (f:=296) (by decide +kernel) Tryz.func296 rfl;have g:=zvc;rw [e1,e2] at g;exact zdh zag Tryz.func296 rfl rfl g w
theorem zaep (w:World):Calls Tryz.prog 297 #[] w fun e W=>e = .returned (.bool true)∧Ext w W:=by
 obtain ⟨e1,e2⟩:=zc8 (f:=297) (by decide +kernel) Tryz.func297 rfl;have g:=zvd;rw [e1,e2] at g;exact zdh zabp Tryz.func297 rfl rfl g w
theorem zaeq (w:World):Calls Tryz.prog 298 #[] w fun e W=>e = .returned (.bool true)∧Ext w W:=by
 obtain ⟨e1,e2⟩:=zc8 (f:=298) (by decide +kernel) Tryz.func298 rfl;have g:=zve;rw [e1,e2] at g;exact zdh zag Tryz.func298 rfl rfl g w
theorem zaer (w:World):Calls Tryz.prog 240 #[] w fun e W=>e = .returned (.bool true)∧Ext w W:=by
 obtain ⟨e1,e2⟩:=zc8 (f:=240) (by decide +kernel) Tryz.func240 rfl;have g:=zvf;rw [e1,e2] at g;exact zdh zag Tryz.func240 rfl rfl g w
theorem zaes (w:World):Calls Tryz.prog 184 #[] w fun e W=>e = .returned (.bool true)∧Ext w W:=by
 obtain ⟨e1,e2⟩:=zc8 (f:=184) (by decide +kernel) Tryz.func184 rfl;have g:=zvg;rw [e1,e2] at g;exact zdh zag Tryz.func184 rfl rfl g w
theorem zaet (w:World):Calls Tryz.prog 137 #[] w fun e W=>e = .returned (.bool true)∧Ext w W:=by
 obtain ⟨e1,e2⟩:=zc8 (f:=137) (by decide +kernel) Tryz.func137 rfl;have g:=zvh;rw [e1,e2] at g;exact zdh zag Tryz.func137 rfl rfl g w
theorem zaeu (w:World):Calls Tryz.prog 91 #[] w fun e W=>e = .returned (.bool true)∧Ext w W:=by
 obtain ⟨e1,e2⟩:=zc8 (f:=91) (by decide +kernel) Tryz.func91 rfl;have g:=zvi;rw [e1,e2] at g;exact zdh zag Tryz.func91 rfl rfl g w
theorem z6d (w:World):Calls Tryz.prog 239 #[] w fun e W=>e = .returned (.bool true)∧Ext w W:=by
 go_enter Tryz.func239,Tryz.ntmps239
 go_wp2_with fail;refine (zaeo _).mono ?_
 rintro e W1 ⟨rfl,h1⟩;go_wp2_with fail;refine (zaep _).mono ?_
 rintro e W2 ⟨rfl,h2⟩;go_wp2_with fail;refine (zaeq _).mono ?_
 rintro e W3 ⟨rfl,h3⟩;go_wp2_with fail;go_ret;exact ⟨rfl,(h1.trans' h2).trans' h3⟩
theorem z6e (w:World):Calls Tryz.prog 183 #[] w fun e W=>e = .returned (.bool true)∧Ext w W:=by
 go_enter Tryz.func183,Tryz.ntmps183
 go_wp2_with fail;refine (z6d _).mono ?_
 rintro e W1 ⟨rfl,h1⟩;go_wp2_with fail;refine (zaer _).mono ?_
 rintro e W2 ⟨rfl,h2⟩;go_wp2_with fail;go_ret;exact ⟨rfl,h1.trans' h2⟩
theorem z6f (w:World):Calls Tryz.prog 136 #[] w fun e W=>e = .returned (.bool true)∧Ext w W:=by
 go_enter Tryz.func136,Tryz.ntmps136
 go_wp2_with fail;refine (z6e _).mono ?_
 rintro e W1 ⟨rfl,h1⟩;go_wp2_with fail;refine (zaes _).mono ?_
 rintro e W2 ⟨rfl,h2⟩;go_wp2_with fail;go_ret;exact ⟨rfl,h1.trans' h2⟩
theorem z6g (w:World):Calls Tryz.prog 90 #[] w fun e W=>e = .returned (.bool true)∧Ext w W:=by
 go_enter Tryz.func90,Tryz.ntmps90
 go_wp2_with fail;refine (z6f _).mono ?_
 rintro e W1 ⟨rfl,h1⟩;go_wp2_with fail;refine (zaet _).mono ?_
 rintro e W2 ⟨rfl,h2⟩;go_wp2_with fail;go_ret;exact ⟨rfl,h1.trans' h2⟩
theorem z6h (w:World):Calls Tryz.prog 48 #[] w fun e W=>e = .returned (.bool true)∧Ext w W:=by
 go_enter Tryz.func48,Tryz.ntmps48
 go_wp2_with fail;refine (z6g _).mono ?_
 rintro e W1 ⟨rfl,h1⟩;go_wp2_with fail;refine (zaeu _).mono ?_
 rintro e W2 ⟨rfl,h2⟩;go_wp2_with fail;go_ret;exact ⟨rfl,h1.trans' h2⟩
theorem zvj:Good Tryz.prog EE (zcc 0) (zaa 49) (⟨.leaf,zbm 49⟩:Tm) st0:=zgp (zff (by decide +kernel) (za2 zw zag zu zal zyr (zej zw zag zu zal zwt)))
theorem zaev (w:World):Calls Tryz.prog 49 #[] w fun e W=>e = .returned (.bool true)∧Ext w W:=by
 obtain ⟨e1,e2⟩:=zc8 (f:=49) (by decide +kernel) Tryz.func49 rfl;have g:=zvj;rw [e1,e2] at g;exact zdh zag Tryz.func49 rfl rfl g w
theorem z6i (w:World):Calls Tryz.prog 20 #[] w fun e W=>e = .returned (.bool true)∧Ext w W:=by
 go_enter Tryz.func20,Tryz.ntmps20
 go_wp2_with fail;refine (z6h _).mono ?_
 rintro e W1 ⟨rfl,h1⟩;go_wp2_with fail;refine (zaev _).mono ?_
 rintro e W2 ⟨rfl,h2⟩;go_wp2_with fail;go_ret;exact ⟨rfl,h1.trans' h2⟩
end Go.Proofs.YtnfdiohfojjnlaaGreat
