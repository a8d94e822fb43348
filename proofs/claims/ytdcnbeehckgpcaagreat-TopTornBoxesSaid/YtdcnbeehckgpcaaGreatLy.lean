/-
  Printed by wip/tools/mkparts2.py from what wip/tools/ck2.py found: quinellalaw02.Works in parts.
-/
import Derived.Test.YtdcnbeehckgpcaaGreatLkg
import Derived.Test.YtdcnbeehckgpcaaGreatLkc
import Derived.Test.YtdcnbeehckgpcaaGreatLaw03WorksP1
import Derived.Test.YtdcnbeehckgpcaaGreatLkf
import Derived.Test.YtdcnbeehckgpcaaGreatLkd
import Derived.Test.YtdcnbeehckgpcaaGreatLaw06WorksP2
import Derived.Test.YtdcnbeehckgpcaaGreatLaw06WorksP4
import Derived.Test.YtdcnbeehckgpcaaGreatLaw06WorksP6
import Derived.Test.YtdcnbeehckgpcaaGreatLkh
set_option maxRecDepth 1000000
set_option maxHeartbeats 0
namespace Go.Proofs.YtdcnbeehckgpcaaGreat
theorem zy5:Good Tryz.prog EW (zdu 0) (zax 206) (⟨.leaf,zcs 206⟩:Tm) st0:=zkj (zir (by decide +kernel) (zhm zak zahv zaj zak0 z0p))
theorem zy6:Good Tryz.prog EE (zdu 0) (zax 207) (⟨.leaf,zcs 207⟩:Tm) st0:=(zep zak zaz zaj za6 z2s (by exact(ztk zak zaz zaj za6 z0s)))
theorem zy7:Good Tryz.prog EE (zdu 0) (zax 161) (⟨.leaf,zcs 161⟩:Tm) st0:=(zep zak zaz zaj za6 z2t (by exact(ztk zak zaz zaj za6 z0q)))
theorem zy8:Good Tryz.prog EE (zdu 0) (zax 113) (⟨.leaf,zcs 113⟩:Tm) st0:=zkj (zir (by decide +kernel) (zbn zak zaz zaj za6 z2u (zbn zak zaz zaj za6 z2v (zbn zak zaz zaj za6 z2w (zbn zak zaz zaj za6 z2r (zhm zak zaz zaj za6 z0o))))))
theorem zy9:Good Tryz.prog EE (zdu 0) (zax 67) (⟨.leaf,zcs 67⟩:Tm) st0:=zkj (zir (by decide +kernel) (zbn zak zaz zaj za6 z2x (zbn zak zaz zaj za6 z2z (zbn zak zaz zaj za6 z21 (zbn zak zaz zaj za6 z2y (zbn zak zaz zaj za6 z22 (zbn zak zaz zaj za6 z20 (zbn zak zaz zaj za6 z23 (zhm zak zaz zaj za6 z0t)))))))))
theorem zza:Good Tryz.prog EE (zdu 0) (zax 38) (⟨.leaf,zcs 38⟩:Tm) st0:=zkj (zir (by decide +kernel) (zbn zak zaz zaj za6 z24 (zbn zak zaz zaj za6 z25 (zhm zak zaz zaj za6 z0u))))
open Go.RowKit
theorem zak1(w:World):Calls Tryz.prog 205 #[] w fun e W=>e=.returned (.bool true)∧Ext w W:=by
 obtain⟨e1,e2⟩:=zfc (f:=205) (by decide +kernel) Tryz.func205 rfl;have g:=zy4;rw[e1,e2]at g;exact zfi zaz Tryz.func205 rfl rfl g w
theorem zak2(w:World):Calls Tryz.prog 206 #[] w fun e W=>e=.returned (.bool true)∧Ext w W:=by
 obtain⟨e1,e2⟩:=zfc (f:=206) (by decide +kernel) Tryz.func206 rfl;have g:=zy5;rw[e1,e2]at g;exact zfi zahv Tryz.func206 rfl rfl g w
theorem zak3(w:World):Calls Tryz.prog 207 #[] w fun e W=>e=.returned (.bool true)∧Ext w W:=by
 obtain⟨e1,e2⟩:=zfc (f:=207) (by decide +kernel) Tryz.func207 rfl;have g:=zy6;rw[e1,e2]at g;exact zfi zaz Tryz.func207 rfl rfl g w
theorem zak4(w:World):Calls Tryz.prog 161 #[] w fun e W=>e=.returned (.bool true)∧Ext w W:=by
 obtain⟨e1,e2⟩:=zfc (f:=161) (by decide +kernel) Tryz.func161 rfl;have g:=zy7;rw[e1,e2]at g;exact zfi zaz Tryz.func161 rfl rfl g w
theorem zak5(w:World):Calls Tryz.prog 113 #[] w fun e W=>e=.returned (.bool true)∧Ext w W:=by
 obtain⟨e1,e2⟩:=zfc (f:=113) (by decide +kernel) Tryz.func113 rfl;have g:=zy8;rw[e1,e2]at g;exact zfi zaz Tryz.func113 rfl rfl g w
theorem zak6(w:World):Calls Tryz.prog 67 #[] w fun e W=>e=.returned (.bool true)∧Ext w W:=by
 obtain⟨e1,e2⟩:=zfc (f:=67) (by decide +kernel) Tryz.func67 rfl;have g:=zy9;rw[e1,e2]at g;exact zfi zaz Tryz.func67 rfl rfl g w
theorem zak7(w:World):Calls Tryz.prog 38 #[] w fun e W=>e=.returned (.bool true)∧Ext w W:=by
 obtain⟨e1,e2⟩:=zfc (f:=38) (by decide +kernel) Tryz.func38 rfl;have g:=zza;rw[e1,e2]at g;exact zfi zaz Tryz.func38 rfl rfl g w
theorem zabu(w:World):Calls Tryz.prog 160 #[] w fun e W=>e=.returned (.bool true)∧Ext w W:=by
 go_enter Tryz.func160,Tryz.ntmps160
 go_wp2_with fail;refine(zak1 _).mono ?_
 rintro e W1 ⟨rfl,h1⟩;go_wp2_with fail;refine(zak2 _).mono ?_
 rintro e W2 ⟨rfl,h2⟩;go_wp2_with fail;refine(zak3 _).mono ?_
 rintro e W3 ⟨rfl,h3⟩;go_wp2_with fail;go_ret;exact⟨rfl,(h1.trans' h2).trans' h3⟩
theorem zabv(w:World):Calls Tryz.prog 112 #[] w fun e W=>e=.returned (.bool true)∧Ext w W:=by
 go_enter Tryz.func112,Tryz.ntmps112
 go_wp2_with fail;refine(zabu _).mono ?_
 rintro e W1 ⟨rfl,h1⟩;go_wp2_with fail;refine(zak4 _).mono ?_
 rintro e W2 ⟨rfl,h2⟩;go_wp2_with fail;go_ret;exact⟨rfl,h1.trans' h2⟩
theorem zabw(w:World):Calls Tryz.prog 66 #[] w fun e W=>e=.returned (.bool true)∧Ext w W:=by
 go_enter Tryz.func66,Tryz.ntmps66
 go_wp2_with fail;refine(zabv _).mono ?_
 rintro e W1 ⟨rfl,h1⟩;go_wp2_with fail;refine(zak5 _).mono ?_
 rintro e W2 ⟨rfl,h2⟩;go_wp2_with fail;go_ret;exact⟨rfl,h1.trans' h2⟩
theorem zabx (w:World):Calls Tryz.prog 37 #[] w fun e W=>e=.returned (.bool true)∧Ext w W:=by
 go_enter Tryz.func37,Tryz.ntmps37
 go_wp2_with fail;refine(zabw _).mono ?_
 rintro e W1 ⟨rfl,h1⟩;go_wp2_with fail;refine(zak6 _).mono ?_
 rintro e W2 ⟨rfl,h2⟩;go_wp2_with fail;go_ret;exact⟨rfl,h1.trans' h2⟩
theorem zaby(w:World):Calls Tryz.prog 19 #[] w fun e W=>e=.returned (.bool true)∧Ext w W:=by
 go_enter Tryz.func19,Tryz.ntmps19
 go_wp2_with fail;refine(zabx _).mono ?_
 rintro e W1 ⟨rfl,h1⟩;go_wp2_with fail;refine(zak7 _).mono ?_
 rintro e W2 ⟨rfl,h2⟩;go_wp2_with fail;go_ret;exact⟨rfl,h1.trans' h2⟩
theorem zzb:Good Tryz.prog EE (zdu 0) (zax 20) (⟨.leaf,zcs 20⟩:Tm) st0:=zkj (zir (by decide +kernel) (zbn zak zaz zaj za6 z2q (zhm zak zaz zaj za6 z0r)))
theorem zak8(w:World):Calls Tryz.prog 20 #[] w fun e W=>e=.returned (.bool true)∧Ext w W:=by
 obtain⟨e1,e2⟩:=zfc (f:=20) (by decide +kernel) Tryz.func20 rfl;have g:=zzb;rw[e1,e2]at g;exact zfi zaz Tryz.func20 rfl rfl g w
theorem zer(w:World):Calls Tryz.prog 5 #[] w fun e W=>e=.returned (.bool true)∧Ext w W:=by
 go_enter Tryz.func5,Tryz.ntmps5
 go_wp2_with fail;refine(zaby _).mono ?_
 rintro e W1 ⟨rfl,h1⟩;go_wp2_with fail;refine(zak8 _).mono ?_
 rintro e W2 ⟨rfl,h2⟩;go_wp2_with fail;go_ret;exact⟨rfl,h1.trans' h2⟩
end Go.Proofs.YtdcnbeehckgpcaaGreat
