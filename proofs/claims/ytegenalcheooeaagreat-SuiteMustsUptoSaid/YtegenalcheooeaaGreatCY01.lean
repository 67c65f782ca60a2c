/- Of the proof of a law of the suites: LawMusts. -/
import Derived.Test.YtegenalcheooeaaGreatB29
import Derived.Test.YtegenalcheooeaaGreatB34
import Derived.Test.YtegenalcheooeaaGreatRM11
import Derived.Test.YtegenalcheooeaaGreatRM12
set_option linter.unusedSectionVars false
set_option linter.unusedSimpArgs false
set_option linter.unusedVariables false
namespace Go.Proofs.YtegenalcheooeaaGreat
open Go.RowKit
attribute [local go_sem] cell?_exto
section
open Go.Shelf
def TrueP (w:World) (e:Ending) (w':World):Prop:=e = .returned (.bool true)∧Ext w w'
theorem qk6 {α:Type} {p:α→α→Bool} (h:∀ x,p x x=true):∀ l:List α,leq p l l=true
 | []=>rfl
 | x :: l=>by rw [leq,h x,qk6 h l];rfl
theorem same_lb (x:Lb):qck x x=true:=decide_eq_true (qcv.refl x)
theorem qny (x:List Lb):qfh x x=true:=qk6 same_lb x
theorem same_te (x:Te):qgl x x=true:=by rw [qgl,qny,qny];rfl
theorem box3 {W W':World} {B:Nat} {t:TypeId} {a b c:Value} (h:qah W B t [a,b,c]) (he:Ext W W') :
  qah W' B t [a,b,c]∧W'.cell? ⟨B,0,none⟩=some a∧W'.cell? ⟨B,1,none⟩=some b∧W'.cell? ⟨B,2,none⟩=some c∧B<W'.heap.size :=
 have h0:=h.ext he
 ⟨h0,h0.cell 0 _,h0.cell 1 _,h0.cell 2 _,h0.lt⟩
theorem own_any {α:Type} {R:Rdr α} {k:Nat} (hR:Good R k) (hk:0<k) {W:World} {base:Nat} {e:TypeId} {T:Nat→Prop} {xs:List α} {v:Value} (h:qab R k e base T W xs v):RSl R k (fun _=>True) W xs [v]:=(RSl.good hR).mono (h.sl hR hk) fun _ _ _=>trivial
set_option maxHeartbeats 4000000 in
set_option maxRecDepth 100000 in
theorem musts3_c (w:World) (s:Sy) (hsm:qf0 s) (cs:List Value) (hx:RSy (fun _=>True) w s cs) (tr:List Lb) (htl:tr.length≤1048576) (vt:Value) (htr:qaa (fun _=>True) w tr [vt]) (d:Int) :
  Calls Tryz.prog 3 #[.agg cs.toArray,vt,.int .i64 d] w (TrueP w):=by
 obtain ⟨_,v,u,rfl,hv,hu⟩:=id hx
 obtain ⟨A,c,rfl,_,_⟩:=hv.val
 obtain ⟨B,b,rfl,_,_⟩:=hu.val
 obtain ⟨A3,c3,rfl,hc3,hc30⟩:=htr.val
 have HX:=Hd hx
 have HTR:=Hd htr
 clear hx htr hv hu
 go_enter Tryz.func3,Tryz.ntmps3
 go_wp2_with fail
 refine (sane_c _).mono ?_
 rintro e1 w1 ⟨rfl,h1⟩
 have HX1:Hid (Ext w w1):=bel
 obtain ⟨hB,d0,d1,d2,z1⟩:=box3 (B:=w.heap.size) (t:=25) (qah.new w 25 [.int .i64 s.n,.slice A s.ls.length c,.slice B s.es.length b]) h1
 have HB:=Hd hB
 clear h1 hB
 have hsml:=fun W (hW:Ext w1 W)=>small_c (fun _=>True) 10 [s] _ _ (qir RSy.good (by decide) (e:=25) (flat1 (RSy.good.bel HX.out (HX1.out.trans' hW)) rfl) (by simp))
 go_wp2_with fail
 refine (hsml _ (Ext.refl _)).mono ?_
 rintro e3 w3 ⟨bb,rfl,h3⟩
 have hE3:Ext w1 w3:=Ext.trans' ((Ext.refl w1).alloc _) h3
 have HX3:Hid (Ext w w3):=HX1.out.trans' hE3
 clear d0 d1 d2 z1
 obtain ⟨hB,d0,d1,d2,z1⟩:=box3 HB.out hE3
 have HB3:=Hd hB
 clear hsml h3 hE3 hB HX1 HB
 cases bb
 ·go_wp2_with fail
  go_ret
  exact ⟨rfl,HX3.out⟩
 by_cases h45:(45:Int)<(tr.length:Int)
 ·go_wp2_with fail
  go_ret
  exact ⟨rfl,HX3.out⟩
 have hsl:=qr7 (fun _=>True) tr _ w3 (qaa.good.bel HTR.out HX3.out) (by omega)
 go_wp2_with fail
 refine hsl.mono ?_
 rintro e4 w4 ⟨rfl,hE4⟩
 have HX4:Hid (Ext w w4):=HX3.out.trans' hE4
 clear d0 d1 d2 z1
 obtain ⟨hB,d0,d1,d2,z1⟩:=box3 HB3.out hE4
 have HB4:=Hd hB
 clear hsl hE4 hB HX3 HB3
 cases hbb:qfm tr
 ·clear hbb
  go_wp2_with fail
  go_ret
  exact ⟨rfl,HX4.out⟩
 clear hbb
 have hlc:=light_c (fun _=>True) s _ d w4 (RSy.good.bel HX.out HX4.out)
 go_wp2_with fail
 refine hlc.mono ?_
 rintro e5 w5 ⟨bb,rfl,hE5⟩
 have HX5:Hid (Ext w w5):=HX4.out.trans' hE5
 clear d0 d1 d2 z1
 obtain ⟨hB,d0,d1,d2,z1⟩:=box3 HB4.out hE5
 have HB5:=Hd hB
 clear hlc hE5 hB HX4 HB4
 cases bb
 ·go_wp2_with fail
  go_ret
  exact ⟨rfl,HX5.out⟩
 have hmu:=qlx (fun _=>True) s hsm _ tr _ w5 (RSy.good.bel HX.out HX5.out) (qaa.good.bel HTR.out HX5.out)
 obtain ⟨mE,hmE⟩:∃ x,qcz s tr=x:=⟨_,rfl⟩
 obtain ⟨mR,hmR⟩:∃ x,qcj s tr=x:=⟨_,rfl⟩
 rw [hmE,hmR] at hmu
 have HME:=Hd hmE
 have HMR:=Hd hmR
 clear hmE hmR
 go_wp2_with fail
 refine hmu.mono ?_
 rintro e6 w6 ⟨A6,c6,rfl,hO6,hE6⟩
 have HX6:Hid (Ext w w6):=HX5.out.trans' hE6
 have HR6:=Hd (own_any qaa.good (by decide) hO6)
 clear d0 d1 d2 z1
 obtain ⟨hB,d0,d1,d2,z1⟩:=box3 HB5.out hE6
 have HB6:=Hd hB
 clear hmu hE6 hB HX5 HB5 hO6
 have hmu:=rMusts_c (fun _=>True) s _ tr _ w6 (RSy.good.bel HX.out HX6.out) (qaa.good.bel HTR.out HX6.out)
 rw [HME.out,HMR.out] at hmu
 go_wp2_with fail
 refine hmu.mono ?_
 rintro e7 w7 ⟨A7,c7,rfl,hO7,hE7⟩
 have HX7:Hid (Ext w w7):=HX6.out.trans' hE7
 have HR7:=Hd hO7
 have HR6':=Hd ((RSl.good qaa.good).bel HR6.out hE7)
 clear d0 d1 d2 z1
 obtain ⟨hB,d0,d1,d2,z1⟩:=box3 HB6.out hE7
 have HB7:=Hd hB
 clear hmu hE7 hB HX6 HB6 hO7 HR6
 have hge:=qq0 (fun _=>True) s hsm _ d w7 (RSy.good.bel HX.out HX7.out)
 obtain ⟨gE,hgE⟩:∃ x,qdn s d=x:=⟨_,rfl⟩
 obtain ⟨gR,hgR⟩:∃ x,qep s d=x:=⟨_,rfl⟩
 rw [hgE,hgR] at hge
 have HGE:=Hd hgE
 have HGR:=Hd hgR
 clear hgE hgR
 go_wp2_with fail
 refine hge.mono ?_
 rintro e8 w8 ⟨A8,c8,rfl,hO8,hE8⟩
 have HX8:Hid (Ext w w8):=HX7.out.trans' hE8
 have HR8:=Hd (own_any RTe.good (by decide) hO8)
 have HQ6:=Hd ((RSl.good qaa.good).bel HR6'.out hE8)
 have HQ7:=Hd ((RSl.good qaa.good).bel HR7.out hE8)
 clear d0 d1 d2 z1
 obtain ⟨hB,d0,d1,d2,z1⟩:=box3 HB7.out hE8
 have HB8:=Hd hB
 clear hge hE8 hB HX7 HB7 HR6' HR7 hO8
 have hge:=quh (fun _=>True) s _ d w8 (RSy.good.bel HX.out HX8.out)
 rw [HGE.out,HGR.out] at hge
 go_wp2_with fail
 refine hge.mono ?_
 rintro e9 w9 ⟨A9,c9,rfl,hO9,hE9⟩
 have HX9:Hid (Ext w w9):=HX8.out.trans' hE9
 have HK6:=Hd ((RSl.good qaa.good).bel HQ6.out hE9)
 have HK7:=Hd ((RSl.good qaa.good).bel HQ7.out hE9)
 have HK8:=Hd ((RSl.good RTe.good).bel HR8.out hE9)
 have HK9:=Hd hO9
 clear d0 d1 d2 z1
 clear hge hE9 HX8 HB8 HQ6 HQ7 HR8 HME HMR HGE HGR hO9
 have hk1:=qnd (fun _=>True) mR mR _ _ w9 HK6.out HK7.out
 have hk2:=fun W (hW:Ext w9 W)=>qsv (fun _=>True) gR gR _ _ W ((RSl.good RTe.good).bel HK8.out hW) ((RSl.good RTe.good).bel HK9.out hW)
 rw [show qk1 mR mR=true from qk6 qny mR] at hk1
 rw [qk6 same_te gR] at hk2
 go_wp2_with fail
 refine hk1.mono ?_
 rintro e10 w10 ⟨rfl,hE10⟩
 go_wp2_with fail
 refine (hk2 _ hE10.ext).mono ?_
 rintro e11 w11 ⟨rfl,hE11⟩
 go_wp2_with fail
 go_ret
 exact ⟨by simp,(HX9.out.trans' hE10.ext).trans' hE11.ext⟩
end
end Go.Proofs.YtegenalcheooeaaGreat
