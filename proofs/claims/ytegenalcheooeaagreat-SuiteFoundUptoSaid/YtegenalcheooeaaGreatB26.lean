/- Of the proof of a law of the suites: LawSane2. -/
import Derived.Test.YtegenalcheooeaaGreatB25
set_option linter.unusedSectionVars false
set_option linter.unusedSimpArgs false
set_option linter.unusedVariables false
namespace Go.Proofs.YtegenalcheooeaaGreat
open Go.RowKit
attribute [local go_sem] cell?_exto
section
open Go.Shelf
def SanePost (w:World) (e:Ending) (w':World):Prop:=e = .returned (.bool true)∧Ext w w'
set_option maxHeartbeats 1000000 in
set_option maxRecDepth 100000 in
theorem sane_c (w:World):Calls Tryz.prog 14 #[] w (SanePost w):=by
 have en4:sy4.n=2:=rfl
 have el4:sy4.ls.length=3:=rfl
 have ee4:sy4.es.length=3:=rfl
 have en5:sy5.n=3:=rfl
 have el5:sy5.ls.length=3:=rfl
 have ee5:sy5.es.length=4:=rfl
 go_enter Tryz.func14,Tryz.ntmps14
 go_wp2_with fail
 refine (at_c 0 _).mono ?_
 rintro e w1 ⟨rfl,h1⟩
 go_wp2_with fail
 refine (at_c 1 _).mono ?_
 rintro e w2 ⟨rfl,h2⟩
 go_wp2_with fail
 refine (at_c 2 _).mono ?_
 rintro e w3 ⟨rfl,h3⟩
 go_wp2_with fail
 obtain ⟨W4,hW4,q1,q2,q3,hX4,hs4⟩:=alloc3 w3 (.cells #[.int .i64 0,.slice none 0 0] 61) (.cells #[.int .i64 1,.slice none 0 0] 61) (.cells #[.int .i64 2,.slice none 0 0] 61)
 rw [hW4]
 clear hW4
 have hw4:Ext w W4:=Ext.trans' (by exact bel) hX4
 obtain ⟨b3,hb3⟩:∃ b3,w3.heap.size+1+1=b3:=⟨_,rfl⟩
 obtain ⟨b2,hb2⟩:∃ b2,w3.heap.size+1=b2:=⟨_,rfl⟩
 obtain ⟨b1,hb1⟩:∃ b1,w3.heap.size=b1:=⟨_,rfl⟩
 rw [hb3,hb2,hb1]
 rw [hb3] at q3
 rw [hb2] at q2
 rw [hb1] at q1
 have Q1:Hid (qaf W4 b1 61 [.int .i64 0,.slice none 0 0]):=q1
 have Q2:Hid (qaf W4 b2 61 [.int .i64 1,.slice none 0 0]):=q2
 have Q3:Hid (qaf W4 b3 61 [.int .i64 2,.slice none 0 0]):=q3
 clear q1 q2 q3 hb1 hb2 hb3 hs4 hX4 h1 h2 h3
 refine (qhw 0 0 1 _).mono ?_
 rintro e w5 ⟨rfl,h5⟩
 go_wp2_with fail
 refine (qhw 1 1 0 _).mono ?_
 rintro e w6 ⟨rfl,h6⟩
 go_wp2_with fail
 refine (qhw 1 2 0 _).mono ?_
 rintro e w7 ⟨rfl,h7⟩
 go_wp2_with fail
 refine (built4 (fun _=>True) _ _ (lit4 (qby w7 _))).mono ?_
 rintro e w8 ⟨cs4,rfl,hs4,h8⟩
 obtain ⟨j1,v4,u4,rfl,hv4,hu4⟩:=id hs4
 obtain ⟨A4,c4,rfl,_,_⟩:=hv4.val
 obtain ⟨B4,d4,rfl,_,_⟩:=hu4.val
 have hX8:Ext W4 w8:=bel
 have HS4:Hid (RSy (fun _=>True) w8 sy4 [.int .i64 2,.slice A4 3 c4,.slice B4 3 d4]):=RSy.good.mono hs4 fun _ _ _=>trivial
 have HX8:=Hd hX8
 clear h5 h6 h7 h8 hs4 hv4 hu4 hX8
 go_wp2_with fail
 obtain ⟨b4,hb4⟩:∃ b4,w8.heap.size=b4:=⟨_,rfl⟩
 obtain ⟨W9,hW9⟩:∃ W9,w8.alloc (.cells #[.int .i64 2,.slice A4 3 c4,.slice B4 3 d4] 25)=W9:=⟨_,rfl⟩
 have Q4:Hid (qaf W9 b4 25 [.int .i64 2,.slice A4 3 c4,.slice B4 3 d4]):=by show W9.heap[_]? = _;rw [<- hW9,<- hb4];exact qby _ _
 have HX9:Hid (Ext w8 W9):=by rw [<- hW9];exact (Ext.refl w8).alloc _
 rw [hW9,hb4]
 clear hW9 hb4
 refine (qhw 0 0 1 _).mono ?_
 rintro e w10 ⟨rfl,h10⟩
 go_wp2_with fail
 refine (qhw 0 0 2 _).mono ?_
 rintro e w11 ⟨rfl,h11⟩
 go_wp2_with fail
 refine (qhw 1 1 0 _).mono ?_
 rintro e w12 ⟨rfl,h12⟩
 go_wp2_with fail
 refine (qhw 2 2 0 _).mono ?_
 rintro e w13 ⟨rfl,h13⟩
 go_wp2_with fail
 refine (built5 (fun _=>True) _ _ (lit5 (qby w13 _))).mono ?_
 rintro e w14 ⟨cs5,rfl,hs5,h14⟩
 obtain ⟨j2,v5,u5,rfl,hv5,hu5⟩:=id hs5
 obtain ⟨A5,c5,rfl,_,_⟩:=hv5.val
 obtain ⟨B5,d5,rfl,_,_⟩:=hu5.val
 have hX14:Ext W9 w14:=bel
 have HS5:Hid (RSy (fun _=>True) w14 sy5 [.int .i64 3,.slice A5 3 c5,.slice B5 4 d5]):=RSy.good.mono hs5 fun _ _ _=>trivial
 have HX14:=Hd hX14
 clear h10 h11 h12 h13 h14 hs5 hv5 hu5 hX14
 have a10:=Ext.keep HX14.out (Ext.keep HX9.out (Ext.keep HX8.out (Q1.out.cell 0 _)))
 have a11:=Ext.keep HX14.out (Ext.keep HX9.out (Ext.keep HX8.out (Q1.out.cell 1 _)))
 have l1:=World.block_lt_of_cell? w14 _ a10
 go_wp2_with fail
 obtain ⟨W15,hW15,q5,q6,hX15,_⟩:=qlk w14 (.cells #[.int .i64 3,.slice A5 3 c5,.slice B5 4 d5] 25) (.cells #[.int .i64 0,.slice none 0 0] 61)
 rw [hW15]
 clear hW15 a10 a11 l1
 obtain ⟨b6,hb6⟩:∃ b6,w14.heap.size+1=b6:=⟨_,rfl⟩
 obtain ⟨b5,hb5⟩:∃ b5,w14.heap.size=b5:=⟨_,rfl⟩
 rw [hb6,hb5]
 rw [hb6] at q6
 rw [hb5] at q5
 have hI:SanI b1 b2 b3 b4 b5 (.slice A4 3 c4) (.slice B4 3 d4) (.slice A5 3 c5) (.slice B5 4 d5) (.slice (some ⟨b6,0,none⟩) 1 1) W15:=by
  have e1:=HX14.out.trans' hX15
  have e2:=HX9.out.trans' e1
  have e3:=HX8.out.trans' e2
  exact ⟨Q1.out.ext e3,Q2.out.ext e3,Q3.out.ext e3,Q4.out.ext e1,q5,RSy.good.bel HS4.out e2,RSy.good.bel HS5.out hX15,qdm [0] (by decide) (by decide) q6⟩
 have hX:Ext w W15:=hw4.trans' (HX8.out.trans' (HX9.out.trans' (HX14.out.trans' hX15)))
 clear q5 q6 hb5 hb6 hw4 hX15 Q1 Q2 Q3 Q4 HS4 HS5 HX8 HX9 HX14
 have hq:=After_c (fun _=>True) sy5 _ [lbg 0] _ W15 hI.s5 hI.l6
 rw [v1.1,v1.2] at hq
 refine hq.mono ?_
 rintro e w16 ⟨A7,c7,rfl,r7,h16⟩
 have R7:=Hd (ints_of r7)
 have I16:=hI.ext h16
 clear hq r7 hI
 have i10:=I16.x1.cell 0 _
 have i11:=I16.x1.cell 1 _
 have i20:=I16.x2.cell 0 _
 have i21:=I16.x2.cell 1 _
 have i30:=I16.x3.cell 0 _
 have i31:=I16.x3.cell 1 _
 have i40:=I16.x4.cell 0 _
 have i41:=I16.x4.cell 1 _
 have i42:=I16.x4.cell 2 _
 have i50:=I16.x5.cell 0 _
 have i51:=I16.x5.cell 1 _
 have i52:=I16.x5.cell 2 _
 have z1:=I16.x1.lt
 have z2:=I16.x2.lt
 have z3:=I16.x3.lt
 have z4:=I16.x4.lt
 have z5:=I16.x5.lt
 go_wp2_with fail
 clear i10 i11 i20 i21 i30 i31 i40 i41 i42 i50 i51 i52 z1 z2 z3 z4 z5
 have h17:=(Ext.refl w16).alloc (.cells #[.int .i64 1,.slice none 0 0] 61)
 have I17:=I16.ext h17
 have hq:=qr1 (fun _=>True) sy5 _ [lbg 0] [lbg 1] _ _ _ I17.s5 I17.l6 (qdm [1] (by decide) (by decide) (qby w16 _))
 rw [v2.1,v2.2] at hq
 refine hq.mono ?_
 rintro e w18 ⟨rfl,h18⟩
 have I18:=I17.ext h18
 clear hq I16 I17
 have i10:=I18.x1.cell 0 _
 have i11:=I18.x1.cell 1 _
 have i20:=I18.x2.cell 0 _
 have i21:=I18.x2.cell 1 _
 have i30:=I18.x3.cell 0 _
 have i31:=I18.x3.cell 1 _
 have i40:=I18.x4.cell 0 _
 have i41:=I18.x4.cell 1 _
 have i42:=I18.x4.cell 2 _
 have i50:=I18.x5.cell 0 _
 have i51:=I18.x5.cell 1 _
 have i52:=I18.x5.cell 2 _
 have z1:=I18.x1.lt
 have z2:=I18.x2.lt
 have z3:=I18.x3.lt
 have z4:=I18.x4.lt
 have z5:=I18.x5.lt
 go_wp2_with fail
 clear i10 i11 i20 i21 i30 i31 i40 i41 i42 i50 i51 i52 z1 z2 z3 z4 z5
 have h19:=(Ext.refl w18).alloc (.cells #[.int .i64 1,.slice none 0 0,.int .i64 2,.slice none 0 0] 61)
 have I19:=I18.ext h19
 have hq:=qr1 (fun _=>True) sy5 _ [lbg 0] [lbg 1,lbg 2] _ _ _ I19.s5 I19.l6 (qdm [1,2] (by decide) (by decide) (qby w18 _))
 rw [v3.1,v3.2] at hq
 refine hq.mono ?_
 rintro e w20 ⟨rfl,h20⟩
 have I20:=I19.ext h20
 clear hq I18 I19
 go_wp2_with fail
 have hq:=qju (fun _=>True) [1,2] [1,2] _ _ _ ((RSl.good qac.good).bel R7.out bel) (qjs [1,2] (by decide) (by decide) (qby w20 _))
 rw [show decide (([1,2]:List Int)=[1,2])=true by decide] at hq
 refine hq.mono ?_
 rintro e w21 ⟨rfl,h21⟩
 have hx21:Ext w20 w21:=bel
 have I21:=I20.ext hx21
 have HX21:Hid (Ext w w21):=bel
 clear hq I20 h16 h17 h18 h19 h20 h21 hx21 hX R7
 have i10:=I21.x1.cell 0 _
 have i11:=I21.x1.cell 1 _
 have i20:=I21.x2.cell 0 _
 have i21:=I21.x2.cell 1 _
 have i30:=I21.x3.cell 0 _
 have i31:=I21.x3.cell 1 _
 have i40:=I21.x4.cell 0 _
 have i41:=I21.x4.cell 1 _
 have i42:=I21.x4.cell 2 _
 have i50:=I21.x5.cell 0 _
 have i51:=I21.x5.cell 1 _
 have i52:=I21.x5.cell 2 _
 have z1:=I21.x1.lt
 have z2:=I21.x2.lt
 have z3:=I21.x3.lt
 have z4:=I21.x4.lt
 have z5:=I21.x5.lt
 go_wp2_with fail
 clear i10 i11 i20 i21 i30 i31 i40 i41 i42 i50 i51 i52 z1 z2 z3 z4 z5
 have hq:=Musts_c (fun _=>True) sy4 sm4 _ [lbg 0] _ w21 I21.s4 I21.l6
 rw [v4.1,v4.2] at hq
 refine hq.mono ?_
 rintro e w22 ⟨A13,c13,rfl,r13,h22⟩
 have R13:Hid (RSl qaa 1 (fun _=>True) w22 [[lbg 1],[lbg 2]] [.slice A13 2 c13]):=(RSl.good qaa.good).mono (r13.sl qaa.good (by decide)) fun _ _ _=>trivial
 have I22:=I21.ext h22
 clear hq r13 I21
 have i10:=I22.x1.cell 0 _
 have i11:=I22.x1.cell 1 _
 have i20:=I22.x2.cell 0 _
 have i21:=I22.x2.cell 1 _
 have i30:=I22.x3.cell 0 _
 have i31:=I22.x3.cell 1 _
 have i40:=I22.x4.cell 0 _
 have i41:=I22.x4.cell 1 _
 have i42:=I22.x4.cell 2 _
 have i50:=I22.x5.cell 0 _
 have i51:=I22.x5.cell 1 _
 have i52:=I22.x5.cell 2 _
 have z1:=I22.x1.lt
 have z2:=I22.x2.lt
 have z3:=I22.x3.lt
 have z4:=I22.x4.lt
 have z5:=I22.x5.lt
 go_wp2_with fail
 clear i10 i11 i20 i21 i30 i31 i40 i41 i42 i50 i51 i52 z1 z2 z3 z4 z5
 have hq:=Musts_c (fun _=>True) sy5 sm5 _ [lbg 0] _ w22 I22.s5 I22.l6
 rw [v5.1,v5.2] at hq
 refine hq.mono ?_
 rintro e w23 ⟨A14,c14,rfl,r14,h23⟩
 have R14:Hid (RSl qaa 1 (fun _=>True) w23 [[lbg 1,lbg 2]] [.slice A14 1 c14]):=(RSl.good qaa.good).mono (r14.sl qaa.good (by decide)) fun _ _ _=>trivial
 have I23:=I22.ext h23
 clear hq r14 I22
 have i10:=I23.x1.cell 0 _
 have i11:=I23.x1.cell 1 _
 have i20:=I23.x2.cell 0 _
 have i21:=I23.x2.cell 1 _
 have i30:=I23.x3.cell 0 _
 have i31:=I23.x3.cell 1 _
 have i40:=I23.x4.cell 0 _
 have i41:=I23.x4.cell 1 _
 have i42:=I23.x4.cell 2 _
 have i50:=I23.x5.cell 0 _
 have i51:=I23.x5.cell 1 _
 have i52:=I23.x5.cell 2 _
 have z1:=I23.x1.lt
 have z2:=I23.x2.lt
 have z3:=I23.x3.lt
 have z4:=I23.x4.lt
 have z5:=I23.x5.lt
 go_wp2_with fail
 clear i10 i11 i20 i21 i30 i31 i40 i41 i42 i50 i51 i52 z1 z2 z3 z4 z5
 have la:=qaa.good.bel (qdm [1] (by decide) (by decide) (qby w23 (.cells (lbCs [1]).toArray 61))) ((Ext.refl _).alloc (.cells (lbCs [2]).toArray 61))
 have lb:=qdm [2] (by decide) (by decide) (qby (w23.alloc (.cells (lbCs [1]).toArray 61)) (.cells (lbCs [2]).toArray 61))
 have ll:=qii qaa.good (by decide) (e:=22) (qiw la rfl (qh3 lb rfl)) (by decide)
 have hq:=qsq (fun _=>True) [[lbg 1],[lbg 2]] [[lbg 1],[lbg 2]] _ _ _ ((RSl.good qaa.good).bel R13.out bel) ll
 rw [show sameSs [[lbg 1],[lbg 2]] [[lbg 1],[lbg 2]]=true by decide +kernel] at hq
 simp only [World.size_alloc] at hq
 refine hq.mono ?_
 rintro e w24 ⟨rfl,h24⟩
 have hx24:Ext w23 w24:=Ext.trans' (by exact bel) h24.ext
 have I24:=I23.ext hx24
 clear hq la lb ll h24 I23
 have i10:=I24.x1.cell 0 _
 have i11:=I24.x1.cell 1 _
 have i20:=I24.x2.cell 0 _
 have i21:=I24.x2.cell 1 _
 have i30:=I24.x3.cell 0 _
 have i31:=I24.x3.cell 1 _
 have i40:=I24.x4.cell 0 _
 have i41:=I24.x4.cell 1 _
 have i42:=I24.x4.cell 2 _
 have i50:=I24.x5.cell 0 _
 have i51:=I24.x5.cell 1 _
 have i52:=I24.x5.cell 2 _
 have z1:=I24.x1.lt
 have z2:=I24.x2.lt
 have z3:=I24.x3.lt
 have z4:=I24.x4.lt
 have z5:=I24.x5.lt
 go_wp2_with fail
 clear i10 i11 i20 i21 i30 i31 i40 i41 i42 i50 i51 i52 z1 z2 z3 z4 z5
 have la:=qdm [1,2] (by decide) (by decide) (qby w24 (.cells (lbCs [1,2]).toArray 61))
 have ll:=qii qaa.good (by decide) (e:=22) (qh3 la rfl) (by decide)
 have hq:=qsq (fun _=>True) [[lbg 1,lbg 2]] [[lbg 1,lbg 2]] _ _ _ ((RSl.good qaa.good).bel R14.out bel) ll
 rw [show sameSs [[lbg 1,lbg 2]] [[lbg 1,lbg 2]]=true by decide +kernel] at hq
 simp only [World.size_alloc] at hq
 refine hq.mono ?_
 rintro e w25 ⟨rfl,h25⟩
 have hx25:Ext w24 w25:=Ext.trans' (by exact bel) h25.ext
 have I25:=I24.ext hx25
 have HX25:Hid (Ext w w25):=HX21.out.trans' (h22.trans' (h23.trans' (hx24.trans' hx25)))
 clear hq la ll h22 h23 hx24 h25 hx25 I24 R13 R14 HX21
 have i10:=I25.x1.cell 0 _
 have i11:=I25.x1.cell 1 _
 have i20:=I25.x2.cell 0 _
 have i21:=I25.x2.cell 1 _
 have i30:=I25.x3.cell 0 _
 have i31:=I25.x3.cell 1 _
 have i40:=I25.x4.cell 0 _
 have i41:=I25.x4.cell 1 _
 have i42:=I25.x4.cell 2 _
 have i50:=I25.x5.cell 0 _
 have i51:=I25.x5.cell 1 _
 have i52:=I25.x5.cell 2 _
 have z1:=I25.x1.lt
 have z2:=I25.x2.lt
 have z3:=I25.x3.lt
 have z4:=I25.x4.lt
 have z5:=I25.x5.lt
 go_wp2_with fail
 clear i10 i11 i20 i21 i30 i31 i40 i41 i42 i50 i51 i52 z1 z2 z3 z4 z5
 have hq:=qpd (fun _=>True) sy4 sm4 _ 1 w25 I25.s4
 rw [v6.1,v6.2] at hq
 refine hq.mono ?_
 rintro e w26 ⟨A15,c15,rfl,r15,h26⟩
 have R15:Hid (RSl RTe 2 (fun _=>True) w26 [t1',t2',t3'] [.slice A15 3 c15]):=(RSl.good RTe.good).mono (r15.sl RTe.good (by decide)) fun _ _ _=>trivial
 have I26:=I25.ext h26
 have HX26:Hid (Ext w w26):=HX25.out.trans' h26
 clear hq r15 I25 HX25 h26
 have i10:=I26.x1.cell 0 _
 have i11:=I26.x1.cell 1 _
 have i20:=I26.x2.cell 0 _
 have i21:=I26.x2.cell 1 _
 have i30:=I26.x3.cell 0 _
 have i31:=I26.x3.cell 1 _
 have i40:=I26.x4.cell 0 _
 have i41:=I26.x4.cell 1 _
 have i42:=I26.x4.cell 2 _
 have i50:=I26.x5.cell 0 _
 have i51:=I26.x5.cell 1 _
 have i52:=I26.x5.cell 2 _
 have z1:=I26.x1.lt
 have z2:=I26.x2.lt
 have z3:=I26.x3.lt
 have z4:=I26.x4.lt
 have z5:=I26.x5.lt
 go_wp2_with fail
 clear i10 i11 i20 i21 i30 i31 i40 i41 i42 i50 i51 i52 z1 z2 z3 z4 z5
 refine qip [fV (.int .i64 0),fV (.bool false),fV (.bool false),fTes [t1',t2',t3'],fV (.agg #[.int .i64 0,.slice none 0 0]),qct [lbg 0],fTe t1',qct [lbg 0],fV (.agg #[.int .i64 1,.slice none 0 0]),qct [lbg 1],fTe t2',qct [lbg 0],fV (.agg #[.int .i64 2,.slice none 0 0]),qct [lbg 2],fTe t3',fTes [t1',t2',t3'],fV (.bool true),fV (.bool false),fV (.bool false)]
  (by kernel_rfl) (by kernel_rfl) (by repeat (first | exact mv_nil | refine qik (by first | exact mvV _ | exact qhz _ | exact mvTe _ | exact qh6 _ | exact qhp _ | exact qgs _ | exact qiz _ | exact qia _ _) ?_)) ?_ ?_
 ·refine ⟨?_,⟨?_,⟨?_,⟨?_,⟨?_,⟨?_,⟨?_,⟨?_,⟨?_,⟨?_,⟨?_,⟨?_,⟨?_,⟨?_,⟨?_,⟨?_,⟨?_,⟨?_,⟨?_,trivial⟩⟩⟩⟩⟩⟩⟩⟩⟩⟩⟩⟩⟩⟩⟩⟩⟩⟩⟩
  ·intro vs W hW hd
   have hX:Ext w26 W:=Ext.trans' (Below.drew (Ext.refl _)) hW
   exact qc1 rfl rfl ⟨Ext.refl _,rfl⟩
  ·intro vs W hW hd
   have hX:Ext w26 W:=Ext.trans' (Below.drew (Ext.refl _)) hW
   exact vNeq rfl (hd 0 (by decide)) rfl ⟨Ext.refl _,rfl⟩
  ·intro vs W hW hd
   have hX:Ext w26 W:=Ext.trans' (Below.drew (Ext.refl _)) hW
   exact qc1 rfl (hd 1 (by decide)) ⟨Ext.refl _,rfl⟩
  ·intro vs W hW hd
   have hX:Ext w26 W:=Ext.trans' (Below.drew (Ext.refl _)) hW
   refine ⟨⟨_,_,rfl,rfl⟩,fun _=>?_,fun h=>absurd (by rw [show vs 2 = .bool false from hd 2 (by decide)];rfl) h⟩
   exact qc1 rfl rfl ⟨Ext.refl _,(RSl.good RTe.good).bel R15.out hX⟩
  ·intro vs W hW hd
   have hX:Ext w26 W:=Ext.trans' (Below.drew (Ext.refl _)) hW
   refine ⟨⟨_,_,rfl,rfl⟩,fun _=>?_,fun h=>absurd (by rw [show vs 2 = .bool false from hd 2 (by decide)];rfl) h⟩
   exact qel rfl rfl ((I26.ext hX).x1.cell 0 _) ((I26.ext hX).x1.cell 1 _) ⟨Ext.refl _,rfl⟩
  ·intro vs W hW hd
   have hX:Ext w26 W:=Ext.trans' (Below.drew (Ext.refl _)) hW
   refine ⟨⟨_,_,rfl,rfl⟩,fun _=>?_,fun h=>absurd (by rw [show vs 2 = .bool false from hd 2 (by decide)];rfl) h⟩
   exact qfq rfl (hd 4 (by decide)) ⟨(Ext.refl _).alloc _,qdm [0] (by decide) (by decide) (qby W _)⟩
  ·intro vs W hW hd
   have hX:Ext w26 W:=Ext.trans' (Below.drew (Ext.refl _)) hW
   refine ⟨⟨_,_,rfl,rfl⟩,fun _=>?_,fun h=>absurd (by rw [show vs 2 = .bool false from hd 2 (by decide)];rfl) h⟩
   exact qeb rfl eg76 rfl rfl rfl (qf7 (nil_lbs W) (hd 5 (by decide)))
  ·intro vs W hW hd
   have hX:Ext w26 W:=Ext.trans' (Below.drew (Ext.refl _)) hW
   refine ⟨⟨_,_,rfl,rfl⟩,fun _=>?_,fun h=>absurd (by rw [show vs 2 = .bool false from hd 2 (by decide)];rfl) h⟩
   exact qc1 rfl rfl ⟨Ext.refl _,(I26.ext hX).l6⟩
  ·intro vs W hW hd
   have hX:Ext w26 W:=Ext.trans' (Below.drew (Ext.refl _)) hW
   refine ⟨⟨_,_,rfl,rfl⟩,fun _=>?_,fun h=>absurd (by rw [show vs 2 = .bool false from hd 2 (by decide)];rfl) h⟩
   exact qel rfl rfl ((I26.ext hX).x2.cell 0 _) ((I26.ext hX).x2.cell 1 _) ⟨Ext.refl _,rfl⟩
  ·intro vs W hW hd
   have hX:Ext w26 W:=Ext.trans' (Below.drew (Ext.refl _)) hW
   refine ⟨⟨_,_,rfl,rfl⟩,fun _=>?_,fun h=>absurd (by rw [show vs 2 = .bool false from hd 2 (by decide)];rfl) h⟩
   exact qfq rfl (hd 8 (by decide)) ⟨(Ext.refl _).alloc _,qdm [1] (by decide) (by decide) (qby W _)⟩
  ·intro vs W hW hd
   have hX:Ext w26 W:=Ext.trans' (Below.drew (Ext.refl _)) hW
   refine ⟨⟨_,_,rfl,rfl⟩,fun _=>?_,fun h=>absurd (by rw [show vs 2 = .bool false from hd 2 (by decide)];rfl) h⟩
   exact qeb rfl eg76 rfl rfl rfl (qf7 (hd 7 (by decide)) (hd 9 (by decide)))
  ·intro vs W hW hd
   have hX:Ext w26 W:=Ext.trans' (Below.drew (Ext.refl _)) hW
   refine ⟨⟨_,_,rfl,rfl⟩,fun _=>?_,fun h=>absurd (by rw [show vs 2 = .bool false from hd 2 (by decide)];rfl) h⟩
   exact qc1 rfl rfl ⟨Ext.refl _,(I26.ext hX).l6⟩
  ·intro vs W hW hd
   have hX:Ext w26 W:=Ext.trans' (Below.drew (Ext.refl _)) hW
   refine ⟨⟨_,_,rfl,rfl⟩,fun _=>?_,fun h=>absurd (by rw [show vs 2 = .bool false from hd 2 (by decide)];rfl) h⟩
   exact qel rfl rfl ((I26.ext hX).x3.cell 0 _) ((I26.ext hX).x3.cell 1 _) ⟨Ext.refl _,rfl⟩
  ·intro vs W hW hd
   have hX:Ext w26 W:=Ext.trans' (Below.drew (Ext.refl _)) hW
   refine ⟨⟨_,_,rfl,rfl⟩,fun _=>?_,fun h=>absurd (by rw [show vs 2 = .bool false from hd 2 (by decide)];rfl) h⟩
   exact qfq rfl (hd 12 (by decide)) ⟨(Ext.refl _).alloc _,qdm [2] (by decide) (by decide) (qby W _)⟩
  ·intro vs W hW hd
   have hX:Ext w26 W:=Ext.trans' (Below.drew (Ext.refl _)) hW
   refine ⟨⟨_,_,rfl,rfl⟩,fun _=>?_,fun h=>absurd (by rw [show vs 2 = .bool false from hd 2 (by decide)];rfl) h⟩
   exact qeb rfl eg76 rfl rfl rfl (qf7 (hd 11 (by decide)) (hd 13 (by decide)))
  ·intro vs W hW hd
   have hX:Ext w26 W:=Ext.trans' (Below.drew (Ext.refl _)) hW
   refine ⟨⟨_,_,rfl,rfl⟩,fun _=>?_,fun h=>absurd (by rw [show vs 2 = .bool false from hd 2 (by decide)];rfl) h⟩
   obtain ⟨x1,y1,x2,y2,x3,y3,e1,e2,e3,hr⟩:=tes3 (hd 6 (by decide)) (hd 10 (by decide)) (hd 14 (by decide))
   exact vTes3 rfl e1 e2 e3 ⟨(Ext.refl _).alloc _,hr⟩
  ·intro vs W hW hd
   have hX:Ext w26 W:=Ext.trans' (Below.drew (Ext.refl _)) hW
   refine ⟨⟨_,_,rfl,rfl⟩,fun _=>?_,fun h=>absurd (by rw [show vs 2 = .bool false from hd 2 (by decide)];rfl) h⟩
   exact vCall3 rfl eg23 rfl rfl rfl rfl ((qul (fun _=>True) _ _ _ _ W (hd 3 (by decide)) (hd 15 (by decide))).mono fun e w' h=>⟨_,h.1,h.2.ext,by rw [leq3];rfl⟩)
  ·intro vs W hW hd
   have hX:Ext w26 W:=Ext.trans' (Below.drew (Ext.refl _)) hW
   refine ⟨⟨_,_,rfl,rfl⟩,fun _=>?_,fun h=>absurd (by rw [show vs 2 = .bool false from hd 2 (by decide)];rfl) h⟩
   exact vNot rfl (hd 16 (by decide)) ⟨Ext.refl _,rfl⟩
  ·intro vs W hW hd
   have hX:Ext w26 W:=Ext.trans' (Below.drew (Ext.refl _)) hW
   exact vPick rfl (hd 2 (by decide)) rfl (hd 17 (by decide)) ⟨Ext.refl _,rfl⟩
 intro vs15 w27 h27 hf
 have f18:vs15 18 = .bool false:=hf 18 (by decide)
 clear hf
 simp only [qcf,Act.put,List.setIfInBounds_toArray,List.set_cons_zero,List.set_cons_succ]
 rw [f18]
 clear f18
 have I27:=I26.ext h27
 have HX27:Hid (Ext w w27):=HX26.out.trans' h27
 have i10:=I27.x1.cell 0 _
 have i11:=I27.x1.cell 1 _
 have i20:=I27.x2.cell 0 _
 have i21:=I27.x2.cell 1 _
 have i30:=I27.x3.cell 0 _
 have i31:=I27.x3.cell 1 _
 have i40:=I27.x4.cell 0 _
 have i41:=I27.x4.cell 1 _
 have i42:=I27.x4.cell 2 _
 have i50:=I27.x5.cell 0 _
 have i51:=I27.x5.cell 1 _
 have i52:=I27.x5.cell 2 _
 have z1:=I27.x1.lt
 have z2:=I27.x2.lt
 have z3:=I27.x3.lt
 have z4:=I27.x4.lt
 have z5:=I27.x5.lt
 go_wp2_with fail
 clear i10 i11 i20 i21 i30 i31 i40 i41 i42 i50 i51 i52 z1 z2 z3 z4 z5
 refine qip [qct [lbg 0],fV (.agg #[.int .i64 1,.slice none 0 0]),qct [lbg 1],fTe t2',fV (.agg #[.int .i64 3,.slice A5 3 c5,.slice B5 4 d5]),qd9 [1,2],qd9 [1,2],qfp [1,2],fV (.int .i64 0),qfp [1,2],fV (.int .i64 0)]
  (by kernel_rfl) (by kernel_rfl) (by repeat (first | exact mv_nil | refine qik (by first | exact mvV _ | exact qhz _ | exact mvTe _ | exact qh6 _ | exact qhp _ | exact qgs _ | exact qiz _ | exact qia _ _) ?_)) ?_ ?_
 ·refine ⟨?_,⟨?_,⟨?_,⟨?_,⟨?_,⟨?_,⟨?_,⟨?_,⟨?_,⟨?_,⟨?_,trivial⟩⟩⟩⟩⟩⟩⟩⟩⟩⟩⟩
  ·intro vs W hW hd
   have hX:Ext w27 W:=Ext.trans' (Below.drew (Ext.refl _)) hW
   exact qc1 rfl rfl ⟨Ext.refl _,(I27.ext hX).l6⟩
  ·intro vs W hW hd
   have hX:Ext w27 W:=Ext.trans' (Below.drew (Ext.refl _)) hW
   exact qel rfl rfl ((I27.ext hX).x2.cell 0 _) ((I27.ext hX).x2.cell 1 _) ⟨Ext.refl _,rfl⟩
  ·intro vs W hW hd
   have hX:Ext w27 W:=Ext.trans' (Below.drew (Ext.refl _)) hW
   exact qfq rfl (hd 1 (by decide)) ⟨(Ext.refl _).alloc _,qdm [1] (by decide) (by decide) (qby W _)⟩
  ·intro vs W hW hd
   have hX:Ext w27 W:=Ext.trans' (Below.drew (Ext.refl _)) hW
   exact qeb rfl eg76 rfl rfl rfl (qf7 (hd 0 (by decide)) (hd 2 (by decide)))
  ·intro vs W hW hd
   have hX:Ext w27 W:=Ext.trans' (Below.drew (Ext.refl _)) hW
   exact qlv rfl rfl ((I27.ext hX).x5.cell 0 _) ((I27.ext hX).x5.cell 1 _) ((I27.ext hX).x5.cell 2 _) ⟨Ext.refl _,rfl⟩
  ·intro vs W hW hd
   have hX:Ext w27 W:=Ext.trans' (Below.drew (Ext.refl _)) hW
   obtain ⟨x,y,ex,rx⟩:fTe t2' (vs 3) W:=(hd 3 (by decide))
   exact qeb rfl eg31 ex (hd 4 (by decide)) rfl (qqx t2' _ v7 rx (I27.ext hX).s5)
  ·intro vs W hW hd
   have hX:Ext w27 W:=Ext.trans' (Below.drew (Ext.refl _)) hW
   exact qc1 rfl rfl ⟨Ext.refl _,(hd 5 (by decide))⟩
  ·intro vs W hW hd
   have hX:Ext w27 W:=Ext.trans' (Below.drew (Ext.refl _)) hW
   obtain ⟨u,eu,ru⟩:qd9 [1,2] (vs 6) W:=(hd 6 (by decide))
   exact qgi rfl eu rfl ⟨Ext.refl _,ru⟩
  ·intro vs W hW hd
   have hX:Ext w27 W:=Ext.trans' (Below.drew (Ext.refl _)) hW
   obtain ⟨u,eu,ru⟩:qd9 [1,2] (vs 6) W:=(hd 6 (by decide))
   exact qgi rfl eu rfl ⟨Ext.refl _,rfl⟩
  ·intro vs W hW hd
   have hX:Ext w27 W:=Ext.trans' (Below.drew (Ext.refl _)) hW
   exact qgh rfl rfl ⟨Ext.refl _,(hd 7 (by decide))⟩
  ·intro vs W hW hd
   have hX:Ext w27 W:=Ext.trans' (Below.drew (Ext.refl _)) hW
   exact qgh rfl (hd 8 (by decide)) ⟨Ext.refl _,rfl⟩
 intro vs17 w28 h28 hf
 have f10:vs17 10 = .int .i64 0:=hf 10 (by decide)
 have F16:qfp [1,2] (vs17 9) w28:=hf 9 (by decide)
 obtain ⟨A16,c16,e16,_,_⟩:=RSl.val F16
 rw [e16] at F16
 have R16:=Hd F16
 clear hf F16
 simp only [qcf,Act.put,List.setIfInBounds_toArray,List.set_cons_zero,List.set_cons_succ]
 rw [f10,e16]
 clear f10 e16
 have I28:=I27.ext h28
 have HX28:Hid (Ext w w28):=HX27.out.trans' h28
 have i10:=I28.x1.cell 0 _
 have i11:=I28.x1.cell 1 _
 have i20:=I28.x2.cell 0 _
 have i21:=I28.x2.cell 1 _
 have i30:=I28.x3.cell 0 _
 have i31:=I28.x3.cell 1 _
 have i40:=I28.x4.cell 0 _
 have i41:=I28.x4.cell 1 _
 have i42:=I28.x4.cell 2 _
 have i50:=I28.x5.cell 0 _
 have i51:=I28.x5.cell 1 _
 have i52:=I28.x5.cell 2 _
 have z1:=I28.x1.lt
 have z2:=I28.x2.lt
 have z3:=I28.x3.lt
 have z4:=I28.x4.lt
 have z5:=I28.x5.lt
 go_wp2_with fail
 clear i10 i11 i20 i21 i30 i31 i40 i41 i42 i50 i51 i52 z1 z2 z3 z4 z5
 refine qip [fV (.agg #[.int .i64 0,.slice none 0 0]),fV (.agg #[.int .i64 1,.slice none 0 0]),qct [lbg 0,lbg 1],fV (.agg #[.int .i64 0,.slice none 0 0]),qct [lbg 0],fTe ⟨[lbg 0,lbg 1],[lbg 0]⟩,fV (.agg #[.int .i64 3,.slice A5 3 c5,.slice B5 4 d5]),qd9 [1,3],qd9 [1,3],qfp [1,3],fV (.int .i64 0),qfp [1,3],fV (.int .i64 0)]
  (by kernel_rfl) (by kernel_rfl) (by repeat (first | exact mv_nil | refine qik (by first | exact mvV _ | exact qhz _ | exact mvTe _ | exact qh6 _ | exact qhp _ | exact qgs _ | exact qiz _ | exact qia _ _) ?_)) ?_ ?_
 ·refine ⟨?_,⟨?_,⟨?_,⟨?_,⟨?_,⟨?_,⟨?_,⟨?_,⟨?_,⟨?_,⟨?_,⟨?_,⟨?_,trivial⟩⟩⟩⟩⟩⟩⟩⟩⟩⟩⟩⟩⟩
  ·intro vs W hW hd
   have hX:Ext w28 W:=Ext.trans' (Below.drew (Ext.refl _)) hW
   exact qel rfl rfl ((I28.ext hX).x1.cell 0 _) ((I28.ext hX).x1.cell 1 _) ⟨Ext.refl _,rfl⟩
  ·intro vs W hW hd
   have hX:Ext w28 W:=Ext.trans' (Below.drew (Ext.refl _)) hW
   exact qel rfl rfl ((I28.ext hX).x2.cell 0 _) ((I28.ext hX).x2.cell 1 _) ⟨Ext.refl _,rfl⟩
  ·intro vs W hW hd
   have hX:Ext w28 W:=Ext.trans' (Below.drew (Ext.refl _)) hW
   exact vLit2 rfl (hd 0 (by decide)) (hd 1 (by decide)) ⟨(Ext.refl _).alloc _,qdm [0,1] (by decide) (by decide) (qby W _)⟩
  ·intro vs W hW hd
   have hX:Ext w28 W:=Ext.trans' (Below.drew (Ext.refl _)) hW
   exact qel rfl rfl ((I28.ext hX).x1.cell 0 _) ((I28.ext hX).x1.cell 1 _) ⟨Ext.refl _,rfl⟩
  ·intro vs W hW hd
   have hX:Ext w28 W:=Ext.trans' (Below.drew (Ext.refl _)) hW
   exact qfq rfl (hd 3 (by decide)) ⟨(Ext.refl _).alloc _,qdm [0] (by decide) (by decide) (qby W _)⟩
  ·intro vs W hW hd
   have hX:Ext w28 W:=Ext.trans' (Below.drew (Ext.refl _)) hW
   exact qeb rfl eg76 rfl rfl rfl (qf7 (hd 2 (by decide)) (hd 4 (by decide)))
  ·intro vs W hW hd
   have hX:Ext w28 W:=Ext.trans' (Below.drew (Ext.refl _)) hW
   exact qlv rfl rfl ((I28.ext hX).x5.cell 0 _) ((I28.ext hX).x5.cell 1 _) ((I28.ext hX).x5.cell 2 _) ⟨Ext.refl _,rfl⟩
  ·intro vs W hW hd
   have hX:Ext w28 W:=Ext.trans' (Below.drew (Ext.refl _)) hW
   obtain ⟨x,y,ex,rx⟩:fTe ⟨[lbg 0,lbg 1],[lbg 0]⟩ (vs 5) W:=(hd 5 (by decide))
   exact qeb rfl eg31 ex (hd 6 (by decide)) rfl (qqx _ _ v8 rx (I28.ext hX).s5)
  ·intro vs W hW hd
   have hX:Ext w28 W:=Ext.trans' (Below.drew (Ext.refl _)) hW
   exact qc1 rfl rfl ⟨Ext.refl _,(hd 7 (by decide))⟩
  ·intro vs W hW hd
   have hX:Ext w28 W:=Ext.trans' (Below.drew (Ext.refl _)) hW
   obtain ⟨u,eu,ru⟩:qd9 [1,3] (vs 8) W:=(hd 8 (by decide))
   exact qgi rfl eu rfl ⟨Ext.refl _,ru⟩
  ·intro vs W hW hd
   have hX:Ext w28 W:=Ext.trans' (Below.drew (Ext.refl _)) hW
   obtain ⟨u,eu,ru⟩:qd9 [1,3] (vs 8) W:=(hd 8 (by decide))
   exact qgi rfl eu rfl ⟨Ext.refl _,rfl⟩
  ·intro vs W hW hd
   have hX:Ext w28 W:=Ext.trans' (Below.drew (Ext.refl _)) hW
   exact qgh rfl rfl ⟨Ext.refl _,(hd 9 (by decide))⟩
  ·intro vs W hW hd
   have hX:Ext w28 W:=Ext.trans' (Below.drew (Ext.refl _)) hW
   exact qgh rfl (hd 10 (by decide)) ⟨Ext.refl _,rfl⟩
 intro vs18 w29 h29 hf
 have f12:vs18 12 = .int .i64 0:=hf 12 (by decide)
 have F17:qfp [1,3] (vs18 11) w29:=hf 11 (by decide)
 obtain ⟨A17,c17,e17,_,_⟩:=RSl.val F17
 rw [e17] at F17
 have R17:=Hd F17
 clear hf F17
 simp only [qcf,Act.put,List.setIfInBounds_toArray,List.set_cons_zero,List.set_cons_succ]
 rw [f12,e17]
 clear f12 e17
 have I29:=I28.ext h29
 have HX29:Hid (Ext w w29):=HX28.out.trans' h29
 have i10:=I29.x1.cell 0 _
 have i11:=I29.x1.cell 1 _
 have i20:=I29.x2.cell 0 _
 have i21:=I29.x2.cell 1 _
 have i30:=I29.x3.cell 0 _
 have i31:=I29.x3.cell 1 _
 have i40:=I29.x4.cell 0 _
 have i41:=I29.x4.cell 1 _
 have i42:=I29.x4.cell 2 _
 have i50:=I29.x5.cell 0 _
 have i51:=I29.x5.cell 1 _
 have i52:=I29.x5.cell 2 _
 have z1:=I29.x1.lt
 have z2:=I29.x2.lt
 have z3:=I29.x3.lt
 have z4:=I29.x4.lt
 have z5:=I29.x5.lt
 go_wp2_with fail
 clear i10 i11 i20 i21 i30 i31 i40 i41 i42 i50 i51 i52 z1 z2 z3 z4 z5
 have hq:=qju (fun _=>True) [1,2] [1,2] _ _ _ ((RSl.good qac.good).bel R16.out (Ext.alloc h29 _)) (qjs [1,2] (by decide) (by decide) (qby w29 _))
 rw [show decide (([1,2]:List Int)=[1,2])=true by decide] at hq
 refine hq.mono ?_
 rintro e w30 ⟨rfl,h30⟩
 have hx30:Ext w29 w30:=bel
 clear hq
 go_wp2_with fail
 have hq:=qju (fun _=>True) [1,3] [1,3] _ _ _ ((RSl.good qac.good).bel R17.out (Ext.alloc hx30 _)) (qjs [1,3] (by decide) (by decide) (qby w30 _))
 rw [show decide (([1,3]:List Int)=[1,3])=true by decide] at hq
 refine hq.mono ?_
 rintro e w31 ⟨rfl,h31⟩
 have hx31:Ext w30 w31:=bel
 have I31:=I29.ext (hx30.trans' hx31)
 have HX31:Hid (Ext w w31):=HX29.out.trans' (hx30.trans' hx31)
 have R15b:=(RSl.good RTe.good).bel R15.out (h27.trans' (h28.trans' (h29.trans' (hx30.trans' hx31))))
 clear hq h30 h31 hx30 hx31 R15 R16 R17 I29 I28 I27 h27 h28 h29 HX27 HX28 HX29
 have i10:=I31.x1.cell 0 _
 have i11:=I31.x1.cell 1 _
 have i20:=I31.x2.cell 0 _
 have i21:=I31.x2.cell 1 _
 have i30:=I31.x3.cell 0 _
 have i31:=I31.x3.cell 1 _
 have i40:=I31.x4.cell 0 _
 have i41:=I31.x4.cell 1 _
 have i42:=I31.x4.cell 2 _
 have i50:=I31.x5.cell 0 _
 have i51:=I31.x5.cell 1 _
 have i52:=I31.x5.cell 2 _
 have z1:=I31.x1.lt
 have z2:=I31.x2.lt
 have z3:=I31.x3.lt
 have z4:=I31.x4.lt
 have z5:=I31.x5.lt
 go_wp2_with fail
 clear i10 i11 i20 i21 i30 i31 i40 i41 i42 i50 i51 i52 z1 z2 z3 z4 z5
 have hq:=qsa (fun _=>True) sy4 sy5 sm4 _ _ 1 w31 I31.s4 I31.s5
 rw [v9.1,v9.2.1,v9.2.2] at hq
 refine hq.mono ?_
 rintro e w32 ⟨v19,u19,rfl,r19,h32⟩
 obtain ⟨v19,u19,e19,hv19,hu19⟩:=id r19
 injection e19 with e19a e19
 injection e19 with e19b _
 subst e19a e19b
 obtain ⟨A19,c19,rfl,_,_⟩:=hv19.val
 obtain ⟨B19,d19,rfl,_,_⟩:=hu19.val
 have R19:=Hd r19
 have I32:=I31.ext h32
 clear hq r19 hv19 hu19
 have i10:=I32.x1.cell 0 _
 have i11:=I32.x1.cell 1 _
 have i20:=I32.x2.cell 0 _
 have i21:=I32.x2.cell 1 _
 have i30:=I32.x3.cell 0 _
 have i31:=I32.x3.cell 1 _
 have i40:=I32.x4.cell 0 _
 have i41:=I32.x4.cell 1 _
 have i42:=I32.x4.cell 2 _
 have i50:=I32.x5.cell 0 _
 have i51:=I32.x5.cell 1 _
 have i52:=I32.x5.cell 2 _
 have z1:=I32.x1.lt
 have z2:=I32.x2.lt
 have z3:=I32.x3.lt
 have z4:=I32.x4.lt
 have z5:=I32.x5.lt
 go_wp2_with fail
 clear i10 i11 i20 i21 i30 i31 i40 i41 i42 i50 i51 i52 z1 z2 z3 z4 z5
 obtain ⟨b19,hb19⟩:∃ b19,w32.heap.size=b19:=⟨_,rfl⟩
 obtain ⟨W33,hW33⟩:∃ W33,w32.alloc (.cells #[.slice A19 1 c19,.slice B19 1 d19] 40)=W33:=⟨_,rfl⟩
 have hW33':w32.alloc (.cells #[.slice A19 t2'.tr.length c19,.slice B19 t2'.mu.length d19] 40)=W33:=hW33
 have Q19:qaf W33 b19 40 [.slice A19 1 c19,.slice B19 1 d19]:=by show W33.heap[_]? = _;rw [<- hW33,<- hb19];exact qby _ _
 have h33:Ext w32 W33:=by rw [<- hW33];exact (Ext.refl w32).alloc _
 rw [hW33',hb19]
 clear hW33 hW33' hb19
 have I33:=I32.ext h33
 have R19b:RTe (fun _=>True) W33 t2' [.slice A19 1 c19,.slice B19 1 d19]:=RTe.good.bel R19.out h33
 have R15c:=(RSl.good RTe.good).bel R15b (h32.trans' h33)
 have HX33:Hid (Ext w W33):=HX31.out.trans' (h32.trans' h33)
 clear R19 I32 I31 h32 h33 HX31 R15b
 have hq:=qsa (fun _=>True) sy5 sy4 sm5 _ _ 1 W33 I33.s5 I33.s4
 rw [v10.1,v10.2] at hq
 refine hq.mono ?_
 rintro e w34 ⟨v21,u21,rfl,r21,h34⟩
 obtain ⟨v21,u21,e21,hv21,hu21⟩:=id r21
 injection e21 with e21a e21
 injection e21 with e21b _
 subst e21a e21b
 obtain ⟨A21,c21,rfl,_,_⟩:=hv21.val
 obtain ⟨B21,d21,rfl,_,_⟩:=hu21.val
 have I34:=I33.ext h34
 have Q19c:=Q19.ext h34
 have R19c:=Hd (RTe.good.bel R19b h34)
 have R15d:=Hd ((RSl.good RTe.good).bel R15c h34)
 have HX34:Hid (Ext w w34):=HX33.out.trans' h34
 clear hq r21 hv21 hu21 Q19 R19b R15c I33 HX33 h34
 have i10:=I34.x1.cell 0 _
 have i11:=I34.x1.cell 1 _
 have i20:=I34.x2.cell 0 _
 have i21:=I34.x2.cell 1 _
 have i30:=I34.x3.cell 0 _
 have i31:=I34.x3.cell 1 _
 have i40:=I34.x4.cell 0 _
 have i41:=I34.x4.cell 1 _
 have i42:=I34.x4.cell 2 _
 have i50:=I34.x5.cell 0 _
 have i51:=I34.x5.cell 1 _
 have i52:=I34.x5.cell 2 _
 have z1:=I34.x1.lt
 have z2:=I34.x2.lt
 have z3:=I34.x3.lt
 have z4:=I34.x4.lt
 have z5:=I34.x5.lt
 go_wp2_with fail
 clear i10 i11 i20 i21 i30 i31 i40 i41 i42 i50 i51 i52 z1 z2 z3 z4 z5
 obtain ⟨W35,hW35⟩:∃ W35,w34.alloc (.cells #[.slice A21 (qdj sy5 sy4 1).tr.length c21,.slice B21 (qdj sy5 sy4 1).mu.length d21] 40)=W35:=⟨_,rfl⟩
 have h35:Ext w34 W35:=by rw [<- hW35];exact (Ext.refl w34).alloc _
 rw [hW35]
 clear hW35
 have I35:=I34.ext h35
 have Q35:=Q19c.ext h35
 have R35:=RTe.good.bel R19c.out h35
 refine qip [fV (.bool false),fV (.bool false),fTe t2',qct [lbg 0],fV (.agg #[.int .i64 1,.slice none 0 0]),qct [lbg 1],fTe t2',fV (.bool true),fV (.bool false),fV (.bool false),fV (.bool false),fV (.int .i64 0),fV (.bool false),fV (.bool false),fV (.bool false),fV (.bool true),fV (.bool false),fV (.bool false),fV (.bool false),fV (.int .i64 0),fV (.bool false),fV (.bool false)]
  (by kernel_rfl) (by kernel_rfl) (by repeat (first | exact mv_nil | refine qik (by first | exact mvV _ | exact qhz _ | exact mvTe _ | exact qh6 _ | exact qhp _ | exact qgs _ | exact qiz _ | exact qia _ _) ?_)) ?_ ?_
 ·refine ⟨?_,⟨?_,⟨?_,⟨?_,⟨?_,⟨?_,⟨?_,⟨?_,⟨?_,⟨?_,⟨?_,⟨?_,⟨?_,⟨?_,⟨?_,⟨?_,⟨?_,⟨?_,⟨?_,⟨?_,⟨?_,⟨?_,trivial⟩⟩⟩⟩⟩⟩⟩⟩⟩⟩⟩⟩⟩⟩⟩⟩⟩⟩⟩⟩⟩⟩
  ·intro vs W hW hd
   have hX:Ext W35 W:=Ext.trans' (Below.drew (Ext.refl _)) hW
   exact qc1 rfl rfl ⟨Ext.refl _,rfl⟩
  ·intro vs W hW hd
   have hX:Ext W35 W:=Ext.trans' (Below.drew (Ext.refl _)) hW
   exact qc1 rfl (hd 0 (by decide)) ⟨Ext.refl _,rfl⟩
  ·intro vs W hW hd
   have hX:Ext W35 W:=Ext.trans' (Below.drew (Ext.refl _)) hW
   refine ⟨⟨_,_,rfl,rfl⟩,fun _=>?_,fun h=>absurd (by rw [show vs 1 = .bool false from hd 1 (by decide)];rfl) h⟩
   exact vLoad40 rfl rfl ((Q35.ext hX).cell 0 _) ((Q35.ext hX).cell 1 _) ⟨Ext.refl _,_,_,rfl,RTe.good.bel R35 hX⟩
  ·intro vs W hW hd
   have hX:Ext W35 W:=Ext.trans' (Below.drew (Ext.refl _)) hW
   refine ⟨⟨_,_,rfl,rfl⟩,fun _=>?_,fun h=>absurd (by rw [show vs 1 = .bool false from hd 1 (by decide)];rfl) h⟩
   exact qc1 rfl rfl ⟨Ext.refl _,(I35.ext hX).l6⟩
  ·intro vs W hW hd
   have hX:Ext W35 W:=Ext.trans' (Below.drew (Ext.refl _)) hW
   refine ⟨⟨_,_,rfl,rfl⟩,fun _=>?_,fun h=>absurd (by rw [show vs 1 = .bool false from hd 1 (by decide)];rfl) h⟩
   exact qel rfl rfl ((I35.ext hX).x2.cell 0 _) ((I35.ext hX).x2.cell 1 _) ⟨Ext.refl _,rfl⟩
  ·intro vs W hW hd
   have hX:Ext W35 W:=Ext.trans' (Below.drew (Ext.refl _)) hW
   refine ⟨⟨_,_,rfl,rfl⟩,fun _=>?_,fun h=>absurd (by rw [show vs 1 = .bool false from hd 1 (by decide)];rfl) h⟩
   exact qfq rfl (hd 4 (by decide)) ⟨(Ext.refl _).alloc _,qdm [1] (by decide) (by decide) (qby W _)⟩
  ·intro vs W hW hd
   have hX:Ext W35 W:=Ext.trans' (Below.drew (Ext.refl _)) hW
   refine ⟨⟨_,_,rfl,rfl⟩,fun _=>?_,fun h=>absurd (by rw [show vs 1 = .bool false from hd 1 (by decide)];rfl) h⟩
   exact qeb rfl eg76 rfl rfl rfl (qf7 (hd 3 (by decide)) (hd 5 (by decide)))
  ·intro vs W hW hd
   have hX:Ext W35 W:=Ext.trans' (Below.drew (Ext.refl _)) hW
   refine ⟨⟨_,_,rfl,rfl⟩,fun _=>?_,fun h=>absurd (by rw [show vs 1 = .bool false from hd 1 (by decide)];rfl) h⟩
   obtain ⟨x,y,ex,rx⟩:fTe t2' (vs 2) W:=(hd 2 (by decide))
   obtain ⟨x',y',ex',rx'⟩:fTe t2' (vs 6) W:=(hd 6 (by decide))
   exact qeb rfl eg24 ex ex' rfl ((qr3 (fun _=>True) t2' t2' _ _ W rx rx').mono fun e w' h=>⟨_,h.1,h.2.ext,by rw [show qiy t2' t2'=true by decide +kernel];rfl⟩)
  ·intro vs W hW hd
   have hX:Ext W35 W:=Ext.trans' (Below.drew (Ext.refl _)) hW
   refine ⟨⟨_,_,rfl,rfl⟩,fun _=>?_,fun h=>absurd (by rw [show vs 1 = .bool false from hd 1 (by decide)];rfl) h⟩
   exact vNot rfl (hd 7 (by decide)) ⟨Ext.refl _,rfl⟩
  ·intro vs W hW hd
   have hX:Ext W35 W:=Ext.trans' (Below.drew (Ext.refl _)) hW
   exact vPick rfl (hd 1 (by decide)) rfl (hd 8 (by decide)) ⟨Ext.refl _,rfl⟩
  ·intro vs W hW hd
   have hX:Ext W35 W:=Ext.trans' (Below.drew (Ext.refl _)) hW
   exact qc1 rfl (hd 9 (by decide)) ⟨Ext.refl _,rfl⟩
  ·intro vs W hW hd
   have hX:Ext W35 W:=Ext.trans' (Below.drew (Ext.refl _)) hW
   refine ⟨⟨_,_,rfl,rfl⟩,fun _=>?_,fun h=>absurd (by rw [show vs 10 = .bool false from hd 10 (by decide)];rfl) h⟩
   exact qc1 rfl rfl ⟨Ext.refl _,rfl⟩
  ·intro vs W hW hd
   have hX:Ext W35 W:=Ext.trans' (Below.drew (Ext.refl _)) hW
   refine ⟨⟨_,_,rfl,rfl⟩,fun _=>?_,fun h=>absurd (by rw [show vs 10 = .bool false from hd 10 (by decide)];rfl) h⟩
   exact vNeq rfl (hd 11 (by decide)) rfl ⟨Ext.refl _,rfl⟩
  ·intro vs W hW hd
   have hX:Ext W35 W:=Ext.trans' (Below.drew (Ext.refl _)) hW
   exact vPick rfl (hd 10 (by decide)) rfl (hd 12 (by decide)) ⟨Ext.refl _,rfl⟩
  ·intro vs W hW hd
   have hX:Ext W35 W:=Ext.trans' (Below.drew (Ext.refl _)) hW
   exact qc1 rfl (hd 13 (by decide)) ⟨Ext.refl _,rfl⟩
  ·intro vs W hW hd
   have hX:Ext W35 W:=Ext.trans' (Below.drew (Ext.refl _)) hW
   refine ⟨⟨_,_,rfl,rfl⟩,fun _=>?_,fun h=>absurd (by rw [show vs 14 = .bool false from hd 14 (by decide)];rfl) h⟩
   exact qc1 rfl rfl ⟨Ext.refl _,rfl⟩
  ·intro vs W hW hd
   have hX:Ext W35 W:=Ext.trans' (Below.drew (Ext.refl _)) hW
   refine ⟨⟨_,_,rfl,rfl⟩,fun _=>?_,fun h=>absurd (by rw [show vs 14 = .bool false from hd 14 (by decide)];rfl) h⟩
   exact vNot rfl (hd 15 (by decide)) ⟨Ext.refl _,rfl⟩
  ·intro vs W hW hd
   have hX:Ext W35 W:=Ext.trans' (Below.drew (Ext.refl _)) hW
   exact vPick rfl (hd 14 (by decide)) rfl (hd 16 (by decide)) ⟨Ext.refl _,rfl⟩
  ·intro vs W hW hd
   have hX:Ext W35 W:=Ext.trans' (Below.drew (Ext.refl _)) hW
   exact qc1 rfl (hd 17 (by decide)) ⟨Ext.refl _,rfl⟩
  ·intro vs W hW hd
   have hX:Ext W35 W:=Ext.trans' (Below.drew (Ext.refl _)) hW
   refine ⟨⟨_,_,rfl,rfl⟩,fun _=>?_,fun h=>absurd (by rw [show vs 18 = .bool false from hd 18 (by decide)];rfl) h⟩
   exact qc1 rfl rfl ⟨Ext.refl _,rfl⟩
  ·intro vs W hW hd
   have hX:Ext W35 W:=Ext.trans' (Below.drew (Ext.refl _)) hW
   refine ⟨⟨_,_,rfl,rfl⟩,fun _=>?_,fun h=>absurd (by rw [show vs 18 = .bool false from hd 18 (by decide)];rfl) h⟩
   exact vNeq rfl (hd 19 (by decide)) rfl ⟨Ext.refl _,rfl⟩
  ·intro vs W hW hd
   have hX:Ext W35 W:=Ext.trans' (Below.drew (Ext.refl _)) hW
   exact vPick rfl (hd 18 (by decide)) rfl (hd 20 (by decide)) ⟨Ext.refl _,rfl⟩
 intro vs23 w36 h36 hf
 have f21:vs23 21 = .bool false:=hf 21 (by decide)
 clear hf
 simp only [qcf,Act.put,List.setIfInBounds_toArray,List.set_cons_zero,List.set_cons_succ]
 rw [f21]
 clear f21
 have I36:=I35.ext h36
 have R15e:=(RSl.good RTe.good).bel R15d.out (h35.trans' h36)
 have HX36:Hid (Ext w w36):=HX34.out.trans' (h35.trans' h36)
 clear I34 I35 Q19c Q35 R19c R35 h35 h36 HX34 R15d
 have i10:=I36.x1.cell 0 _
 have i11:=I36.x1.cell 1 _
 have i20:=I36.x2.cell 0 _
 have i21:=I36.x2.cell 1 _
 have i30:=I36.x3.cell 0 _
 have i31:=I36.x3.cell 1 _
 have i40:=I36.x4.cell 0 _
 have i41:=I36.x4.cell 1 _
 have i42:=I36.x4.cell 2 _
 have i50:=I36.x5.cell 0 _
 have i51:=I36.x5.cell 1 _
 have i52:=I36.x5.cell 2 _
 have z1:=I36.x1.lt
 have z2:=I36.x2.lt
 have z3:=I36.x3.lt
 have z4:=I36.x4.lt
 have z5:=I36.x5.lt
 go_wp2_with fail
 clear i10 i11 i20 i21 i30 i31 i40 i41 i42 i50 i51 i52 z1 z2 z3 z4 z5
 refine qip [fV (.agg #[.int .i64 2,.slice A4 3 c4,.slice B4 3 d4]),qct [lbg 0],fV (.agg #[.int .i64 1,.slice none 0 0]),qct [lbg 1],fTe t2',fTes [t2'],qhc [true,true,false] [true,false,false],qhc [true,true,false] [true,false,false],qf3 [true,true,false],qf3 [true,false,false],fV (.int .i64 0),qf3 [true,true,false],qf3 [true,false,false],fV (.int .i64 0)]
  (by kernel_rfl) (by kernel_rfl) (by repeat (first | exact mv_nil | refine qik (by first | exact mvV _ | exact qhz _ | exact mvTe _ | exact qh6 _ | exact qhp _ | exact qgs _ | exact qiz _ | exact qia _ _) ?_)) ?_ ?_
 ·refine ⟨?_,⟨?_,⟨?_,⟨?_,⟨?_,⟨?_,⟨?_,⟨?_,⟨?_,⟨?_,⟨?_,⟨?_,⟨?_,⟨?_,trivial⟩⟩⟩⟩⟩⟩⟩⟩⟩⟩⟩⟩⟩⟩
  ·intro vs W hW hd
   have hX:Ext w36 W:=Ext.trans' (Below.drew (Ext.refl _)) hW
   exact qlv rfl rfl ((I36.ext hX).x4.cell 0 _) ((I36.ext hX).x4.cell 1 _) ((I36.ext hX).x4.cell 2 _) ⟨Ext.refl _,rfl⟩
  ·intro vs W hW hd
   have hX:Ext w36 W:=Ext.trans' (Below.drew (Ext.refl _)) hW
   exact qc1 rfl rfl ⟨Ext.refl _,(I36.ext hX).l6⟩
  ·intro vs W hW hd
   have hX:Ext w36 W:=Ext.trans' (Below.drew (Ext.refl _)) hW
   exact qel rfl rfl ((I36.ext hX).x2.cell 0 _) ((I36.ext hX).x2.cell 1 _) ⟨Ext.refl _,rfl⟩
  ·intro vs W hW hd
   have hX:Ext w36 W:=Ext.trans' (Below.drew (Ext.refl _)) hW
   exact qfq rfl (hd 2 (by decide)) ⟨(Ext.refl _).alloc _,qdm [1] (by decide) (by decide) (qby W _)⟩
  ·intro vs W hW hd
   have hX:Ext w36 W:=Ext.trans' (Below.drew (Ext.refl _)) hW
   exact qeb rfl eg76 rfl rfl rfl (qf7 (hd 1 (by decide)) (hd 3 (by decide)))
  ·intro vs W hW hd
   have hX:Ext w36 W:=Ext.trans' (Below.drew (Ext.refl _)) hW
   obtain ⟨x1,y1,e1,hr⟩:=tes1 (hd 4 (by decide))
   exact vTes1 rfl e1 ⟨(Ext.refl _).alloc _,hr⟩
  ·intro vs W hW hd
   have hX:Ext w36 W:=Ext.trans' (Below.drew (Ext.refl _)) hW
   exact qeb rfl eg48 (hd 0 (by decide)) rfl rfl (cov_call (hd 5 (by decide)) (I36.ext hX).s4)
  ·intro vs W hW hd
   have hX:Ext w36 W:=Ext.trans' (Below.drew (Ext.refl _)) hW
   exact qc1 rfl rfl ⟨Ext.refl _,(hd 6 (by decide))⟩
  ·intro vs W hW hd
   have hX:Ext w36 W:=Ext.trans' (Below.drew (Ext.refl _)) hW
   obtain ⟨u,t,eu,ru,rt⟩:qhc _ _ (vs 7) W:=(hd 7 (by decide))
   exact qgi rfl eu rfl ⟨Ext.refl _,ru⟩
  ·intro vs W hW hd
   have hX:Ext w36 W:=Ext.trans' (Below.drew (Ext.refl _)) hW
   obtain ⟨u,t,eu,ru,rt⟩:qhc _ _ (vs 7) W:=(hd 7 (by decide))
   exact qgi rfl eu rfl ⟨Ext.refl _,rt⟩
  ·intro vs W hW hd
   have hX:Ext w36 W:=Ext.trans' (Below.drew (Ext.refl _)) hW
   obtain ⟨u,t,eu,ru,rt⟩:qhc _ _ (vs 7) W:=(hd 7 (by decide))
   exact qgi rfl eu rfl ⟨Ext.refl _,rfl⟩
  ·intro vs W hW hd
   have hX:Ext w36 W:=Ext.trans' (Below.drew (Ext.refl _)) hW
   exact qgh rfl rfl ⟨Ext.refl _,(hd 8 (by decide))⟩
  ·intro vs W hW hd
   have hX:Ext w36 W:=Ext.trans' (Below.drew (Ext.refl _)) hW
   exact qgh rfl rfl ⟨Ext.refl _,(hd 9 (by decide))⟩
  ·intro vs W hW hd
   have hX:Ext w36 W:=Ext.trans' (Below.drew (Ext.refl _)) hW
   exact qgh rfl (hd 10 (by decide)) ⟨Ext.refl _,rfl⟩
 intro vs25 w37 h37 hf
 have f13:vs25 13 = .int .i64 0:=hf 13 (by decide)
 have F22:qf3 [true,true,false] (vs25 11) w37:=hf 11 (by decide)
 have F23:qf3 [true,false,false] (vs25 12) w37:=hf 12 (by decide)
 obtain ⟨A22,c22,e22,_,_⟩:=RSl.val F22
 obtain ⟨A23,c23,e23,_,_⟩:=RSl.val F23
 rw [e22] at F22
 rw [e23] at F23
 clear hf
 simp only [qcf,Act.put,List.setIfInBounds_toArray,List.set_cons_zero,List.set_cons_succ]
 rw [f13,e22,e23]
 clear f13 e22 e23
 have R22:=Hd F22
 have R23:=Hd F23
 have I37:=I36.ext h37
 have R15f:=(RSl.good RTe.good).bel R15e h37
 have HX37:Hid (Ext w w37):=HX36.out.trans' h37
 clear I36 h37 HX36 R15e F22 F23
 have i10:=I37.x1.cell 0 _
 have i11:=I37.x1.cell 1 _
 have i20:=I37.x2.cell 0 _
 have i21:=I37.x2.cell 1 _
 have i30:=I37.x3.cell 0 _
 have i31:=I37.x3.cell 1 _
 have i40:=I37.x4.cell 0 _
 have i41:=I37.x4.cell 1 _
 have i42:=I37.x4.cell 2 _
 have i50:=I37.x5.cell 0 _
 have i51:=I37.x5.cell 1 _
 have i52:=I37.x5.cell 2 _
 have z1:=I37.x1.lt
 have z2:=I37.x2.lt
 have z3:=I37.x3.lt
 have z4:=I37.x4.lt
 have z5:=I37.x5.lt
 go_wp2_with fail
 clear i10 i11 i20 i21 i30 i31 i40 i41 i42 i50 i51 i52 z1 z2 z3 z4 z5
 refine (qsn _ _ v12 R15f I37.s4).mono ?_
 rintro e w38 ⟨v,rfl,h38,u24,rfl,F24⟩
 obtain ⟨A24,c24,rfl,_,_⟩:=RSl.val F24
 have R24:=Hd F24
 have I38:=I37.ext h38
 have HX38:Hid (Ext w w38):=HX37.out.trans' h38
 clear I37 HX37 R15f F24
 have i10:=I38.x1.cell 0 _
 have i11:=I38.x1.cell 1 _
 have i20:=I38.x2.cell 0 _
 have i21:=I38.x2.cell 1 _
 have i30:=I38.x3.cell 0 _
 have i31:=I38.x3.cell 1 _
 have i40:=I38.x4.cell 0 _
 have i41:=I38.x4.cell 1 _
 have i42:=I38.x4.cell 2 _
 have i50:=I38.x5.cell 0 _
 have i51:=I38.x5.cell 1 _
 have i52:=I38.x5.cell 2 _
 have z1:=I38.x1.lt
 have z2:=I38.x2.lt
 have z3:=I38.x3.lt
 have z4:=I38.x4.lt
 have z5:=I38.x5.lt
 go_wp2_with fail
 clear i10 i11 i20 i21 i30 i31 i40 i41 i42 i50 i51 i52 z1 z2 z3 z4 z5
 refine qip [fV (.agg #[.int .i64 2,.slice A4 3 c4,.slice B4 3 d4]),qct [lbg 0],fV (.agg #[.int .i64 1,.slice none 0 0]),qct [lbg 1],fTe t2',fV (.agg #[.int .i64 0,.slice none 0 0]),fV (.agg #[.int .i64 1,.slice none 0 0]),qct [lbg 0,lbg 1],fV (.agg #[.int .i64 0,.slice none 0 0]),qct [lbg 0],fTe ⟨[lbg 0,lbg 1],[lbg 0]⟩,fV (.agg #[.int .i64 2,.slice none 0 0]),qct [lbg 2],fV (.agg #[.int .i64 0,.slice none 0 0]),qct [lbg 0],fTe ⟨[lbg 2],[lbg 0]⟩,fTes [t2',⟨[lbg 0,lbg 1],[lbg 0]⟩,⟨[lbg 2],[lbg 0]⟩],qd9 [1],qd9 [1],qfp [1],fV (.int .i64 0),qfp [1],fV (.int .i64 0)]
  (by kernel_rfl) (by kernel_rfl) (by repeat (first | exact mv_nil | refine qik (by first | exact mvV _ | exact qhz _ | exact mvTe _ | exact qh6 _ | exact qhp _ | exact qgs _ | exact qiz _ | exact qia _ _) ?_)) ?_ ?_
 ·refine ⟨?_,⟨?_,⟨?_,⟨?_,⟨?_,⟨?_,⟨?_,⟨?_,⟨?_,⟨?_,⟨?_,⟨?_,⟨?_,⟨?_,⟨?_,⟨?_,⟨?_,⟨?_,⟨?_,⟨?_,⟨?_,⟨?_,⟨?_,trivial⟩⟩⟩⟩⟩⟩⟩⟩⟩⟩⟩⟩⟩⟩⟩⟩⟩⟩⟩⟩⟩⟩⟩
  ·intro vs W hW hd
   have hX:Ext w38 W:=Ext.trans' (Below.drew (Ext.refl _)) hW
   exact qlv rfl rfl ((I38.ext hX).x4.cell 0 _) ((I38.ext hX).x4.cell 1 _) ((I38.ext hX).x4.cell 2 _) ⟨Ext.refl _,rfl⟩
  ·intro vs W hW hd
   have hX:Ext w38 W:=Ext.trans' (Below.drew (Ext.refl _)) hW
   exact qc1 rfl rfl ⟨Ext.refl _,(I38.ext hX).l6⟩
  ·intro vs W hW hd
   have hX:Ext w38 W:=Ext.trans' (Below.drew (Ext.refl _)) hW
   exact qel rfl rfl ((I38.ext hX).x2.cell 0 _) ((I38.ext hX).x2.cell 1 _) ⟨Ext.refl _,rfl⟩
  ·intro vs W hW hd
   have hX:Ext w38 W:=Ext.trans' (Below.drew (Ext.refl _)) hW
   exact qfq rfl (hd 2 (by decide)) ⟨(Ext.refl _).alloc _,qdm [1] (by decide) (by decide) (qby W _)⟩
  ·intro vs W hW hd
   have hX:Ext w38 W:=Ext.trans' (Below.drew (Ext.refl _)) hW
   exact qeb rfl eg76 rfl rfl rfl (qf7 (hd 1 (by decide)) (hd 3 (by decide)))
  ·intro vs W hW hd
   have hX:Ext w38 W:=Ext.trans' (Below.drew (Ext.refl _)) hW
   exact qel rfl rfl ((I38.ext hX).x1.cell 0 _) ((I38.ext hX).x1.cell 1 _) ⟨Ext.refl _,rfl⟩
  ·intro vs W hW hd
   have hX:Ext w38 W:=Ext.trans' (Below.drew (Ext.refl _)) hW
   exact qel rfl rfl ((I38.ext hX).x2.cell 0 _) ((I38.ext hX).x2.cell 1 _) ⟨Ext.refl _,rfl⟩
  ·intro vs W hW hd
   have hX:Ext w38 W:=Ext.trans' (Below.drew (Ext.refl _)) hW
   exact vLit2 rfl (hd 5 (by decide)) (hd 6 (by decide)) ⟨(Ext.refl _).alloc _,qdm [0,1] (by decide) (by decide) (qby W _)⟩
  ·intro vs W hW hd
   have hX:Ext w38 W:=Ext.trans' (Below.drew (Ext.refl _)) hW
   exact qel rfl rfl ((I38.ext hX).x1.cell 0 _) ((I38.ext hX).x1.cell 1 _) ⟨Ext.refl _,rfl⟩
  ·intro vs W hW hd
   have hX:Ext w38 W:=Ext.trans' (Below.drew (Ext.refl _)) hW
   exact qfq rfl (hd 8 (by decide)) ⟨(Ext.refl _).alloc _,qdm [0] (by decide) (by decide) (qby W _)⟩
  ·intro vs W hW hd
   have hX:Ext w38 W:=Ext.trans' (Below.drew (Ext.refl _)) hW
   exact qeb rfl eg76 rfl rfl rfl (qf7 (hd 7 (by decide)) (hd 9 (by decide)))
  ·intro vs W hW hd
   have hX:Ext w38 W:=Ext.trans' (Below.drew (Ext.refl _)) hW
   exact qel rfl rfl ((I38.ext hX).x3.cell 0 _) ((I38.ext hX).x3.cell 1 _) ⟨Ext.refl _,rfl⟩
  ·intro vs W hW hd
   have hX:Ext w38 W:=Ext.trans' (Below.drew (Ext.refl _)) hW
   exact qfq rfl (hd 11 (by decide)) ⟨(Ext.refl _).alloc _,qdm [2] (by decide) (by decide) (qby W _)⟩
  ·intro vs W hW hd
   have hX:Ext w38 W:=Ext.trans' (Below.drew (Ext.refl _)) hW
   exact qel rfl rfl ((I38.ext hX).x1.cell 0 _) ((I38.ext hX).x1.cell 1 _) ⟨Ext.refl _,rfl⟩
  ·intro vs W hW hd
   have hX:Ext w38 W:=Ext.trans' (Below.drew (Ext.refl _)) hW
   exact qfq rfl (hd 13 (by decide)) ⟨(Ext.refl _).alloc _,qdm [0] (by decide) (by decide) (qby W _)⟩
  ·intro vs W hW hd
   have hX:Ext w38 W:=Ext.trans' (Below.drew (Ext.refl _)) hW
   exact qeb rfl eg76 rfl rfl rfl (qf7 (hd 12 (by decide)) (hd 14 (by decide)))
  ·intro vs W hW hd
   have hX:Ext w38 W:=Ext.trans' (Below.drew (Ext.refl _)) hW
   obtain ⟨x1,y1,x2,y2,x3,y3,e1,e2,e3,hr⟩:=tes3 (hd 4 (by decide)) (hd 10 (by decide)) (hd 15 (by decide))
   exact vTes3 rfl e1 e2 e3 ⟨(Ext.refl _).alloc _,hr⟩
  ·intro vs W hW hd
   have hX:Ext w38 W:=Ext.trans' (Below.drew (Ext.refl _)) hW
   exact qeb rfl eg53 (hd 0 (by decide)) rfl rfl (qsn _ _ v13 (hd 16 (by decide)) (I38.ext hX).s4)
  ·intro vs W hW hd
   have hX:Ext w38 W:=Ext.trans' (Below.drew (Ext.refl _)) hW
   exact qc1 rfl rfl ⟨Ext.refl _,(hd 17 (by decide))⟩
  ·intro vs W hW hd
   have hX:Ext w38 W:=Ext.trans' (Below.drew (Ext.refl _)) hW
   obtain ⟨u,eu,ru⟩:qd9 [1] (vs 18) W:=(hd 18 (by decide))
   exact qgi rfl eu rfl ⟨Ext.refl _,ru⟩
  ·intro vs W hW hd
   have hX:Ext w38 W:=Ext.trans' (Below.drew (Ext.refl _)) hW
   obtain ⟨u,eu,ru⟩:qd9 [1] (vs 18) W:=(hd 18 (by decide))
   exact qgi rfl eu rfl ⟨Ext.refl _,rfl⟩
  ·intro vs W hW hd
   have hX:Ext w38 W:=Ext.trans' (Below.drew (Ext.refl _)) hW
   exact qgh rfl rfl ⟨Ext.refl _,(hd 19 (by decide))⟩
  ·intro vs W hW hd
   have hX:Ext w38 W:=Ext.trans' (Below.drew (Ext.refl _)) hW
   exact qgh rfl (hd 20 (by decide)) ⟨Ext.refl _,rfl⟩
 intro vs27 w39 h39 hf
 have f22:vs27 22 = .int .i64 0:=hf 22 (by decide)
 have F25:qfp [1] (vs27 21) w39:=hf 21 (by decide)
 obtain ⟨A25,c25,e25,_,_⟩:=RSl.val F25
 rw [e25] at F25
 clear hf
 simp only [qcf,Act.put,List.setIfInBounds_toArray,List.set_cons_zero,List.set_cons_succ]
 rw [f22,e25]
 clear f22 e25
 have R25:=Hd F25
 have HX39:Hid (Ext w w39):=HX38.out.trans' h39
 have hx1:Ext w37 w39:=h38.trans' h39
 clear F25 I38 HX38
 go_wp2_with fail
 have hq:=qr0 (fun _=>True) [true,true,false] [true,true,false] _ _ _ ((RSl.good qae.good).bel R22.out (Ext.alloc hx1 _)) (qp0 [true,true,false] (by decide) (qby w39 _))
 rw [show decide (([true,true,false]:List Bool)=[true,true,false])=true by decide] at hq
 refine hq.mono ?_
 rintro e w40 ⟨rfl,h40⟩
 have hx40:Ext w39 w40:=Ext.trans' ((Ext.refl _).alloc _) h40
 clear hq h40
 go_wp2_with fail
 have hq:=qr0 (fun _=>True) [true,false,false] [true,false,false] _ _ _ ((RSl.good qae.good).bel R23.out (Ext.alloc (hx1.trans' hx40) _)) (qp0 [true,false,false] (by decide) (qby w40 _))
 rw [show decide (([true,false,false]:List Bool)=[true,false,false])=true by decide] at hq
 refine hq.mono ?_
 rintro e w41 ⟨rfl,h41⟩
 have hx41:Ext w39 w41:=hx40.trans' (Ext.trans' ((Ext.refl _).alloc _) h41)
 clear hq h41
 go_wp2_with fail
 have hq:=qju (fun _=>True) [1,2] [1,2] _ _ _ ((RSl.good qac.good).bel R24.out (Ext.alloc (h39.trans' hx41) _)) (qjs [1,2] (by decide) (by decide) (qby w41 _))
 rw [show decide (([1,2]:List Int)=[1,2])=true by decide] at hq
 refine hq.mono ?_
 rintro e w42 ⟨rfl,h42⟩
 have hx42:Ext w39 w42:=hx41.trans' (Ext.trans' ((Ext.refl _).alloc _) h42)
 clear hq h42
 go_wp2_with fail
 have hq:=qju (fun _=>True) [1] [1] _ _ _ ((RSl.good qac.good).bel R25.out (Ext.alloc hx42 _)) (qjs [1] (by decide) (by decide) (qby w42 _))
 rw [show decide (([1]:List Int)=[1])=true by decide] at hq
 refine hq.mono ?_
 rintro e w43 ⟨rfl,h43⟩
 have HX43:Hid (Ext w w43):=HX39.out.trans' (hx42.trans' (Ext.trans' ((Ext.refl _).alloc _) h43))
 clear hq h43
 go_wp2_with fail
 go_ret
 exact ⟨rfl,HX43.out⟩
end
end Go.Proofs.YtegenalcheooeaaGreat
