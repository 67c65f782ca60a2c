/- Of the proof of a law of the suites: LMut4, LScore. -/
import Derived.Test.YtegenalcheooeaaGreatAF07
import Derived.Test.YtegenalcheooeaaGreatAF08
import Derived.Test.YtegenalcheooeaaGreatB15
set_option linter.unusedSectionVars false
set_option linter.unusedSimpArgs false
set_option linter.unusedVariables false
namespace Go.Proofs.YtegenalcheooeaaGreat
open Go.RowKit
attribute [local go_sem] cell?_exto
section
open Go.Shelf
def rightB (s:Sy) (m:Mu):Bool:=(decide (0<=m.e) && decide (m.e<s.es.length)) && (m.k == 2 || m.t == 0) && (m.k == 3 || m.l == 0)
theorem right_ok {s:Sy} (hok:qag s) {m:Mu} (h:rightB s m=true) (h1:¬ m.k<1) (h2:¬ 3<m.k) (h3:¬ m.t<0) (h4:¬ s.n<=m.t) (h5:¬ m.l<0) (h6:¬ max (s.ls.length:Int) 1<=m.l):qcv s m:=by
 simp only [rightB,Bool.and_eq_true,Bool.or_eq_true,decide_eq_true_eq,beq_iff_eq] at h
 obtain ⟨⟨⟨a,b⟩,c⟩,d⟩:=h
 have he:=qlp hok m.e.toNat (by omega)
 refine ⟨⟨a,b⟩,?_⟩
 by_cases k1:m.k=1
 ·exact .inl ⟨k1,by omega,by omega⟩
 ·by_cases k2:m.k=2
  ·exact .inr (.inl ⟨k2,⟨by omega,by omega⟩,by omega⟩)
  ·exact .inr (.inr ⟨by omega,by omega,by omega,by omega⟩)
def NoMuPost (w:World) (e:Ending) (w':World):Prop:=e = .returned (.tuple #[.agg #[.int .i64 0,.slice none 0 0,.slice none 0 0],.bool false,.int .i64 0])∧Ext w w'
set_option maxHeartbeats 4000000 in
set_option maxRecDepth 100000 in
theorem qtj (S:Nat->Prop) (s:Sy) (hok:qag s) (m:Mu) (hm:¬ qcv s m) (cs cm:List Value) (w:World) (hx:RSy S w s cs) (hmu:RMu S w m cm) :
  Calls Tryz.prog 124 #[.agg cs.toArray,.agg cm.toArray] w (NoMuPost w):=by
 have hx2:RSy (fun q=>q<w.heap.size) w s cs:=RSy.good.mono hx fun b hb _=>hb
 obtain ⟨jn,vl,ve,rfl,hvl,hve⟩:=id hx2
 obtain ⟨Al,cl,rfl,_,_⟩:=hvl.val
 obtain ⟨Ae,ce,rfl,_,_⟩:=hve.val
 obtain ⟨jk,je,jt,jl,rfl⟩:=hmu
 have HR:=Hd (fun h h1 h2 h3 h4 h5 h6=>hm (right_ok hok h h1 h2 h3 h4 h5 h6))
 clear hx hx2 hvl hve hm
 obtain ⟨W0,hW0⟩:∃ W0,((w.alloc (.cells #[.int .i64 s.n,.slice Al s.ls.length cl,.slice Ae s.es.length ce] 25)).alloc (.cells #[.int .i64 m.k,.int .i64 m.e,.int .i64 m.t,.int .i64 m.l] 94)).alloc (.cells #[.int .i64 0,.slice none 0 0,.slice none 0 0] 25)=W0:=⟨_,rfl⟩
 have hX0:Ext w W0:=by rw [<- hW0];exact (((Ext.refl w).alloc _).alloc _).alloc _
 have hs0:W0.heap.size=w.heap.size+3:=by rw [<- hW0];simp
 have hb0:qaf W0 w.heap.size 25 [.int .i64 s.n,.slice Al s.ls.length cl,.slice Ae s.es.length ce]:=by
  rw [<- hW0]
  exact ((qaf.new w _ _).ext ((Ext.refl _).alloc _)).ext ((Ext.refl _).alloc _)
 have hb1:qaf W0 (w.heap.size+1) 94 [.int .i64 m.k,.int .i64 m.e,.int .i64 m.t,.int .i64 m.l]:=by rw [<- hW0];exact qgx ..
 have hb2:qaf W0 (w.heap.size+1+1) 25 [.int .i64 0,.slice none 0 0,.slice none 0 0]:=by rw [<- hW0];exact qgo ..
 have HW0:=Hd hW0
 have HB0:=Hd hb0
 have HB1:=Hd hb1
 have HB2:=Hd hb2
 have HX0:=Hd hX0
 clear hW0 hb0 hb1 hb2 hX0
 go_enter Tryz.func124,Tryz.ntmps124
 go_upto_region 1 with (fail)
 rw [HW0.out]
 obtain ⟨B1,hB1⟩:∃ B,w.heap.size+1=B:=⟨_,rfl⟩
 rw [hB1] at HB1 HB2
 obtain ⟨B2,hB2⟩:∃ B,B1+1=B:=⟨_,rfl⟩
 rw [hB1,hB2]
 rw [hB2] at HB2
 have HN:Hid (B1=w.heap.size+1∧B2=w.heap.size+2∧W0.heap.size=w.heap.size+3):=⟨by omega,by omega,hs0⟩
 clear HW0 hB1 hB2 hs0
 have a0:=HB0.out.cell 0 _
 have a1:=HB0.out.cell 1 _
 have a2:=HB0.out.cell 2 _
 have az:=HB0.out.lt
 have m0:=HB1.out.cell 0 _
 have m1:=HB1.out.cell 1 _
 have m2:=HB1.out.cell 2 _
 have m3:=HB1.out.cell 3 _
 have mz:=HB1.out.lt
 obtain ⟨rb,hrb⟩:∃ rb,rightB s m=rb:=⟨_,rfl⟩
 have HRB:=Hd hrb
 clear hrb
 go_cut [7] (fun v7 wx=>v7 = .bool rb∧wx=W0)
 case first =>
  have e0:Hid (rb=((decide (0<=m.e) && decide (m.e<s.es.length)) && (m.k == 2 || m.t == 0) && (m.k == 3 || m.l == 0))):=HRB.out.symm
  by_cases q1:0<=m.e
  ·by_cases q2:m.e<s.es.length
   ·rcases Bool.eq_false_or_eq_true (m.k == 2) with r1 | r1
    ·rcases Bool.eq_false_or_eq_true (m.k == 3) with r2 | r2
     ·go_wp2_with fail
      go_meet
      exact ⟨by rw [e0.out,r1,r2,decide_eq_true (by omega),decide_eq_true (by omega)];rfl,rfl⟩
     ·rcases Bool.eq_false_or_eq_true (m.l == 0) with r3 | r3 <;>
      ·go_wp2_with fail
       go_meet
       exact ⟨by rw [e0.out,r1,r2,r3,decide_eq_true (by omega),decide_eq_true (by omega)];rfl,rfl⟩
    ·rcases Bool.eq_false_or_eq_true (m.t == 0) with r4 | r4
     ·rcases Bool.eq_false_or_eq_true (m.k == 3) with r2 | r2
      ·go_wp2_with fail
       go_meet
       exact ⟨by rw [e0.out,r1,r2,r4,decide_eq_true (by omega),decide_eq_true (by omega)];rfl,rfl⟩
      ·rcases Bool.eq_false_or_eq_true (m.l == 0) with r3 | r3 <;>
       ·go_wp2_with fail
        go_meet
        exact ⟨by rw [e0.out,r1,r2,r3,r4,decide_eq_true (by omega),decide_eq_true (by omega)];rfl,rfl⟩
     ·go_wp2_with fail
      go_meet
      exact ⟨by rw [e0.out,r1,r4,decide_eq_true (by omega),decide_eq_true (by omega)];rfl,rfl⟩
   ·go_wp2_with fail
    go_meet
    exact ⟨by rw [e0.out,decide_eq_true (by omega),decide_eq_false (by omega)];rfl,rfl⟩
  ·go_wp2_with fail
   go_meet
   exact ⟨by rw [e0.out,decide_eq_false (by omega)];rfl,rfl⟩
 case rest =>
 rename World=>Wx
 obtain ⟨rfl,hwx⟩:=hcut
 subst hwx
 go_upto_region 2 with (fail)
 go_cut [82] (fun v82 wx=>v82 = .bool true∧wx=Wx)
 case first =>
  cases rb with
  | false =>
   go_wp2_with fail
   go_meet
   exact ⟨rfl,rfl⟩
  | true =>
   by_cases q1:m.k<1
   ·go_wp2_with fail
    go_meet
    exact ⟨rfl,rfl⟩
   by_cases q2:3<m.k
   ·go_wp2_with fail
    go_meet
    exact ⟨rfl,rfl⟩
   by_cases q3:m.t<0
   ·go_wp2_with fail
    go_meet
    exact ⟨rfl,rfl⟩
   by_cases q4:s.n<=m.t
   ·go_wp2_with fail
    go_meet
    exact ⟨rfl,rfl⟩
   by_cases q5:m.l<0
   ·go_wp2_with fail
    go_meet
    exact ⟨rfl,rfl⟩
   by_cases q6:max (s.ls.length:Int) 1<=m.l
   ·go_wp2_with fail
    go_meet
    exact ⟨rfl,rfl⟩
   exact absurd trivial (fun _=>HR.out HRB.out q1 q2 q3 q4 q5 q6)
 case rest =>
 rename World=>Wy
 obtain ⟨rfl,hwy⟩:=hcut
 subst hwy
 have c0:=HB2.out.cell 0 _
 have c1:=HB2.out.cell 1 _
 have c2:=HB2.out.cell 2 _
 have cz:=HB2.out.lt
 have f0:=HB2.out.frozen 0
 have f1:=HB2.out.frozen 1
 have f2:=HB2.out.frozen 2
 go_wp2_with fail
 have hB3:=((HB2.out.set 0 (.int .i64 0)).set 1 (.slice none 0 0)).set 2 (.slice none 0 0)
 have hge:w.heap.size<=B2:=by have:=HN.out;omega
 exact bodyPost_ret (qq2 rfl _ _ B2 _ _ _ (.bool false) (.int .i64 0) rfl rfl rfl (hB3.cell 0 _) (hB3.cell 1 _) (hB3.cell 2 _)) rfl ⟨rfl,Ext.set (p:=⟨B2,2,none⟩) (Ext.set (p:=⟨B2,1,none⟩) (Ext.set (p:=⟨B2,0,none⟩) HX0.out hge _) hge _) hge _⟩
end
section
open Go.Shelf
def qe9 (s:Sy) (ts:List Te) (m:Mu):Bool:=decide (0<=qa8 (qbg (qci s m)) ts)
def ScoreGood (s:Sy) (ts:List Te) (ms:List Mu) (w:World) (e:Ending) (w':World):Prop:=∃ A c,e = .returned (.tuple #[.slice A ms.length c,.int .i64 0])∧qab qae 1 4 w.heap.size (fun _=>False) w' (ms.map (qe9 s ts)) (.slice A ms.length c)∧Ext w w'
structure qgv (s:Sy) (ts:List Te) (ms:List Mu) (w:World) (e:Ending) (w':World):Prop where
 good:qar s ts=0->(∀ m∈ms,qcv s m)->ScoreGood s ts ms w e w'
 bad:¬ (qar s ts=0∧∀ m∈ms,qcv s m)->∃ er,er≠0∧e = .returned (.tuple #[.slice none 0 0,.int .i64 er])∧Ext w w'
 ext:Ext w w'
theorem qgv.no {s:Sy} {ts:List Te} {ms:List Mu} {w w':World} {er:Int} (h:¬ (qar s ts=0∧∀ m∈ms,qcv s m)) (h0:er≠0) (hx:Ext w w'):qgv s ts ms w (.returned (.tuple #[.slice none 0 0,.int .i64 er])) w' :=
 ⟨fun h1 h2=>absurd ⟨h1,h2⟩ h,fun _=>⟨er,h0,rfl,hx⟩,hx⟩
theorem qgv.yes {s:Sy} {ts:List Te} {ms:List Mu} {w w':World} {A:Option Addr} {c:Nat} (h:qar s ts=0∧∀ m∈ms,qcv s m) (ho:qab qae 1 4 w.heap.size (fun _=>False) w' (ms.map (qe9 s ts)) (.slice A ms.length c)) (hx:Ext w w'):qgv s ts ms w (.returned (.tuple #[.slice A ms.length c,.int .i64 0])) w' :=
 ⟨fun _ _=>⟨A,c,rfl,ho,hx⟩,fun h1=>absurd h h1,hx⟩
set_option maxHeartbeats 4000000 in
set_option maxRecDepth 100000 in
theorem Score_c (s:Sy) (hsm:qer s) (h16:s.ls.length<=16) (cs:List Value) (ts:List Te) (v:Value) (ms:List Mu) (u:Value) (w:World) (hx:RSy (fun _=>True) w s cs) (ht:RSl RTe 2 (fun _=>True) w ts [v]) (hz:RSl RMu 4 (fun _=>True) w ms [u]) (hms:ms.length<=4000) :
  Calls Tryz.prog 69 #[.agg cs.toArray,v,u] w (qgv s ts ms w):=by
 have hak:=fun W (hW:Ext w W)=>qjj (fun _=>True) s cs ts v W (RSy.good.bel hx hW) ((RSl.good RTe.good).bel ht hW)
 have hmu:=fun (hok:qag s) m (hm:qcv s m) cm W (hW:Ext w W) (hr:RMu (fun _=>True) W m cm)=>qpr (fun _=>True) s hok hsm h16 m hm cs cm W (RSy.good.bel hx hW) hr
 have hno:=fun (hok:qag s) m (hm:¬ qcv s m) cm W (hW:Ext w W) (hr:RMu (fun _=>True) W m cm)=>qtj (fun _=>True) s hok m hm cs cm W (RSy.good.bel hx hW) hr
 have hfl:=fun z (hz:qag z) (hn:∀ t∈ts,NTe t) g W (hg:qav (fun _=>True) W g z) (hW:Ext w W)=>qmh (fun _=>True) z hz g ts v W hg ((RSl.good RTe.good).bel ht hW) hn
 obtain ⟨_,vl,ve,rfl,hvl,hve⟩:=id hx
 obtain ⟨Al,cl,rfl,_,_⟩:=hvl.val
 obtain ⟨Ae,ce,rfl,_,_⟩:=hve.val
 obtain ⟨A,c,rfl,hc,hc0⟩:=ht.val
 obtain ⟨Am,cm,rfl,hcm,hcm0⟩:=hz.val
 have HZ:=Hd hz
 clear hx ht hvl hve hz
 by_cases hE:qar s ts=0
 case neg =>
  obtain ⟨er,her⟩:∃ er,qar s ts=er:=⟨_,rfl⟩
  rw [her] at hak
  have hE0:er≠0:=by rw [<- her];exact hE
  have HP:=Hd (fun w' (hX:Ext w w')=>qgv.no (s:=s) (ts:=ts) (ms:=ms) (er:=er) (fun h=>hE h.1) hE0 hX)
  have hE':(er == 0)=false:=beq_eq_false_iff_ne.2 hE0
  clear hfl her hmu hno hE
  go_enter Tryz.func69,Tryz.ntmps69
  go_wp2_with fail
  refine (hak _ bel).mono ?_
  rintro e w1 ⟨_,h1⟩
  obtain ⟨rfl,h1⟩:=h1 hE0
  clear hE0
  go_wp2_with fail
  go_ret2
  exact HP.out _ bel
 have hok:=(qey hE).1
 have HN:=Hd fun t h=>NTe.of_test ((qey hE).2.2 t h)
 rw [hE] at hak
 have HE:=Hd hE
 have HOK:=Hd hok
 have HMU:=Hd (hmu hok)
 have HNO:=Hd (hno hok)
 have HFL:=Hd hfl
 clear hfl hmu hno hE
 have h4:¬ 4000<ms.length:=by omega
 go_enter Tryz.func69,Tryz.ntmps69
 go_wp2_with fail
 refine (hak _ bel).mono ?_
 rintro e w1 ⟨h1,_⟩
 obtain ⟨_,rfl,hx1,_,_⟩:=h1 rfl
 have hc1:=hx1.cells
 have a0:w1.cell? ⟨w.heap.size,0,none⟩=some (.int .i64 s.n):=Ext.keep hx1 (by go_simp)
 have a1:w1.cell? ⟨w.heap.size,1,none⟩=some (.slice Al s.ls.length cl):=Ext.keep hx1 (by go_simp)
 have a2:w1.cell? ⟨w.heap.size,2,none⟩=some (.slice Ae s.es.length ce):=Ext.keep hx1 (by go_simp)
 have HX1:Hid (Ext w w1):=(show Ext w w1 from bel)
 have hz1:w.heap.size<w1.heap.size:=by have:=hx1.size;simp at this;omega
 clear h1 hx1 hc1 hak
 go_wp2_with fail
 go_loopw [10,31] (fun v10 v31 wr=>∃ (k:Nat) (Ao:Option Addr) (co:Nat),k<=ms.length∧v31 = .int .i64 k∧v10 = .slice Ao k co∧Ext w1 wr∧Hid (qab qae 1 4 w1.heap.size (fun _=>False) wr ((ms.take k).map (qe9 s ts)) (.slice Ao k co))∧Hid (∀ m∈ms.take k,qcv s m)) (fun _ v _=>ms.length-(intOf v).toNat)
 case atStart=>exact ⟨0,none,0,Nat.zero_le _,rfl,rfl,Ext.refl _,qab.nil ..,by show ∀ _,_;simp⟩
 case round =>
  obtain ⟨k,Ao,co,hk,rfl,rfl,hEx,hO,hM⟩:=hrel
  have HEx:=Hd hEx
  have a0':=Ext.keep hEx a0
  have a1':=Ext.keep hEx a1
  have a2':=Ext.keep hEx a2
  have hzr:=hEx.size
  have hX:=HX1.out.trans' hEx
  have haz:w.heap.size<wr.heap.size:=by omega
  by_cases hlt:k<ms.length
  ·obtain ⟨b,off,cs1,rfl,hb,hSb,hl,hr,hcell⟩:=((RSl.good RMu.good).bel HZ.out hX).get k hlt
   obtain ⟨m,hmk⟩:∃ m,ms[k]=m:=⟨_,rfl⟩
   rw [hmk] at hr
   obtain ⟨jk,je,jt,jl,rfl⟩:=id hr
   have d0:=hcell.get 0 _
   have d1:=hcell.get 1 _
   have d2:=hcell.get 2 _
   have d3:=hcell.get 3 _
   simp only [Nat.add_zero] at d0
   have HMK:=Hd hmk
   have HX:=Hd hX
   have HRM:=Hd hr
   clear hcell hl hSb hr hmk hEx a0 a1 a2 hX
   by_cases hm:qcv s m
   case neg =>
    have hcall:=HNO.out m hm
    have HP:=Hd (fun w' (hX:Ext w w')=>qgv.no (s:=s) (ts:=ts) (ms:=ms) (er:=1) (fun h=>hm (by rw [<- HMK.out];exact h.2 _ (List.getElem_mem hlt))) (by decide) hX)
    clear hm
    go_wp2_with fail
    refine (hcall _ _ bel ⟨jk,je,jt,jl,rfl⟩).mono ?_
    rintro e w5 ⟨rfl,hx5⟩
    have hX5:=HX.out.trans' (((Ext.refl wr).alloc (.cells #[.int .i64 m.k,.int .i64 m.e,.int .i64 m.t,.int .i64 m.l] 94)).trans' hx5)
    clear hcall
    go_wp2_with fail
    go_ret2
    exact HP.out _ bel
   ·have hcall:=HMU.out m hm
    have HMM:=Hd hm
    have hzok:=qi7 HOK.out hm
    obtain ⟨z,hz⟩:∃ z,qci s m=z:=⟨_,rfl⟩
    rw [hz] at hzok
    have HZM:=Hd hz
    have hns:=fun cs W (hr:RSy (fun _=>True) W z cs)=>qge (fun _=>True) z cs W hr hzok
    have hfl:=HFL.out z hzok HN.out
    obtain ⟨i,hi⟩:∃ i,qa8 (qbg z) ts=i:=⟨_,rfl⟩
    rw [hi] at hfl
    have HI:Hid (qe9 s ts m=decide (0<=i)):=by show _=_;rw [qe9,hz,hi]
    clear hm hz hzok hi
    go_wp2_with fail
    refine (hcall _ _ bel ⟨jk,je,jt,jl,rfl⟩).mono ?_
    rintro e w5 ⟨cs5,rfl,hsy,hx5⟩
    rw [HZM.out] at hsy
    obtain ⟨j5,v1,v2,rfl,hv1,hv2⟩:=id hsy
    obtain ⟨A5,c5,rfl,_,_⟩:=hv1.val
    obtain ⟨A6,c6,rfl,_,_⟩:=hv2.val
    have HX5:=Hd (((Ext.refl wr).alloc (.cells #[.int .i64 m.k,.int .i64 m.e,.int .i64 m.t,.int .i64 m.l] 94)).trans' hx5)
    have HSY:=Hd (RSy.good.mono hsy fun _ _ _=>trivial:RSy (fun _=>True) w5 z _)
    clear hcall hsy hv1 hv2 hx5
    go_wp2_with fail
    refine (hns _ _ (RSy.good.bel HSY.out bel)).mono ?_
    rintro e w6 ⟨g,rfl,hx6,hg6,hS6⟩
    have HS6:=Hd (hS6.mono (S':=fun _=>True) fun _ _ _=>trivial)
    have HX6:=Hd (HX5.out.trans' (((Ext.refl w5).alloc (.cells #[.int .i64 z.n,.slice A5 z.ls.length c5,.slice A6 z.es.length c6] 25)).trans' hx6))
    clear hns hx6 hg6 hS6
    go_wp2_with fail
    refine (hfl _ _ HS6.out (HX.out.trans' HX6.out)).mono ?_
    rintro e w7 ⟨rfl,hx7⟩
    have HX7:=Hd (HX6.out.trans' hx7)
    have hO7:=hO.out.ext qae.good HX7.out
    have hob:=fun q hq=>hO.out.own_lt (b:=q) hq
    obtain ⟨g2,c2,w2,hr2,ho2,hb2,_,_⟩:=qff qae.good (by decide) w1.heap.size 4 73 (.bool false) 1 Tryz.underlying73 info4 rfl (by decide) (fun _=>False) w7 _ (.slice Ao k co) (decide (0<=i)) _ hO7 rfl (by have:=HX7.out.size;omega) (by rw [List.length_map,List.length_take];omega)
    have hlk:((ms.take k).map (qe9 s ts)).length=k:=by rw [List.length_map,List.length_take];omega
    rw [hlk] at hr2 ho2
    have HO2:=Hd ho2
    have HX2:Hid (Ext w1 w2):=Bt.new (HEx.out.trans' HX7.out) hb2 fun q _ h=>(hob q h).1
    clear hfl hx7 hO7 hob ho2 hb2 hlk
    go_wp2_with (at_builtin;refine wpList_append_run rfl _ _ _ rfl _ _ _ rfl rfl hr2 ?_;clear hr2)
    go_roundw
    case rel =>
     have e:ms.take (k+1)=ms.take k++[m]:=by rw [List.take_succ_eq_append_getElem hlt,HMK.out]
     refine ⟨k+1,some ⟨g2,0,none⟩,c2,by omega,by go_num,rfl,HX2.out,?_,?_⟩
     ·show qab _ _ _ _ _ _ _ _
      rw [e,List.map_append,List.map_cons,List.map_nil,HI.out]
      exact HO2.out
     ·show ∀ _,_
      rw [e]
      intro x hx
      rcases List.mem_append.1 hx with hx | hx
      ·exact hM.out x hx
      ·rw [List.mem_singleton.1 hx];exact HMM.out
    case measure=>simp [intOf];omega
  ·obtain rfl:k=ms.length:=by omega
   have hO:=hO.out
   have hM:=hM.out
   rw [List.take_length] at hO hM
   have HP:=Hd (qgv.yes (s:=s) (ts:=ts) (ms:=ms) ⟨HE.out,hM⟩ (qab.base hO (by omega)) hX)
   clear hO hM hX
   go_wp2_with fail
   go_ret2
   exact HP.out
end
end Go.Proofs.YtegenalcheooeaaGreat
