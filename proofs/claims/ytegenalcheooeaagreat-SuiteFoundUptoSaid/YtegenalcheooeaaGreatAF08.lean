/- Of the proof of a law of the suites: LMut3, PBuild, PAfter. -/
import Derived.Test.YtegenalcheooeaaGreatAF01
import Derived.Test.YtegenalcheooeaaGreatAF04
import Derived.Test.YtegenalcheooeaaGreatAF05
import Derived.Test.YtegenalcheooeaaGreatAF06
import Derived.Test.YtegenalcheooeaaGreatAF07
set_option linter.unusedSectionVars false
set_option linter.unusedSimpArgs false
set_option linter.unusedVariables false
namespace Go.Proofs.YtegenalcheooeaaGreat
open Go.RowKit
attribute [local go_sem] cell?_exto
section
open Go.Shelf
def qtt (s:Sy) (m:Mu) (w:World) (e:Ending) (w':World):Prop:=∃ cs,e = .returned (.tuple #[.agg cs.toArray,.int .i64 0])∧RSy (fun b=>w.heap.size<=b) w' (qci s m) cs∧Ext w w'
set_option maxHeartbeats 2000000 in
set_option maxRecDepth 100000 in
theorem Mutate_c (S:Nat->Prop) (s:Sy) (hok:qag s) (hsm:qer s) (h16:s.ls.length<=16) (m:Mu) (hm:qcv s m) (cs cm:List Value) (w:World) (hx:RSy S w s cs) (hmu:RMu S w m cm) :
  Calls Tryz.prog 61 #[.agg cs.toArray,.agg cm.toArray] w (qtt s m w):=by
 have hcon:=fun W (hW:Ext w W)=>qge S s cs W (RSy.good.bel hx hW) hok
 have hmut:=fun W (hW:Ext w W)=>qpr S s hok hsm h16 m hm cs cm W (RSy.good.bel hx hW) (RMu.good.bel hmu hW)
 obtain ⟨jn,vl,ve,rfl,hvl,hve⟩:=id hx
 obtain ⟨Al,cl,rfl,_,_⟩:=hvl.val
 obtain ⟨Ae,ce,rfl,_,_⟩:=hve.val
 obtain ⟨jk,je,jt,jl,rfl⟩:=hmu
 obtain ⟨z,hz⟩:∃ z,qci s m=z:=⟨_,rfl⟩
 have HZ:=Hd hz
 have HMUT:=Hd hmut
 clear hx hvl hve hz hmut
 obtain ⟨W0,hW0⟩:∃ W0,((w.alloc (.cells #[.int .i64 s.n,.slice Al s.ls.length cl,.slice Ae s.es.length ce] 25)).alloc (.cells #[.int .i64 m.k,.int .i64 m.e,.int .i64 m.t,.int .i64 m.l] 94)).alloc (.cells #[.int .i64 0,.slice none 0 0,.slice none 0 0] 25)=W0:=⟨_,rfl⟩
 have hX0:Ext w W0:=by rw [<- hW0];exact (((Ext.refl w).alloc _).alloc _).alloc _
 have hs0:W0.heap.size=w.heap.size+3:=by rw [<- hW0];simp
 have hb0:qaf W0 w.heap.size 25 [.int .i64 s.n,.slice Al s.ls.length cl,.slice Ae s.es.length ce]:=by
  rw [<- hW0]
  exact ((qaf.new w _ _).ext ((Ext.refl _).alloc _)).ext ((Ext.refl _).alloc _)
 have hb1:qaf W0 (w.heap.size+1) 94 [.int .i64 m.k,.int .i64 m.e,.int .i64 m.t,.int .i64 m.l]:=by rw [<- hW0];exact qgx ..
 have hb2:qaf W0 (w.heap.size+1+1) 25 [.int .i64 0,.slice none 0 0,.slice none 0 0]:=by rw [<- hW0];exact qgo ..
 have HW0:=Hd hW0
 have HB0:=Hd hb0
 have HB1:=Hd hb1
 have HB2:=Hd hb2
 have HX0:=Hd hX0
 clear hW0 hb0 hb1 hb2 hX0
 go_enter Tryz.func61,Tryz.ntmps61
 go_upto_region 1 with (fail)
 rw [HW0.out]
 obtain ⟨B1,hB1⟩:∃ B,w.heap.size+1=B:=⟨_,rfl⟩
 rw [hB1] at HB1 HB2
 obtain ⟨B2,hB2⟩:∃ B,B1+1=B:=⟨_,rfl⟩
 rw [hB1,hB2]
 rw [hB2] at HB2
 have HN:Hid (B1=w.heap.size+1∧B2=w.heap.size+2∧W0.heap.size=w.heap.size+3):=⟨by omega,by omega,hs0⟩
 have a0:=HB0.out.cell 0 _
 have a1:=HB0.out.cell 1 _
 have a2:=HB0.out.cell 2 _
 have az:=HB0.out.lt
 clear HW0 hB1 hB2 hs0
 go_wp2_with fail
 refine (hcon _ HX0.out).mono ?_
 rintro e w1 ⟨g,rfl,h1,hg,hS⟩
 have HX1:=Hd (HX0.out.trans' h1)
 have hb0:=HB0.out.ext h1
 have hb1:=HB1.out.ext h1
 have HB2':=Hd (HB2.out.ext h1)
 clear a0 a1 a2 az h1 hS hcon hg
 have a0:=hb0.cell 0 _
 have a1:=hb0.cell 1 _
 have a2:=hb0.cell 2 _
 have az:=hb0.lt
 have m0:=hb1.cell 0 _
 have m1:=hb1.cell 1 _
 have m2:=hb1.cell 2 _
 have m3:=hb1.cell 3 _
 have mz:=hb1.lt
 have hmut:=HMUT.out _ HX1.out
 clear hb0 hb1
 go_wp2_with fail
 refine hmut.mono ?_
 rintro e w5 ⟨cs5,rfl,hsy,hx5⟩
 rw [HZ.out] at hsy
 obtain ⟨j5,v1,v2,rfl,hv1,hv2⟩:=id hsy
 obtain ⟨A5,c5,rfl,_,_⟩:=hv1.val
 obtain ⟨A6,c6,rfl,_,_⟩:=hv2.val
 have hB5:=HB2'.out.ext hx5
 have r0:=hB5.cell 0 _
 have r1:=hB5.cell 1 _
 have r2:=hB5.cell 2 _
 have rz:=hB5.lt
 have f0:=hB5.frozen 0
 have f1:=hB5.frozen 1
 have f2:=hB5.frozen 2
 have HB5:=Hd hB5
 have HSY:=Hd hsy
 have HX5:=Hd (HX1.out.trans' hx5)
 have HS1:Hid (w.heap.size+3<=w1.heap.size):=by
  have:=HN.out
  have h2:=(HB2'.out).lt
  show _<=_
  omega
 clear hmut hsy hx5 hv1 hv2 hB5 a0 a1 a2 az m0 m1 m2 m3 mz
 go_wp2_with fail
 have hB3:=((HB5.out.set 0 (.int .i64 z.n)).set 1 (.slice A5 z.ls.length c5)).set 2 (.slice A6 z.es.length c6)
 have sAll:Bt (fun q=>q=B2) w5 (((w5.setCell ⟨B2,0,none⟩ (.int .i64 z.n)).setCell ⟨B2,1,none⟩ (.slice A5 z.ls.length c5)).setCell ⟨B2,2,none⟩ (.slice A6 z.es.length c6)) :=
  Bt.set (Z:=fun q=>q=B2) (p:=⟨B2,2,none⟩) (Bt.set (Z:=fun q=>q=B2) (p:=⟨B2,1,none⟩) (Bt.set (Z:=fun q=>q=B2) (p:=⟨B2,0,none⟩) (Bt.refl _ _) (.inr rfl) _) (.inr rfl) _) (.inr rfl) _
 have hB4:=hB3.ext ((Ext.refl _).alloc (.cells #[.int .i64 z.n,.slice A5 z.ls.length c5,.slice A6 z.es.length c6] 25))
 refine bodyPost_ret (qmw rfl _ _ B2 _ _ _ (.int .i64 0) rfl rfl (hB4.cell 0 _) (hB4.cell 1 _) (hB4.cell 2 _)) rfl ⟨[.int .i64 z.n,.slice A5 z.ls.length c5,.slice A6 z.es.length c6],rfl,?_,(Bt.new HX5.out sAll fun q _ h=>by have:=HN.out;omega).alloc _⟩
 rw [HZ.out]
 refine RSy.good.mono (RSy.good.bel (RSy.good.move HSY.out (sAll.kp fun q _ h h'=>by have:=HN.out;have:=HS1.out;omega)) ((Ext.refl _).alloc _)) fun b _ h=>?_
 have:=HS1.out
 omega
end
section
open Go.Sort
theorem qlc (ls:List Lb):(qd5 ls).toList.Perm (qcx ls.length ls.length)∧SortedIn (ltIx ls) 0 ls.length (qd5 ls):=by
 have hi:=insertionSort_holds (swo_ix ls) (qcx ls.length ls.length).toArray 0 ls.length (Nat.zero_le _) (by simp [qhb])
 refine ⟨?_,hi.2⟩
 have:=qkn hi.1 (by rw [List.size_toArray,qhb])
 simpa [qd5] using this
theorem qhk (ls:List Lb) (x:Int):x∈(qd5 ls).toList↔∃ i:Nat,i<ls.length∧(i:Int)=x:=by
 rw [(qlc ls).1.mem_iff,qnm]
 simp
theorem qpc (ls:List Lb):(qd5 ls).toList.Nodup:=by
 rw [(qlc ls).1.nodup_iff,qnm]
 exact List.Pairwise.map (S:=(· ≠ ·)) (fun i:Nat=>(i:Int)) (fun a b hne e=>hne (by omega)) List.nodup_range
theorem qn5 (ls:List Lb):(qd5 ls).toList.length=ls.length:=by rw [(qlc ls).1.length_eq,qhb]
theorem qo5:∀ (os:List Int) (i:Nat) (p:List Int) (j:Nat),(∀ x∈os,x.toNat≠j)->(qdt os i p)[j]? = p[j]?
 | [],_,_,_,_=>rfl
 | o :: os,i,p,j,h=>by
  rw [qdt,qo5 os _ _ j fun x hx=>h x (by simp [hx]),List.getElem?_set_ne (h o (by simp))]
theorem qpa:∀ (os:List Int) (i:Nat) (p:List Int) (k:Nat) (hk:k<os.length),(os.Pairwise fun a b=>a.toNat≠b.toNat)->os[k].toNat<p.length->(qdt os i p)[os[k].toNat]? = some ((i+k:Nat):Int)
 | [],_,_,_,h,_,_=>by simp at h
 | o :: os,i,p,0,_,hn,hp=>by
  rw [List.pairwise_cons] at hn
  simp only [List.getElem_cons_zero] at hp ⊢
  rw [qdt,qo5 os _ _ _ fun x hx=>(hn.1 x hx).symm,List.getElem?_set_self hp]
  rfl
 | o :: os,i,p,k+1,hk,hn,hp=>by
  rw [List.pairwise_cons] at hn
  simp only [List.getElem_cons_succ] at hp ⊢
  rw [qdt,qpa os (i+1) _ k (by simpa using hk) hn.2 (by rw [List.length_set];exact hp)]
  congr 2
  omega
theorem ord_ne (ls:List Lb):(qd5 ls).toList.Pairwise fun a b=>a.toNat≠b.toNat:=by
 have h:=qpc ls
 refine List.Pairwise.imp_of_mem (fun {a b} ha hb hne e=>hne ?_) h
 obtain ⟨i,_,rfl⟩:=(qhk ls a).1 ha
 obtain ⟨j,_,rfl⟩:=(qhk ls b).1 hb
 omega
theorem labR_mem (ls:List Lb) (x:Lb):x∈qcs ls↔x∈ls:=by
 unfold qcs
 rw [List.mem_map]
 constructor
 ·rintro ⟨a,ha,rfl⟩
  obtain ⟨i,hi,rfl⟩:=(qhk ls a).1 ha
  rw [qea ls i hi]
  exact List.getElem_mem _
 ·intro hx
  obtain ⟨i,hi,rfl⟩:=List.getElem_of_mem hx
  exact ⟨(i:Int),(qhk ls _).2 ⟨i,hi,rfl⟩,qea ls i hi⟩
theorem labR_len (ls:List Lb):(qcs ls).length=ls.length:=by rw [qcs,List.length_map,qn5]
theorem place_lab (ls:List Lb) (i:Nat) (hi:i<ls.length):∃ k:Nat,k<ls.length∧((qei ls)[i]?).getD 0=(k:Int)∧(qcs ls)[k]? = some ls[i]:=by
 have hm:=(qhk ls (i:Int)).2 ⟨i,hi,rfl⟩
 obtain ⟨k,hk,he⟩:=List.getElem_of_mem hm
 have hp:=qpa (qd5 ls).toList 0 (List.replicate ls.length 0) k hk (ord_ne ls) (by rw [he,List.length_replicate];simpa using hi)
 rw [he,Int.toNat_natCast,Nat.zero_add] at hp
 refine ⟨k,by rw [<- qn5 ls];exact hk,by rw [qei,hp];rfl,?_⟩
 rw [qcs,List.getElem?_map,List.getElem?_eq_getElem hk,he]
 show some (qa4 ls (i:Int))=_
 rw [qea ls i hi]
theorem labR_inc {ls:List Lb} (hn:ls.Nodup):Inc (qcs ls):=by
 have hs:=(qlc ls).2
 have hsz:(qd5 ls).size=ls.length:=by rw [<- Array.length_toList,qn5]
 unfold Inc qcs
 rw [List.pairwise_map,List.pairwise_iff_getElem]
 intro i j hi hj hij
 have hi':i<(qd5 ls).size:=by simpa using hi
 have hj':j<(qd5 ls).size:=by simpa using hj
 have h1:=hs i j (Nat.zero_le _) hij (by omega)
 rw [getElem!_pos _ j hj',getElem!_pos _ i hi'] at h1
 have h1:=of_decide_eq_false h1
 have hne:=List.pairwise_iff_getElem.1 (qpc ls) i j hi hj hij
 have mi:=(qhk ls _).1 (List.getElem_mem hi)
 have mj:=(qhk ls _).1 (List.getElem_mem hj)
 obtain ⟨a,ha,ea⟩:=mi
 obtain ⟨b,hb,eb⟩:=mj
 simp only [Array.getElem_toList] at *
 rw [<- ea,<- eb] at h1 hne ⊢
 rw [qea ls a ha,qea ls b hb] at h1 ⊢
 have hz:qan ls[b] ls[a]≠0:=fun e=>by
  have e:=qbr.eq _ _ e
  rcases Nat.lt_trichotomy a b with h | h | h
  ·exact List.pairwise_iff_getElem.1 hn a b ha hb h e.symm
  ·exact hne (by omega)
  ·exact List.pairwise_iff_getElem.1 hn b a hb ha h e
 exact (qbr.sgn _ _).2 (by omega)
theorem qsd:∀ (rs:List Ar) (ls:List Lb) (es:List Ed),∃ t,(qao rs ls es).1=ls++t
 | [],ls,_=>⟨[],by simp [qao]⟩
 | a :: rs,ls,es=>by
  obtain ⟨t,ht⟩:=qsd rs (qbm ls a.l) (es++[⟨a.f,(ls.idxOf a.l:Int),a.t⟩])
  rw [qao,ht]
  unfold qbm
  split
  ·exact ⟨t,rfl⟩
  ·exact ⟨[a.l]++t,by simp⟩
theorem addLb_at (ls:List Lb) (x:Lb):(qbm ls x)[ls.idxOf x]? = some x:=by
 unfold qbm
 split
 ·rename_i h
  rw [List.getElem?_eq_getElem (List.idxOf_lt_length_of_mem h)]
  simp
 ·rename_i h
  rw [List.idxOf_eq_length h]
  simp
def EdOf (ls:List Lb) (e:Ed) (a:Ar):Prop:=e.f=a.f∧e.t=a.t∧0<=e.l∧ls[e.l.toNat]? = some a.l
theorem qqv:∀ (rs:List Ar) (ls:List Lb) (es:List Ed),(∀ e∈(qao rs ls es).2,e∈es∨∃ a∈rs,EdOf (qao rs ls es).1 e a)∧(∀ a∈rs,∃ e∈(qao rs ls es).2,EdOf (qao rs ls es).1 e a)∧∀ e∈es,e∈(qao rs ls es).2
 | [],ls,es=>⟨fun e h=>.inl h,by simp,fun e h=>h⟩
 | a :: rs,ls,es=>by
  obtain ⟨h1,h2,h3⟩:=qqv rs (qbm ls a.l) (es++[⟨a.f,(ls.idxOf a.l:Int),a.t⟩])
  obtain ⟨t,ht⟩:=qsd rs (qbm ls a.l) (es++[⟨a.f,(ls.idxOf a.l:Int),a.t⟩])
  have hnew:EdOf (qao rs (qbm ls a.l) (es++[⟨a.f,(ls.idxOf a.l:Int),a.t⟩])).1 ⟨a.f,(ls.idxOf a.l:Int),a.t⟩ a:=by
   refine ⟨rfl,rfl,by show (0:Int)<=(ls.idxOf a.l:Int);omega,?_⟩
   show (qao rs _ _).1[((ls.idxOf a.l:Nat):Int).toNat]? = _
   rw [Int.toNat_natCast,ht,List.getElem?_append_left (qrk ls a.l),addLb_at]
  rw [qao]
  refine ⟨fun e he=>?_,fun b hb=>?_,fun e he=>h3 e (by simp [he])⟩
  ·rcases h1 e he with h | ⟨b,hb,h⟩
   ·rcases List.mem_append.1 h with h | h
    ·exact .inl h
    ·rw [List.mem_singleton.1 h]
     exact .inr ⟨a,by simp,hnew⟩
   ·exact .inr ⟨b,by simp [hb],h⟩
  ·rcases List.mem_cons.1 hb with rfl | hb
   ·exact ⟨_,h3 _ (by simp),hnew⟩
   ·exact h2 b hb
theorem qpi (l:List Ed) (e:Ed):e∈qdp l↔e∈l:=qlm qm3 l e
theorem qkl (n:Int) (rs:List Ar):(∀ e∈(qdn n rs).es,∃ a∈rs,EdOf (qdn n rs).ls e a)∧∀ a∈rs,∃ e∈(qdn n rs).es,EdOf (qdn n rs).ls e a:=by
 obtain ⟨h1,h2,_⟩:=qqv rs [] []
 have step:∀ (e:Ed) (a:Ar),EdOf (qao rs [] []).1 e a->EdOf (qcs (qao rs [] []).1) ⟨e.f,((qei (qao rs [] []).1)[e.l.toNat]?).getD 0,e.t⟩ a:=fun e a h=>by
  obtain ⟨h1,h2,h3,h4⟩:=h
  obtain ⟨hi,he⟩:=List.getElem?_eq_some_iff.1 h4
  obtain ⟨k,hk,hp,hl⟩:=place_lab (qao rs [] []).1 e.l.toNat hi
  refine ⟨h1,h2,by show 0<=((qei _)[_]?).getD 0;rw [hp];omega,?_⟩
  show (qcs _)[((((qei _)[_]?).getD 0:Int)).toNat]? = _
  rw [hp,Int.toNat_natCast,hl,he]
 constructor
 ·intro e he
  have he:e∈qdp (qcu qbd (edR (qao rs [] []).1 (qao rs [] []).2)):=he
  rw [qpi,qgk] at he
  obtain ⟨d,hd,rfl⟩:=List.mem_map.1 he
  rcases h1 d hd with h | ⟨a,ha,h⟩
  ·cases h
  ·exact ⟨a,ha,step d a h⟩
 ·intro a ha
  obtain ⟨d,hd,h⟩:=h2 a ha
  refine ⟨_,?_,step d a h⟩
  show _∈qdp (qcu qbd (edR (qao rs [] []).1 (qao rs [] []).2))
  rw [qpi,qgk]
  exact List.mem_map.2 ⟨d,hd,rfl⟩
theorem build_ls (n:Int) (rs:List Ar) (x:Lb):x∈(qdn n rs).ls↔∃ a∈rs,a.l=x:=by
 show x∈qcs (qao rs [] []).1↔_
 rw [labR_mem,qm9]
 simp
theorem build_ok {n:Int} {rs:List Ar} (hn:1<=n∧n<=20000) (hin:∀ a∈rs,(0<=a.f∧a.f<n)∧0<=a.t∧a.t<n) (hl:∀ a∈rs,qax a.l=true) (h1:(qao rs [] []).1.length<=4000) (h2:rs.length<=100000):qag (qdn n rs):=by
 have hinc:Inc (qdn n rs).ls:=labR_inc (qmd rs [] [] (by simp))
 have hed:=(qkl n rs).1
 refine ⟨hn.1,hn.2,?_,?_,fun j hj=>⟨?_,fun h0=>?_⟩,fun j hj=>⟨?_,fun h0=>?_⟩⟩
 ·show (qcs _).length<=_
  rw [labR_len]
  exact h1
 ·have h:=(qjz rs [] []).2
  have h3:(qdp (qcu qbd (edR (qao rs [] []).1 (qao rs [] []).2))).length<=(qcu qbd (edR (qao rs [] []).1 (qao rs [] []).2)).length:=qly qbp _
  rw [qki,qhn] at h3
  show (qdp _).length<=_
  simp only [List.length_nil] at h
  omega
 ·obtain ⟨a,ha,e⟩:=(build_ls n rs _).1 (List.getElem_mem hj)
  rw [<- e]
  exact hl a ha
 ·exact hinc.get (by omega) hj
 ·obtain ⟨a,ha,e1,e2,e3,e4⟩:=hed _ (List.getElem_mem hj)
  have hr:=hin a ha
  obtain ⟨hi,_⟩:=List.getElem?_eq_some_iff.1 e4
  have hn':(qdn n rs).n=n:=rfl
  simp [qbw,isB,e1,e2,hn']
  omega
 ·have hs:=qkk qis qm3 _ (qi9 qis (edR (qao rs [] []).1 (qao rs [] []).2))
  exact List.pairwise_iff_getElem.1 hs (j-1) j (by show j-1<(qdn n rs).es.length;omega) hj (by omega)
end
section

theorem qjx {s:Sy} {l:Int} (h:0<=l∧l<s.ls.length) (p:Lb->Bool):qem s l p=p (qa4 s.ls l):=by
 obtain ⟨i,rfl⟩:∃ i:Nat,l=i:=⟨l.toNat,by omega⟩
 rw [qgj s p rfl (by omega),qea s.ls i (by omega)]
theorem qi7 {s:Sy} {m:Mu} (hok:qag s) (hm:qcv s m):qag (qci s m):=by
 have hl:=qsr hok hm
 have h1:=hok.2.2.1
 have h2:(qd7 s m).length<=s.es.length:=qkh s m s.es.length
 have h3:=hok.2.2.2.1
 refine build_ok ⟨hok.1,hok.2.1⟩ (fun a ha=>?_) (fun a ha=>?_) (by omega) (by omega)
 ·have:=qiu hok hm (Nat.le_refl _) ha
  exact ⟨this.1,this.2.1⟩
 ·exact qro hok (qiu hok hm (Nat.le_refl _) ha).2.2
theorem qne {ls:List Lb} {l:Int} {x:Lb} (h0:0<=l) (h:ls[l.toNat]? = some x):qa4 ls l=x:=by rw [qa4,h];rfl
theorem qk6 {s:Sy} {l:Int} (h:0<=l∧l<s.ls.length):qf8 s l=(qa4 s.ls l).g:=by
 obtain ⟨i,rfl⟩:∃ i:Nat,l=i:=⟨l.toNat,by omega⟩
 rw [qob s rfl (by omega),qea s.ls i (by omega)]
end
end Go.Proofs.YtegenalcheooeaaGreat
