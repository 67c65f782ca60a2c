/- Of the proof of a law of the suites: RMusts, PRefM, RLabels, RefMusts, PlainLonger, PGenR, RefGen. -/
import Derived.Test.YtegenalcheooeaaGreatB05
import Derived.Test.YtegenalcheooeaaGreatB13
import Derived.Test.YtegenalcheooeaaGreatB18
import Derived.Test.YtegenalcheooeaaGreatB19
import Derived.Test.YtegenalcheooeaaGreatB21
import Derived.Test.YtegenalcheooeaaGreatB24
import Derived.Test.YtegenalcheooeaaGreatRM04
import Derived.Test.YtegenalcheooeaaGreatRM05
import Derived.Test.YtegenalcheooeaaGreatRM06
set_option linter.unusedSectionVars false
set_option linter.unusedSimpArgs false
set_option linter.unusedVariables false
namespace Go.Proofs.YtegenalcheooeaaGreat
open Go.RowKit
attribute [local go_sem] cell?_exto
section
open Go.Shelf
def acI (s:Sy) (n st:Nat):List Int:=mkL (qex s n st)
def qee (s:Sy) (n:Nat) (bs:List Bool) (k:Nat):List (List Int):=(((List.range k).filter (qcy bs)).map (acI s n)).foldl qa4 []
def qec (s:Sy) (n:Nat) (bs:List Bool):Option (List (List Int)):=if bs.any id=true then qd5 (qee s n bs n) [[]] else some []
theorem accK_succ (s:Sy) (n:Nat) (bs:List Bool) (k:Nat):qee s n bs (k+1)=if qcy bs k=true then qa4 (qee s n bs k) (acI s n k) else qee s n bs k:=by
 unfold qee
 rw [List.range_succ,List.filter_append,List.map_append,List.foldl_append,List.filter_cons]
 split <;> simp
theorem acI_len (s:Sy) (n st:Nat):(acI s n st).length<=s.ls.length:=by
 have:=qmk (qex s n st) (qex s n st).length
 rw [qhp] at this
 rw [acI,mkL,qhp]
 exact this
theorem qo5 (s:Sy) (n st:Nat):qbp s (acI s n st):=⟨qr4 _,fun i hi=>by
 obtain ⟨k,hk,_,rfl⟩:=(qia _ _).1 hi
 rw [qhp] at hk
 omega⟩
theorem accK_mem (s:Sy) (n:Nat) (bs:List Bool) (k:Nat) (a:List Int) (h:a∈qee s n bs k):∃ st,a=acI s n st:=by
 have:=((qht _ [] List.Pairwise.nil).2 a).1 h
 rcases this with h | h
 ·simp at h
 ·obtain ⟨st,_,e⟩:=List.mem_map.1 h
  exact ⟨st,e.symm⟩
theorem qmi (s:Sy) (n:Nat) (bs:List Bool) (k:Nat) (a:List Int) (h:a∈qee s n bs k):qbp s a∧a.length<=s.ls.length:=by
 obtain ⟨st,rfl⟩:=accK_mem s n bs k a h
 exact ⟨qo5 s n st,acI_len s n st⟩
theorem rawR_take (ls:List (List Int)) (a:List Int) (k:Nat) (h:k<ls.length):qcc (ls.take (k+1)) a=qcc (ls.take k) a++qg9 a ls[k]:=by
 rw [qcc,qcc,List.take_succ_eq_append_getElem h,List.flatMap_append,List.flatMap_cons,List.flatMap_nil,List.append_nil]
theorem rawR_pre (ls:List (List Int)) (a:List Int) (k:Nat) (h:k<=ls.length):∃ post,qcc ls a=qcc (ls.take k) a++post:=by
 refine ⟨qcc (ls.drop k) a,?_⟩
 rw [qcc,qcc,qcc,<- List.flatMap_append,List.take_append_drop]
theorem many_pre (pre post:List (List Int)) (h:qey (pre.foldl qa4 [])=true):qey ((pre++post).foldl qa4 [])=true:=by
 rw [List.foldl_append]
 obtain ⟨h1,h2⟩:=qht pre [] List.Pairwise.nil
 have h3:=qre post (pre.foldl qa4 [])
 have h4:=(qht post (pre.foldl qa4 []) h1).2
 rw [qey,Bool.or_eq_true,decide_eq_true_eq,List.any_eq_true] at h ⊢
 rcases h with h | ⟨y,hy,h⟩
 ·exact .inl (by omega)
 ·exact .inr ⟨y,(h4 y).2 (.inl hy),h⟩
theorem qn5 {n:List (List Int)} (h:2000<n.length):qey n=true:=by rw [qey,decide_eq_true h,Bool.true_or]
theorem qub {n:List (List Int)} {y:List Int} (hy:y∈n) (h:64<y.length):qey n=true:=by
 rw [qey,Bool.or_eq_true,List.any_eq_true]
 exact .inr ⟨y,hy,decide_eq_true h⟩
theorem many_no {n:List (List Int)} (h:¬ 2000<n.length) (h2:∀ y∈n,y.length<=64):qey n=false:=by
 rw [qey,decide_eq_false h,Bool.false_or,List.any_eq_false]
 intro y hy
 have:=h2 y hy
 simpa using this
theorem qug {n:List (List Int)} {x:List Int} {p:List Int->Prop} (h:∀ y∈n,p y) (hx:p x):∀ y∈qa4 n x,p y:=fun y hy=>by
 rcases (qni n x y).1 hy with h' | rfl
 ·exact h y h'
 ·exact hx
def qob (r:Option (List (List Int))) (w:World) (e:Ending) (w':World):Prop :=
 ∃ A c,e = .returned (.tuple #[.slice A (qa5 r).length c,.bool r.isSome])∧RSl RIs 1 (fun b=>w.heap.size<=b) w' (qa5 r) [.slice A (qa5 r).length c]∧Ext w w'
theorem qer {α:Type} {R:Rdr α} {k:Nat} {S:Nat->Prop} {w:World} (A:Option Addr):RSl R k S w [] [.slice A 0 0]:=⟨A,0,rfl,Nat.le_refl _,by decide,.inl rfl⟩
set_option maxHeartbeats 16000000 in
set_option maxRecDepth 100000 in
theorem qqs (S:Nat->Prop) (s:Sy) (hok:qah s) (cs:List Value) (n:Nat) (hn:s.n=(n:Int)) (bs:List Bool) (hbl:bs.length=n) (vb:Value) (w:World) (hx:RSy S w s cs) (hm:RSl qad 1 S w bs [vb]) :
  Calls Tryz.prog 85 #[.agg cs.toArray,vb] w (qob (qec s n bs) w):=by
 have hn1:n<=20000:=by have:=hok.2.1;omega
 have hll:=hok.2.2.1
 have hac:=fun st hst W (hW:Ext w W)=>qt5 S s hok cs n st hn hst W (RSy.good.bel hx hW)
 obtain ⟨_,v1,u1,rfl,hv,hu⟩:=id hx
 obtain ⟨Al,cl,rfl,hcl1,hcl0⟩:=hv.val
 obtain ⟨Ae,ce,rfl,hce,hce0⟩:=hu.val
 obtain ⟨Ab,cb,rfl,hcb,hcb0⟩:=hm.val
 have HM:=Hd hm
 rw [hn] at hac ⊢
 rw [hbl] at hcb HM ⊢
 have HBL:=Hd hbl
 have HAC:=Hd hac
 obtain ⟨m,hme⟩:∃ m,s.ls.length=m:=⟨_,rfl⟩
 rw [hme] at hll HAC ⊢
 have HME:=Hd hme
 clear hx hv hu hn hok hm hbl hac hme hcl1
 obtain ⟨W0,hW0⟩:∃ W0,w.alloc (.cells #[.int .i64 (n:Int),.slice Al m cl,.slice Ae s.es.length ce] 25)=W0:=⟨_,rfl⟩
 have hE0:Ext w W0:=by rw [<- hW0];exact (Ext.refl w).alloc _
 have hb0:qag W0 w.heap.size 25 [.int .i64 (n:Int),.slice Al m cl,.slice Ae s.es.length ce]:=by rw [<- hW0];exact qag.new w 25 _
 have hz0:W0.heap.size=w.heap.size+1:=by rw [<- hW0,World.size_alloc]
 have HB0:=Hd hb0
 have HE0:=Hd hE0
 have HW0:=Hd hW0
 have HZ0:=Hd hz0
 obtain ⟨p0,hp0⟩:∃ p0,w.heap.size=p0:=⟨_,rfl⟩
 rw [hp0] at HB0
 have HP0:=Hd hp0
 obtain ⟨T,hT⟩:∃ T:Nat->Prop,T=fun b=>W0.heap.size<=b:=⟨_,rfl⟩
 have HT:Hid (∀ b,T b↔W0.heap.size<=b):=fun b=>by rw [hT]
 clear hb0 hE0 hW0 hz0 hp0 hT
 go_enter Tryz.func85,Tryz.ntmps85
 go_upto_region 1 with (fail)
 rw [HW0.out,HP0.out]
 go_wp2_with fail
 go_loopw [6,7,8] (fun v6 v7 vi wr=>∃ (k:Nat) (ys:List (List Int)) (Ao:Option Addr) (co:Nat) (sb:Bool),k<=n∧vi = .int .i64 k∧v6 = .slice Ao ys.length co∧v7 = .bool sb∧ys.length<=k∧Ext W0 wr∧Hid (sb=(bs.take k).any id)∧Hid (ys=qee s n bs k)∧Hid (qab RIs 1 53 W0.heap.size T wr ys (.slice Ao ys.length co))) (fun _ _ vi _=>n-(intOf vi).toNat)
 case atStart=>exact ⟨0,[],none,0,false,Nat.zero_le _,rfl,rfl,rfl,by simp,Ext.refl _,(rfl:false=(bs.take 0).any id),(rfl:[]=qee s n bs 0),qab.nil ..⟩
 case round =>
  obtain ⟨k,ys,Ao,co,sb,hk,rfl,rfl,rfl,hyl,hE,hSB,hY,hO⟩:=hrel
  have hE':=HE0.out.trans' hE
  have hbx:=HB0.out.ext hE
  have x0:=hbx.cell 0 _
  have x1:=hbx.cell 1 _
  have x2:=hbx.cell 2 _
  have xz:=hbx.lt
  clear hbx
  have z1:(0:Int)<=(k:Int):=by omega
  by_cases hlt:k<n
  ·have hkb:k<bs.length:=by have:=HBL.out;omega
   obtain ⟨bb,ob,cb2,hAb,hbb,_,_,hrb,hcb2⟩:=((RSl.good qad.good).bel HM.out hE').get k hkb
   subst hAb
   obtain rfl:cb2=[.bool bs[k]]:=hrb
   have d0:=hcb2.get 0 _
   simp only [Nat.add_zero,Nat.mul_one] at d0
   have hst:=accK_succ s n bs k
   have hany:(bs.take (k+1)).any id=((bs.take k).any id || bs[k]):=by
    rw [List.take_succ_eq_append_getElem hkb,List.any_append,List.any_cons,List.any_nil,Bool.or_false]
    rfl
   rw [qd1 hkb] at hst
   have z2:(k:Int)<(n:Int):=by omega
   have hk1:k+1<=n:=hlt
   obtain ⟨bk,hbk⟩:∃ bk,bs[k]=bk:=⟨_,rfl⟩
   rw [hbk] at d0 hst hany
   clear hcb2 hbk
   cases bk
   ·have HC:Hid (ys=qee s n bs (k+1)):=by show _=_;rw [hst];exact hY.out
    have HS:Hid (sb=(bs.take (k+1)).any id):=by show _=_;rw [hany,Bool.or_false];exact hSB.out
    clear hst hany
    go_wp2_with fail
    go_roundw
    case rel=>exact ⟨k+1,ys,Ao,co,sb,hk1,by go_num,rfl,rfl,by omega,hE,HS.out,HC.out,hO.out⟩
    case measure=>simp [intOf];omega
   ·have HC:Hid (qa4 ys (acI s n k)=qee s n bs (k+1)):=by show _=_;rw [hst,hY.out];rfl
    have HS:Hid (true=(bs.take (k+1)).any id):=by show _=_;rw [hany,Bool.or_true]
    have hacc:=HAC.out k hlt wr hE'
    have hIL:=(qmd ys (acI s n k)).2
    have HAL:Hid ((qex s n k).length<=1000000):=by show _<=_;rw [qhp,HME.out];omega
    clear hst hany
    go_wp2_with fail
    refine hacc.mono ?_
    rintro e w1 ⟨A1,c1,rfl,ho1,h1⟩
    have hli:=quk (fun _=>True) (qex s n k) (.slice A1 m c1) w1 ((RSl.good qad.good).mono (ho1.sl qad.good (by decide)) fun _ _ _=>trivial) HAL.out
    clear ho1
    go_wp2_with fail
    refine hli.mono ?_
    rintro e w2 ⟨A2,c2,rfl,ho2,h2⟩
    have hlo:∀ q,(Value.slice Ao ys.length co).ownBlock=some q->W0.heap.size<=q∧q<wr.heap.size:=fun q e=>hO.out.own_lt e
    have hins:=qmx W0.heap.size T ys (acI s n k) (.slice Ao ys.length co) _ w2 (hO.out.ext RIs.good (h1.trans' h2)) (RIs.good.mono (ho2.sl qac.good (by decide)) fun q _ hq=>⟨(HT.out q).2 (by have:=h1.size;have:=hE.size;rcases hq with h | h;exact h.elim;omega),fun e=>by have:=hlo q e;have:=h1.size;rcases hq with h | h;exact h.elim;omega⟩) (Nat.le_trans hE.size (h1.trans' h2).size) (by omega)
    have HLO:=Hd hlo
    clear ho2 hlo
    go_wp2_with fail
    refine hins.mono ?_
    rintro e w3 ⟨A3,c3,rfl,ho3,hb3,_⟩
    have HO3:=Hd ho3
    have HB3:Hid (Ext W0 w3):=Bt.new (hE.trans' (h1.trans' h2)) hb3 fun q _ h=>(HLO.out q h).1
    clear ho3 hb3 x0 x1 x2 xz
    go_wp2_with fail
    go_roundw
    case rel=>exact ⟨k+1,qa4 ys (acI s n k),A3,c3,true,hk1,by go_num,rfl,rfl,by omega,HB3.out,HS.out,HC.out,HO3.out⟩
    case measure=>simp [intOf];omega
  ·obtain rfl:k=n:=by omega
   have hbl:=HBL.out
   have hsb:sb=bs.any id:=by rw [hSB.out,List.take_of_length_le (by omega)]
   cases sb
   ·have HV:Hid (qec s k bs=some []):=by show _=_;rw [qec,<- hsb];rfl
    clear hsb hbl
    go_wp2_with fail
    go_ret2
    rw [HV.out]
    exact ⟨none,0,rfl,qer _,hE'⟩
   ·have HV:Hid (qec s k bs=qd5 ys [[]]):=by show _=_;rw [qec,<- hsb,if_pos rfl,hY.out]
    have HYF:Hid (∀ a∈ys,qbp s a∧a.length<=m):=fun a ha=>by rw [hY.out] at ha;have:=qmi s k bs k a ha;rw [HME.out] at this;exact this
    clear hsb hbl
    have HACC:=Hd (RSl.good RIs.good |>.mono (hO.out.sl RIs.good (by decide)) (S':=T) fun q _ hq=>by rcases hq with h | h;exact h;exact (HT.out q).2 h)
    obtain ⟨R,hR⟩:∃ R,qd5 ys [[]]=R:=⟨_,rfl⟩
    have HR0:=Hd hR
    rw [hR] at HV
    obtain ⟨Wb,hWb⟩:∃ Wb,(wr.alloc (.cells #[] 3)).alloc (.cells #[.slice (some ⟨wr.heap.size,0,none⟩) 0 0] 53)=Wb:=⟨_,rfl⟩
    have hEb:Ext wr Wb:=by rw [<- hWb];exact ((Ext.refl wr).alloc _).alloc _
    have hSE:RSl RIs 1 T Wb [[]] [.slice (some ⟨wr.heap.size+1,0,none⟩) 1 1]:=by
     have hc:(wr.alloc (.cells #[] 3)).heap.size=wr.heap.size+1:=World.size_alloc ..
     refine ⟨some ⟨wr.heap.size+1,0,none⟩,1,rfl,by simp,by decide,.inr ⟨wr.heap.size+1,0,rfl,?_,(HT.out _).2 (by have:=hE.size;omega),?_⟩⟩
     ·rw [<- hWb,World.size_alloc,hc];omega
     ·refine ⟨⟨[.slice (some ⟨wr.heap.size,0,none⟩) 0 0],rfl,qer _,fun i v h=>?_⟩,trivial⟩
      have:=qea (wr.alloc (.cells #[] 3)) #[.slice (some ⟨wr.heap.size,0,none⟩) 0 0] 53 i v h
      rw [Addr.add_lit,hc] at this
      rw [<- hWb]
      exact this
    have HSE:=Hd hSE
    have HEB:=Hd hEb
    have HWB:=Hd hWb
    have hzb:Wb.heap.size=wr.heap.size+2:=by rw [<- hWb,World.size_alloc,World.size_alloc]
    clear hR hWb hSE hEb hY hSB hO
    go_wp2_with fail
    rw [HWB.out]
    go_wp2_with fail
    clear x0 x1 x2 xz
    go_loopw [9,10] (fun v9 vi wr2=>∃ (i:Nat) (sets:List (List Int)) (As:Option Addr) (c9:Nat),i<=ys.length∧vi = .int .i64 i∧v9 = .slice As sets.length c9∧sets.length<=2000∧Ext Wb wr2∧Hid (RSl RIs 1 T wr2 sets [.slice As sets.length c9])∧Hid (∀ y∈sets,qbp s y∧y.length<=64)∧Hid (qd5 (ys.drop i) sets=R)) (fun _ vi _=>ys.length-(intOf vi).toNat)
    case atStart=>exact ⟨0,[[]],some ⟨wr.heap.size+1,0,none⟩,1,Nat.zero_le _,rfl,rfl,by simp,Ext.refl _,HSE.out,fun y hy=>by rw [List.mem_singleton.1 hy];exact ⟨⟨List.Pairwise.nil,by simp⟩,by simp⟩,HR0.out⟩
    case round =>
     obtain ⟨i,sets,As,c9,hi,rfl,rfl,hsl,hE2,hSETS,hSF,hRR⟩:=hrel
     have hEw:=hE'.trans' (HEB.out.trans' hE2)
     by_cases hil:i<ys.length
     ·obtain ⟨bc,oc,ccs,rfl,hbc,hTc,_,hra,hcella⟩:=((RSl.good RIs.good).bel HACC.out (HEB.out.trans' hE2)).get i hil
      obtain ⟨Aa,ca,rfl,hca,hca0⟩:=id hra
      have ga:=(by simpa using hcella.get 0 _:wr.cell? ⟨bc,oc+i,none⟩=some (.slice Aa (ys[i]).length ca))
      have hfa:=HYF.out _ (List.getElem_mem hil)
      have hdr:qd5 (ys[i] :: ys.drop (i+1)) sets=R:=by rw [<- hRR.out,List.drop_eq_getElem_cons hil]
      rw [qd5] at hdr
      have hi1:i+1<=ys.length:=hil
      have z1:(0:Int)<=(i:Int):=by omega
      have z2:(i:Int)<(ys.length:Int):=by omega
      obtain ⟨a,haa⟩:∃ a,ys[i]=a:=⟨_,rfl⟩
      rw [haa] at ga hra hfa hdr
      have HRA:=Hd hra
      have HFA:=Hd hfa
      have HDR:=Hd hdr
      have GA:=Hd ga
      have hal:a.length<=4000:=by omega
      obtain ⟨w7,rfl⟩:∃ w7,w7=wr:=⟨_,rfl⟩
      have HE7:=Hd hE2
      have hT7:Hid (∀ q,w7.heap.size<=q->T q):=fun q hq=>(HT.out q).2 (by have:=hE.size;have:=HEB.out.size;have:=hE2.size;omega)
      clear hcella hTc haa hra hca hfa hdr ga hRR
      go_wp2_with fail
      go_loopw [11,12] (fun v11 vk wr=>∃ (k:Nat) (nx:List (List Int)) (An:Option Addr) (cn:Nat),k<=sets.length∧vk = .int .i64 k∧v11 = .slice An nx.length cn∧nx.length<=2000+k∧Ext w7 wr∧Hid (nx=(qcc (sets.take k) a).foldl qa4 [])∧Hid (∀ y∈nx,y.length<=64)∧Hid (qab RIs 1 53 w7.heap.size T wr nx (.slice An nx.length cn))) (fun _ vk _=>sets.length-(intOf vk).toNat)
      case atStart=>exact ⟨0,[],none,0,Nat.zero_le _,rfl,rfl,by simp,Ext.refl _,(rfl:[]=(qcc (sets.take 0) a).foldl qa4 []),fun y hy=>by simp at hy,qab.nil ..⟩
      case round =>
       obtain ⟨k3,nx,An,cn,hk3,rfl,rfl,hnl,hE3,hNX,hN64,hO3⟩:=hrel
       have y1:(0:Int)<=(k3:Int):=by omega
       by_cases hkl:k3<sets.length
       ·obtain ⟨bs2,os2,cs2,rfl,hbs2,_,_,hrm,hcellm⟩:=hSETS.out.get k3 hkl
        obtain ⟨Am,cm,rfl,hcm,hcm0⟩:=id hrm
        have gm:=(by simpa using hcellm.get 0 _:w7.cell? ⟨bs2,os2+k3,none⟩=some (.slice Am (sets[k3]).length cm))
        have hsf:=hSF.out _ (List.getElem_mem hkl)
        have hrt:=rawR_take sets a k3 hkl
        have hk31:k3+1<=sets.length:=hkl
        have y2:(k3:Int)<(sets.length:Int):=by omega
        obtain ⟨sm,hsm⟩:∃ sm,sets[k3]=sm:=⟨_,rfl⟩
        rw [hsm] at gm hrm hsf hrt
        have HRM:=Hd hrm
        have GM:=Hd gm
        have HSF:=Hd hsf
        have HMT:=Hd fun W (hW:Ext w7 W)=>meets_c T T sm a _ _ W (RIs.good.bel hrm hW) (RIs.good.bel HRA.out hW) HFA.out.1.ris
        have g3:=Ext.keep hE3 gm
        have a3:=Ext.keep hE3 GA.out
        have hb3:bs2<wr.heap.size:=Nat.lt_of_lt_of_le hbs2 hE3.size
        have hc3:bc<wr.heap.size:=Nat.lt_of_lt_of_le hbc hE3.size
        have hX2:∀ (y:World),Ext w7 (qam wr y):=fun y=>hE3.trans' (qbg _ y)
        have hmt:=fun W (hW:Ext w7 W)=>HMT.out W hW
        have hsml:sm.length<=64:=hsf.2
        clear hcellm hrm hsm hsf gm HMT
        by_cases hme:qe3 sm a=true
        ·have HNX:Hid (qa4 nx sm=(qcc (sets.take (k3+1)) a).foldl qa4 []):=by
          show _=_
          rw [hrt,List.foldl_append,<- hNX.out,qg9,if_pos hme]
          rfl
         have HN64:Hid (∀ y∈qa4 nx sm,y.length<=64):=qug hN64.out hsml
         have hIL:=(qmd nx sm).2
         rw [hme] at hmt
         clear hme hrt
         go_wp2_with fail
         (refine qax ?_;(repeat (first | go_big_quiet_step ((go_at_call 157;exact qbc (hmt _ (hX2 _)))) | quiet_step ((go_at_call 157;exact qbc (hmt _ (hX2 _))))));refine wpQuiet_nil ?_)
         intro w4 hx4
         have hlo:∀ q,(Value.slice An nx.length cn).ownBlock=some q->w7.heap.size<=q:=fun q e=>(hO3.out.own_lt e).1
         have hins:=qmx w7.heap.size T nx sm (.slice An nx.length cn) _ w4 (hO3.out.ext RIs.good hx4) (RIs.good.bel (RIs.good.mono HRM.out fun q hq h=>⟨h,fun e=>by have:=hlo q e;omega⟩) (hE3.trans' hx4)) (hE3.trans' hx4).size (by omega)
         have HLO:=Hd hlo
         have g4:=Ext.keep hx4 g3
         have hb4:bs2<w4.heap.size:=Nat.lt_of_lt_of_le hb3 hx4.size
         clear hlo g3 a3
         go_wp2_with fail
         refine hins.mono ?_
         rintro e w5 ⟨A5,c5,rfl,ho5,hb5,_⟩
         have HO5:=Hd ho5
         have HB5:Hid (Ext w7 w5):=Bt.new (hE3.trans' hx4) hb5 fun q _ h=>HLO.out q h
         clear ho5 hb5 hins
         go_wp2_with fail
         go_roundw
         case rel=>exact ⟨k3+1,qa4 nx sm,A5,c5,hk31,by go_num,rfl,by omega,HB5.out,HNX.out,HN64.out,HO5.out⟩
         case measure=>simp [intOf];omega
        ·have HNM:=Hd hme
         have HST:Hid (qcc (sets.take (k3+1)) a=qcc (sets.take k3) a++a.map (qbn sm)):=by show _=_;rw [hrt,qg9,if_neg hme]
         rw [eq_false_of_ne_true hme] at hmt
         have HMAX:Hid (∃ post,qcc sets a=(qcc (sets.take k3) a++a.map (qbn sm))++post):=by
          obtain ⟨post,hp⟩:=rawR_pre sets a (k3+1) hk31
          exact ⟨post,by rw [hp,HST.out]⟩
         clear hme hrt
         go_wp2_with fail
         (refine qax ?_;(repeat (first | go_big_quiet_step ((go_at_call 157;exact qbc (hmt _ (hX2 _)))) | quiet_step ((go_at_call 157;exact qbc (hmt _ (hX2 _))))));refine wpQuiet_nil ?_)
         intro w4 hx4
         have hE4:=hE3.trans' hx4
         have hO4:=Hd (hO3.out.ext RIs.good hx4)
         clear g3 a3 hmt hX2 hE3 hO3 hb3 hc3
         go_wp2_with fail
         go_loopw [11,13] (fun v11 vj wr=>∃ (j:Nat) (nx:List (List Int)) (An:Option Addr) (cn:Nat),j<=a.length∧vj = .int .i64 j∧v11 = .slice An nx.length cn∧nx.length<=2000+k3∧Ext w7 wr∧Hid (nx=(qcc (sets.take k3) a++(a.take j).map (qbn sm)).foldl qa4 [])∧Hid (∀ y∈nx,y.length<=64)∧Hid (qab RIs 1 53 w7.heap.size T wr nx (.slice An nx.length cn))) (fun _ vj _=>a.length-(intOf vj).toNat)
         case atStart=>exact ⟨0,nx,An,cn,Nat.zero_le _,rfl,rfl,hnl,hE4,(by rw [List.take_zero,List.map_nil,List.append_nil];exact hNX.out:nx=(qcc (sets.take k3) a++(a.take 0).map (qbn sm)).foldl qa4 []),hN64.out,hO4.out⟩
         case round =>
          clear hnl hNX hN64 hO4 hE4 hx4
          obtain ⟨j,nx,An,cn,hj,rfl,rfl,hnl,hE4,hNX,hN64,hO4⟩:=hrel
          have a4:=Ext.keep hE4 GA.out
          have g4:=Ext.keep hE4 GM.out
          have hb4:bs2<wr.heap.size:=Nat.lt_of_lt_of_le hbs2 hE4.size
          have hc4:bc<wr.heap.size:=Nat.lt_of_lt_of_le hbc hE4.size
          have u1:(0:Int)<=(j:Int):=by omega
          by_cases hjl:j<a.length
          ·obtain ⟨ba,oa,csa,rfl,hba,_,_,hrx,hcx⟩:=HRA.out.get j hjl
           have hi64:=hrx.2
           obtain rfl:=hrx.1
           have e4:=Ext.keep hE4 (by simpa using hcx.get 0 _:w7.cell? ⟨ba,oa+j,none⟩=some (.int .i64 a[j]))
           have hbaw:ba<wr.heap.size:=Nat.lt_of_lt_of_le hba hE4.size
           have htk:(a.take (j+1)).map (qbn sm)=(a.take j).map (qbn sm)++[qbn sm a[j]]:=by rw [List.take_succ_eq_append_getElem hjl,List.map_append];rfl
           have hjm:a[j]∈a:=List.getElem_mem hjl
           have hmap:∃ q,a.map (qbn sm)=(a.take (j+1)).map (qbn sm)++q:=⟨(a.drop (j+1)).map (qbn sm),by rw [<- List.map_append,List.take_append_drop]⟩
           have hj1:j+1<=a.length:=hjl
           have u2:(j:Int)<(a.length:Int):=by omega
           obtain ⟨x,hxj⟩:∃ x,a[j]=x:=⟨_,rfl⟩
           rw [hxj] at e4 hi64 htk hjm
           have hwith:=fun W (hW:Ext wr W)=>with_c T sm x _ W (RIs.good.bel HRM.out (hE4.trans' hW)) hi64 (by omega)
           obtain ⟨xs,hxs⟩:∃ xs,qbn sm x=xs:=⟨_,rfl⟩
           rw [hxs] at hwith htk
           have HNX2:Hid (qa4 nx xs=(qcc (sets.take k3) a++(a.take (j+1)).map (qbn sm)).foldl qa4 []):=by
            show _=_
            rw [htk,<- List.append_assoc,List.foldl_append,<- hNX.out]
            rfl
           have HPRE:Hid (qey (qa4 nx xs)=true->R=none):=fun h=>by
            obtain ⟨post,hp⟩:=HMAX.out
            obtain ⟨q,hq⟩:=hmap
            have:qey (qgr sets a)=true:=by
             rw [qgr,hp,hq,List.append_assoc (qcc _ _),List.append_assoc,<- List.append_assoc (qcc _ _)]
             exact many_pre _ _ (by rw [<- HNX2.out];exact h)
            rw [<- HDR.out,if_pos this]
           have hIL:=(qmd nx xs).2
           clear hrx hcx hxj htk hmap hjm hxs
           obtain ⟨w8,rfl⟩:∃ w8,w8=wr:=⟨_,rfl⟩
           go_wp2_with fail
           go_region_held3 (fun W=>W.cell? ⟨bs2,os2+k3,none⟩=some (.slice Am sm.length cm)∧W.cell? ⟨bc,oc+i,none⟩=some (.slice (some ⟨ba,oa,none⟩) a.length ca)∧W.cell? ⟨ba,oa+j,none⟩=some (.int .i64 x))
            (first | (refine ⟨?_,?_,?_⟩ <;> go_simp <;> done) | exact Ext.k3 hx1 (by assumption) | exact Ext.k3 (qaf.ext hx1) (by assumption) | exact Ext.k3 ((Ext.refl _).alloc _) (by assumption))
            (first | (go_at_call 158;refine (hwith _ bel).mono ?_;rintro e w5 ⟨A5,c5,rfl,ho5,hx1⟩))
           have hx8:Ext w8 w5:=Ext.trans' (Below.drew (Ext.refl _)) hx1
           have hlo:∀ q,(Value.slice An nx.length cn).ownBlock=some q->w7.heap.size<=q∧q<w8.heap.size:=fun q e=>hO4.out.own_lt e
           have hw8d:w8.drew.heap.size=w8.heap.size:=rfl
           have hins:=qmx w7.heap.size T nx xs (.slice An nx.length cn) _ w5 (hO4.out.ext RIs.good hx8) (RIs.good.mono (ho5.sl qac.good (by decide)) fun q _ hq=>⟨hT7.out q (by have:=hE4.size;rcases hq with h | h;exact h.elim;omega),fun e=>by have:=hlo q e;rcases hq with h | h;exact h.elim;omega⟩) (hE4.trans' hx8).size (by omega)
           have HLO:=Hd fun q e=>(hlo q e).1
           clear ho5 hlo g4 a4 e4 hwith hx1 hw8d
           go_wp2_with fail
           refine hins.mono ?_
           rintro e w6 ⟨A6,c6,rfl,ho6,hb6,_⟩
           have HO6:=Hd ho6
           have HB6:Hid (Ext w7 w6):=Bt.new (hE4.trans' hx8) hb6 fun q _ h=>HLO.out q h
           have hEf:Ext w w6:=hEw.trans' HB6.out
           clear ho6 hb6 hins
           by_cases h64:(64:Int)<(xs.length:Int)
           ·have HRN:Hid (R=none):=HPRE.out (qub ((qni nx xs xs).2 (.inr rfl)) (by omega))
            go_wp2_with fail
            go_ret2
            rw [HV.out,HRN.out]
            exact ⟨none,0,rfl,qer _,hEf⟩
           ·by_cases h2k:(2000:Int)<((qa4 nx xs).length:Int)
            ·have HRN:Hid (R=none):=HPRE.out (qn5 (by omega))
             go_wp2_with fail
             go_ret2
             rw [HV.out,HRN.out]
             exact ⟨none,0,rfl,qer _,hEf⟩
            ·have HN64:Hid (∀ y∈qa4 nx xs,y.length<=64):=qug hN64.out (by omega)
             go_wp2_with fail
             go_roundw
             case rel=>exact ⟨j+1,qa4 nx xs,A6,c6,hj1,by go_num,rfl,by omega,HB6.out,HNX2.out,HN64.out,HO6.out⟩
             case measure=>simp [intOf];omega
          ·obtain rfl:j=a.length:=by omega
           have HNX2:Hid (nx=(qcc (sets.take (k3+1)) a).foldl qa4 []):=by
            show _=_
            rw [HST.out,hNX.out,List.take_length]
           go_wp2_with fail
           go_roundw
           case rel=>exact ⟨k3+1,nx,An,cn,hk31,by go_num,rfl,by omega,hE4,HNX2.out,hN64.out,hO4.out⟩
           case measure=>simp [intOf];omega
       ·obtain rfl:k3=sets.length:=by omega
        have hnx:nx=qgr sets a:=by rw [hNX.out,List.take_length];rfl
        have hEf:Ext w wr:=hEw.trans' hE3
        by_cases h2k:(2000:Int)<(nx.length:Int)
        ·have HRN:Hid (R=none):=by
          show _=_
          rw [<- HDR.out,<- hnx,if_pos (qn5 (by omega))]
         clear hnx
         go_wp2_with fail
         go_ret2
         rw [HV.out,HRN.out]
         exact ⟨none,0,rfl,qer _,hEf⟩
        ·have hmn:qey nx=false:=many_no (by omega) hN64.out
         have hst:StrS nx:=by rw [hnx];exact qps _ _
         have hfi:∀ y∈nx,qbp s y:=fun y hy=>by rw [hnx] at hy;exact qmb HFA.out.1 (fun z hz=>(hSF.out z hz).1) y hy
         have HRR:Hid (qd5 (ys.drop (i+1)) (qfd nx)=R):=by
          show _=_
          rw [<- HDR.out,<- hnx,if_neg (by rw [hmn];decide)]
         have HSF2:Hid (∀ y∈qfd nx,qbp s y∧y.length<=64):=fun y hy=>⟨qs8 hfi y hy,hN64.out y (List.mem_filter.1 hy).1⟩
         have hll2:(qfd nx).length<=nx.length:=List.length_filter_le _ _
         have hle:=rleast_c T nx (.slice An nx.length cn) wr (RSl.good RIs.good |>.mono (hO3.out.sl RIs.good (by decide)) fun q _ hq=>by rcases hq with h | h;exact h;exact hT7.out q h) (by omega) hst.nodup fun y hy=>(hfi y hy).ris
         clear hnx hmn hst hfi
         go_wp2_with fail
         refine hle.mono ?_
         rintro e w5 ⟨A5,c5,rfl,ho5,hx5⟩
         have HS5:Hid (RSl RIs 1 T w5 (qfd nx) [.slice A5 (qfd nx).length c5]):=RSl.good RIs.good |>.mono (ho5.sl RIs.good (by decide)) fun q _ hq=>by
          rcases hq with h | h
          ·exact h.1
          ·exact hT7.out q (Nat.le_trans hE3.size h)
         clear ho5 hle
         go_wp2_with fail
         go_roundw
         case rel=>exact ⟨i+1,qfd nx,A5,c5,hi1,by go_num,rfl,by omega,HE7.out.trans' (hE3.trans' hx5),HS5.out,HSF2.out,HRR.out⟩
         case measure=>simp [intOf];omega
     ·obtain rfl:i=ys.length:=by omega
      have HRS:Hid (R=some sets):=by
       show _=_
       rw [<- hRR.out,List.drop_length]
       rfl
      go_wp2_with fail
      go_ret2
      rw [HV.out,HRS.out]
      exact ⟨As,c9,rfl,RSl.good RIs.good |>.mono hSETS.out fun q _ hq=>by have h:=(HT.out q).1 hq;have:=HE0.out.size;omega,hEw⟩
end
section

variable {s:Sy}
theorem acI_lab (hok:qah s) {n st:Nat} (hn:s.n=(n:Int)) (hst:st<n):qal s (acI s n st)=qbh s (st:Int):=by
 refine qkb qc2 _ _ (qhj hok (qo5 s n st)) (qq0 hok _) fun x=>?_
 rw [qal,List.mem_map,qkd]
 constructor
 ·rintro ⟨i,hi,rfl⟩
  obtain ⟨k,hk,hm,rfl⟩:=(qia _ _).1 hi
  rw [qhp] at hk
  rw [qj3 hk]
  exact ⟨k,hk,rfl,(qlf hok hn hst hk).1 hm⟩
 ·rintro ⟨k,hk,rfl,h⟩
  exact ⟨(k:Int),(qia _ _).2 ⟨k,by rw [qhp];exact hk,(qlf hok hn hst hk).2 h,rfl⟩,qj3 hk⟩
theorem qoh (n:Nat) {L:List Int} (hL:∀ y∈L,0<=y∧y<(n:Int)):(marksOf n L).any id=true↔L≠[]:=by
 rw [List.any_eq_true]
 constructor
 ·rintro ⟨b,hb,h⟩ rfl
  obtain ⟨i,hi,rfl⟩:=List.mem_iff_getElem.1 hb
  rw [qep] at h
  simp at h
 ·intro h
  cases L with
  | nil=>exact absurd rfl h
  | cons y L =>
   have:=hL y (by simp)
   obtain ⟨k,rfl⟩:∃ k:Nat,y=(k:Int):=⟨y.toNat,by omega⟩
   have hk:k<(marksOf n ((k:Int) :: L)).length:=by rw [qb2];omega
   exact ⟨_,List.getElem_mem hk,by rw [qep];simp⟩
theorem qqk (hok:qah s) {n:Nat} (hn:s.n=(n:Int)) {L:List Int} (hL:∀ y∈L,0<=y∧y<s.n) (hr:L.Pairwise (· < ·)):qbe s L=(qec s n (marksOf n L)).map (List.map (qal s)):=by
 have hL':∀ y∈L,0<=y∧y<(n:Int):=fun y hy=>by have:=hL y hy;omega
 unfold qbe qec
 by_cases h:L=[]
 ·rw [if_pos h,if_neg fun h'=>(qoh n hL').1 h' h]
  rfl
 ·rw [if_neg h,if_pos ((qoh n hL').2 h)]
  have hN:((List.range n).filter (qcy (marksOf n L))).map (fun i:Nat=>(i:Int))=L:=by
   have:=qr1 n L hL' hr
   rw [mkL,mkT,qb2] at this
   exact this
  have hacc:(qee s n (marksOf n L) n).map (qal s)=qcg (qb7 (L.map (qbh s))):=by
   rw [qee,lab_sc hok _ fun m hm=>by obtain ⟨st,_,rfl⟩:=List.mem_map.1 hm;exact qo5 s n st]
   congr 2
   conv=>rhs;rw [<- hN]
   rw [List.map_map,List.map_map]
   refine List.map_congr_left fun st hst=>?_
   exact acI_lab hok hn (List.mem_range.1 (List.mem_filter.1 hst).1)
  have:=qqh hok (qee s n (marksOf n L) n) [[]] (fun a ha=>(qmi s n _ n a ha).1) fun m hm=>by rw [List.mem_singleton.1 hm];exact ⟨List.Pairwise.nil,by simp⟩
  rw [<- hacc,<- this]
  rfl
theorem qtq (hok:qah s) (n:Nat) (bs:List Bool):∀ m∈qa5 (qec s n bs),qbp s m∧m.length<=64:=by
 have go:∀ (bs' ls r:List (List Int)),(∀ a∈bs',qbp s a)->(∀ m∈ls,qbp s m∧m.length<=64)->qd5 bs' ls=some r->∀ m∈r,qbp s m∧m.length<=64:=by
  intro bs'
  induction bs' with
  | nil =>
   intro ls r _ h e
   rw [qd5] at e
   injection e with e
   rw [<- e]
   exact h
  | cons a bs' ih =>
   intro ls r ha h e
   rw [qd5] at e
   split at e
   ·cases e
   ·rename_i hm
    refine ih _ _ (fun b hb=>ha b (by simp [hb])) (fun m hm2=>?_) e
    have hmem:=(List.mem_filter.1 hm2).1
    refine ⟨qmb (ha a (by simp)) (fun z hz=>(h z hz).1) m hmem,Nat.le_of_not_lt fun hlt=>hm (qub hmem hlt)⟩
 intro m hm
 unfold qec at hm
 split at hm
 ·cases e:qd5 (qee s n bs n) [[]] with
  | none =>
   rw [e] at hm
   simp [qa5] at hm
  | some r =>
   rw [e] at hm
   exact go _ _ r (fun a ha=>(qmi s n bs n a ha).1) (fun m hm=>by rw [List.mem_singleton.1 hm];exact ⟨⟨List.Pairwise.nil,by simp⟩,by simp⟩) e m hm
 ·simp [qa5] at hm
theorem qp0 (n:Nat) (bs:List Bool):(qa5 (qec s n bs)).length<=2000:=by
 have go:∀ (bs' ls r:List (List Int)),ls.length<=2000->qd5 bs' ls=some r->r.length<=2000:=by
  intro bs'
  induction bs' with
  | nil =>
   intro ls r h e
   rw [qd5] at e
   injection e with e
   rw [<- e]
   exact h
  | cons a bs' ih =>
   intro ls r h e
   rw [qd5] at e
   split at e
   ·cases e
   ·rename_i hm
    refine ih _ _ (Nat.le_trans (List.length_filter_le _ _) (Nat.le_of_not_lt fun hlt=>hm (qn5 hlt))) e
 unfold qec
 split
 ·cases e:qd5 (qee s n bs n) [[]] with
  | none=>simp [qa5]
  | some r=>exact go _ _ r (by simp) e
 ·simp [qa5]
end
section
set_option maxHeartbeats 8000000
set_option maxRecDepth 100000
/- The reference's labels and none: walked. -/
open Go.Shelf
theorem qs9 (S S':Nat->Prop) (s:Sy) (cs:List Value) (m:List Int) (v:Value) (w:World) (hx:RSy S w s cs) (hm:RIs S' w m [v]) (hr:∀ i∈m,0<=i∧i<s.ls.length) (hl:m.length<=100000) :
  Calls Tryz.prog 87 #[.agg cs.toArray,v] w (qky (fun b=>S b∧b<w.heap.size) w.heap.size (qal s m) w):=by
 obtain ⟨_,v1,u1,rfl,hv,hu⟩:=id hx
 obtain ⟨Al,cl,rfl,hcl1,hcl0⟩:=hv.val
 obtain ⟨Ae,ce,rfl,hce,hce0⟩:=hu.val
 obtain ⟨A,c,rfl,hc,hc0⟩:=hm.val
 have HLB:=Hd hv
 have HM:=Hd hm
 have HR:Hid (∀ i,(hi:i<m.length)->0<=m[i]∧m[i]<s.ls.length):=fun i hi=>hr _ (List.getElem_mem hi)
 obtain ⟨n,hn⟩:∃ n,s.n=n:=⟨_,rfl⟩
 rw [hn]
 clear hx hv hu hm hr hn
 obtain ⟨W0,hW0⟩:∃ W0,w.alloc (.cells #[.int .i64 n,.slice Al s.ls.length cl,.slice Ae s.es.length ce] 25)=W0:=⟨_,rfl⟩
 have hE0:Ext w W0:=by rw [<- hW0];exact (Ext.refl w).alloc _
 have hb0:qag W0 w.heap.size 25 [.int .i64 n,.slice Al s.ls.length cl,.slice Ae s.es.length ce]:=by rw [<- hW0];exact qag.new w 25 _
 have hz0:W0.heap.size=w.heap.size+1:=by rw [<- hW0,World.size_alloc]
 have HB0:=Hd hb0
 have HE0:=Hd hE0
 have HW0:=Hd hW0
 have HZ0:=Hd hz0
 obtain ⟨p0,hp0⟩:∃ p0,w.heap.size=p0:=⟨_,rfl⟩
 rw [hp0] at HB0 HZ0
 have HP0:=Hd hp0
 clear hb0 hE0 hW0 hz0 hp0
 go_enter Tryz.func87,Tryz.ntmps87
 go_upto_region 1 with (fail)
 rw [HW0.out,HP0.out]
 go_wp2_with fail
 go_loopw [5,6] (fun v5 vi wr=>∃ (i:Nat) (Ao:Option Addr) (co:Nat),i<=m.length∧vi = .int .i64 i∧v5 = .slice Ao i co∧Ext W0 wr∧Hid (qab RLb 2 61 W0.heap.size (fun b=>S b∧b<w.heap.size) wr (qal s (m.take i)) (.slice Ao i co))) (fun _ vi _=>m.length-(intOf vi).toNat)
 case atStart=>exact ⟨0,none,0,Nat.zero_le _,rfl,rfl,Ext.refl _,qab.nil ..⟩
 case round =>
  obtain ⟨i,Ao,co,hi,rfl,rfl,hE,hO⟩:=hrel
  have hE':=HE0.out.trans' hE
  have hbx:=HB0.out.ext hE
  have x1:=hbx.cell 1 _
  have xz:=hbx.lt
  clear hbx
  by_cases hil:i<m.length
  ·obtain ⟨b,off,cs,rfl,hbw,hS,hl2,hr,hcell⟩:=HM.out.get i hil
   obtain rfl:=hr.1
   have g0:=Ext.keep hE' (by simpa using hcell.get 0 _:w.cell? ⟨b,off+i,none⟩=some (.int .i64 m[i]))
   have hb:b<wr.heap.size:=Nat.lt_of_lt_of_le hbw hE'.size
   have hran:=HR.out i hil
   have htk:qal s (m.take (i+1))=qal s (m.take i)++[lbI s m[i]]:=by rw [List.take_succ_eq_append_getElem hil,qal,List.map_append];rfl
   have htl:(qal s (m.take i)).length=i:=by rw [qal,List.length_map,List.length_take];omega
   obtain ⟨q,hq⟩:∃ q,m[i]=q:=⟨_,rfl⟩
   rw [hq] at g0 hran htk
   obtain ⟨li,rfl⟩:∃ li:Nat,q=(li:Int):=⟨q.toNat,by omega⟩
   have hli:li<s.ls.length:=by omega
   rw [qj3 hli] at htk
   obtain ⟨bl,ol,cl2,hAl,hbl,_,_,hrl,hcl2⟩:=HLB.out.get li hli
   subst hAl
   have HRL:=Hd hrl
   obtain ⟨_,vl,rfl,hvl⟩:=id hrl
   have l0:=Ext.keep hE' (hcl2.get 0 _)
   have l1:=Ext.keep hE' (hcl2.get 1 _)
   simp only [Nat.add_zero] at l0
   have hblw:bl<wr.heap.size:=Nat.lt_of_lt_of_le hbl hE'.size
   have z1:(0:Int)<=(li:Int):=by omega
   have z2:(li:Int)<(s.ls.length:Int):=by omega
   have z3:(0:Int)<=(i:Int):=by omega
   have z4:(i:Int)<(m.length:Int):=by omega
   have hi1:i+1<=m.length:=hil
   obtain ⟨y,hy⟩:∃ y,s.ls[li]=y:=⟨_,rfl⟩
   rw [hy] at l0 HRL htk
   have hlo:∀ q,(Value.slice Ao i co).ownBlock=some q->W0.heap.size<=q:=fun q e=>(hO.out.own_lt e).1
   have hn1:¬ (Value.slice Ao i co).ownBlock=some p0:=fun e=>by have:=hlo _ e;have:=HZ0.out;omega
   have hn2:¬ (Value.slice Ao i co).ownBlock=some bl:=fun e=>by have:=hlo _ e;have:=HZ0.out;have:=HP0.out;omega
   have hn3:¬ (Value.slice Ao i co).ownBlock=some b:=fun e=>by have:=hlo _ e;have:=HZ0.out;have:=HP0.out;omega
   clear hr hcell hl2 hS hq hy hcl2 hrl hvl
   go_wp2_with fail
   refine qft (fun W=>W.cell? ⟨p0,1,none⟩=some (.slice (some ⟨bl,ol,none⟩) s.ls.length cl)∧W.cell? ⟨b,off+i,none⟩=some (.int .i64 (li:Int))∧W.cell? ⟨bl,ol+li*2,none⟩=some (.int .i64 y.g)∧W.cell? ⟨bl,ol+li*2+1,none⟩=some vl) (by kernel_rfl) (by rfl) (by kernel_rfl) ⟨x1,g0,l0,l1⟩ (fun hHeld=>?_)
   dsimp only [List.dropLast,List.getLastD,List.getLast?,List.getLast]
   obtain ⟨Wd,hWd⟩:∃ Wd,wr.drew=Wd:=⟨_,rfl⟩
   have hXd:Ext wr Wd:=hWd ▸ Below.drew (Ext.refl _)
   rw [hWd] at hHeld ⊢
   clear hWd x1 g0 l0 l1
   obtain ⟨g8,c8,w8,hr8,ho8,hb8,ha8,hbA⟩:=qct RLb.good (by decide) W0.heap.size 61 22 (.agg #[.int .i64 0,.slice none 0 0]) 32 Tryz.underlying22 qi9 rfl (by decide) (fun q=>S q∧q<w.heap.size) Wd (qal s (m.take i)) (.slice Ao i co) y [.int .i64 y.g,vl]
    (hO.out.ext RLb.good hXd) (RLb.good.mono (RLb.good.bel (RLb.good.mono HRL.out (S':=fun q=>S q∧q<w.heap.size) fun q h1 h2=>⟨h2,h1⟩) (hE'.trans' hXd)) fun q _ hq=>⟨hq,fun e=>by have:=hlo q e;have:=HZ0.out;have:=HP0.out;omega⟩) (Nat.le_trans hE.size hXd.size) (by omega)
   rw [htl] at hr8 ho8
   rw [<- htk] at ho8
   have HO8:=Hd ho8
   have HB8:Hid (Ext W0 w8):=Bt.new (hE.trans' hXd) hb8 fun q _ h=>hlo q h
   have HRUN:=Hd hr8
   clear hr8 ho8 hb8 htk htl hO hlo
   (refine tk 0 ?_;try simp only [qae])
   (refine tk 1 ?_;try simp only [qae])
   (refine tk 2 ?_;try simp only [qae])
   (refine tk 3 ?_;try simp only [qae])
   (refine tk 4 ?_;try simp only [qae])
   (refine tk 5 ?_;try simp only [qae])
   (refine tk 6 ?_;try simp only [qae])
   (refine tk 7 ?_;try simp only [qae])
   (refine tk 8 ?_;try simp only [qae])
   refine wpAnyH_ready (rs:=[9]) (by kernel_rfl) (by simp) ?_
   refine AllReadyH.cons rfl (fun K hK=>?_) AllReadyH.nil
   go_simp
   have hHeld6:=Ext.k4 ((Ext.refl Wd).alloc (.cells #[.int .i64 y.g,vl] 61)) hHeld
   refine hK.out _ _ hHeld6 (fun _=>?_)
   clear hK K
   try simp only [qae]
   refine wpAnyH_ready (rs:=[10]) (by kernel_rfl) (by simp) ?_
   refine AllReadyH.cons rfl (fun K hK=>?_) AllReadyH.nil
   refine qdu rfl _ _ _ rfl _ _ _ rfl rfl HRUN.out ?_
   refine hK.out _ _ ⟨hbA.cell hHeld6.1 hn1,hbA.cell hHeld6.2.1 hn3,hbA.cell hHeld6.2.2.1 hn2,hbA.cell hHeld6.2.2.2 hn2⟩ (fun hHeld8=>?_)
   clear hK K
   try simp only [qae]
   refine wpAnyH_done (by kernel_rfl) ?_ _
   show Oper.wp _ _ _ _ _ _
   go_simp
   clear hHeld hHeld6 hHeld8 hbA
   go_wp2_with fail
   go_roundw
   case rel=>exact ⟨i+1,some ⟨g8,0,none⟩,c8,hi1,by go_num,rfl,HB8.out,HO8.out⟩
   case measure=>simp [intOf];omega
  ·obtain rfl:i=m.length:=by omega
   have HF:Hid (qab RLb 2 61 W0.heap.size (fun b=>S b∧b<w.heap.size) wr (qal s m) (.slice Ao m.length co)):=by have h:=hO.out;rw [List.take_length] at h;exact h
   have hlen:(qal s m).length=m.length:=by rw [qal,List.length_map]
   have HL:=Hd hlen
   clear hlen hO
   go_wp2_with fail
   go_ret
   exact ⟨Ao,co,by rw [HL.out];rfl,by rw [HL.out];exact HF.out.base (by have:=HZ0.out;have:=HP0.out;omega),hE'⟩
theorem none_take {l:List Bool} {k:Nat} (h:k<l.length):(l.take (k+1)).any id=((l.take k).any id || l[k]):=by
 rw [List.take_succ_eq_append_getElem h,List.any_append,List.any_cons,List.any_nil,Bool.or_false]
 rfl
theorem none_c (S:Nat->Prop) (l:List Bool) (v:Value) (w:World) (hx:RSl qad 1 S w l [v]):Calls Tryz.prog 92 #[v] w fun e w'=>e = .returned (.bool (!l.any id))∧Ext w w':=by
 obtain ⟨A,c,rfl,hc,hc0⟩:=hx.val
 have HX:=Hd hx
 clear hx
 go_enter Tryz.func92,Tryz.ntmps92
 go_wp2_with fail
 go_loopw [3] (fun vi wr=>∃ k:Nat,k<=l.length∧vi = .int .i64 k∧Ext w wr∧Hid ((l.take k).any id=false)) (fun vi _=>l.length-(intOf vi).toNat)
 case atStart=>exact ⟨0,Nat.zero_le _,rfl,Ext.refl _,(rfl:([]:List Bool).any id=false)⟩
 case round =>
  obtain ⟨k,hk,rfl,hE,hno⟩:=hrel
  by_cases hlt:k<l.length
  ·obtain ⟨b,off,cs,rfl,hb,hSb,hl1,hr,hcell⟩:=((RSl.good qad.good).bel HX.out hE).get k hlt
   obtain rfl:cs=[.bool l[k]]:=hr
   have a0:=hcell.get 0 _
   simp only [Nat.add_zero,Nat.mul_one] at a0
   have hst:=none_take hlt
   have hY:l[k]=true->l.any id=true:=fun h=>List.any_eq_true.2 ⟨l[k],List.getElem_mem hlt,h⟩
   obtain ⟨bk,hbk⟩:∃ bk,l[k]=bk:=⟨_,rfl⟩
   rw [hbk] at a0 hst hY
   have hk1:k+1<=l.length:=hlt
   clear hl1 hcell hSb hbk
   cases bk
   ·have HST:=Hd hst
    clear hst hY
    go_wp2_with fail
    go_roundw
    case rel=>exact ⟨k+1,hk1,by go_num,hE,(by rw [HST.out,hno.out];rfl:(l.take (k+1)).any id=false)⟩
    case measure=>simp [intOf];omega
   ·have HY:=Hd (hY rfl)
    clear hst hY
    go_wp2_with fail
    go_ret
    exact ⟨by rw [HY.out];rfl,hE⟩
  ·obtain rfl:k=l.length:=by omega
   have HF:Hid (l.any id=false):=by have h:=hno.out;rw [List.take_length] at h;exact h
   go_wp2_with fail
   go_ret
   exact ⟨by rw [HF.out];rfl,hE⟩
end
section
open Go.Shelf
def qt1 {α:Type} (R:Rdr α) (k:Nat) (r:List α) (err:Int) (w:World) (e:Ending) (w':World):Prop :=
 ∃ A c,e = .returned (.tuple #[.slice A r.length c,.int .i64 err])∧RSl R k (fun _=>True) w' r [.slice A r.length c]∧Ext w w'
end
section

theorem qpb (s:Sy):∀ (e:Nat) (out lev r:List Pl),qb6 s e out lev=some r->∃ m,r=out++m
 | 0,out,lev,r,h=>by
  rw [qb6] at h
  injection h with h
  exact ⟨[],by rw [List.append_nil,h]⟩
 | e+1,out,lev,r,h=>by
  rw [qb6] at h
  split at h
  ·cases h
  ·obtain ⟨m,hm⟩:=qpb s e _ _ _ h
   exact ⟨qca s lev++m,by rw [hm,List.append_assoc]⟩
theorem qj8 (s:Sy):∀ (ps qs:List Pl) (out:List Te),qbi s (ps++qs) out=match qbi s ps out with
  | none=>none
  | some r=>qbi s qs r
 | [],qs,out=>by rw [List.nil_append,qbi]
 | p :: ps,qs,out=>by
  rw [List.cons_append,qbi,qbi]
  cases qbe s p.st with
  | none=>rfl
  | some ms =>
   simp only
   split
   ·rfl
   ·exact qj8 s ps qs _
end
section

def qdk (s:Sy) (d:Nat) (p:Pl):List Pl:=if p.tr.length<d then plRow s p else []
def qGo (s:Sy) (d:Nat):Nat->List Pl->Nat->List Te->Option (List Te)
 | _,[],_,out=>some out
 | 0,_ :: _,_,_=>none
 | f+1,p :: ps,tot,out=>match qbe s p.st with
  | none=>none
  | some ms=>if 4000<(out++ms.map (Te.mk p.tr)).length∨4000<tot+(qdk s d p).length then none else qGo s d f (ps++qdk s d p) (tot+(qdk s d p).length) (out++ms.map (Te.mk p.tr))
theorem qnw (s:Sy) (d:Nat):∀ (lev acc:List Pl) (f tot:Nat) (out:List Te),lev.length<=f->tot<=4000->qGo s d f (lev++acc) tot out =
  match qbi s lev out with
  | none=>none
  | some out'=>if 4000<tot+(lev.flatMap (qdk s d)).length then none else qGo s d (f-lev.length) (acc++lev.flatMap (qdk s d)) (tot+(lev.flatMap (qdk s d)).length) out'
 | [],acc,f,tot,out,_,ht=>by
  rw [qbi]
  simp only [List.flatMap_nil,List.length_nil,List.nil_append,List.append_nil,Nat.add_zero,Nat.sub_zero]
  rw [if_neg (by omega)]
 | p :: lev,acc,0,tot,out,hf,_=>by simp at hf
 | p :: lev,acc,f+1,tot,out,hf,ht=>by
  have hl:lev.length<=f:=by simpa using hf
  rw [List.cons_append,qGo,qbi,List.flatMap_cons,List.length_append]
  cases qbe s p.st with
  | none=>rfl
  | some ms =>
   simp only
   by_cases h1:4000<(out++ms.map (Te.mk p.tr)).length
   ·rw [if_pos (.inl h1),if_pos h1]
   ·rw [if_neg h1]
    by_cases h2:4000<tot+(qdk s d p).length
    ·rw [if_pos (.inr h2)]
     cases qbi s lev (out++ms.map (Te.mk p.tr)) with
     | none=>rfl
     | some o =>
      simp only
      rw [if_pos (by omega)]
    ·rw [if_neg (by rintro (h | h);exact h1 h;exact h2 h),List.append_assoc,qnw s d lev (acc++qdk s d p) f (tot+(qdk s d p).length) _ hl (by omega)]
     cases qbi s lev (out++ms.map (Te.mk p.tr)) with
     | none=>rfl
     | some o =>
      simp only [List.length_cons,Nat.add_assoc,List.append_assoc,Nat.add_sub_add_right]
theorem qRow_at (s:Sy) (d k:Nat) (lev:List Pl) (h:∀ p∈lev,p.tr.length=k):lev.flatMap (qdk s d)=if k<d then qca s lev else []:=by
 induction lev with
 | nil=>split <;> rfl
 | cons p lev ih =>
  rw [List.flatMap_cons,ih fun q hq=>h q (by simp [hq]),qdk,h p (by simp)]
  split
  ·rw [qca,qca,List.flatMap_cons]
  ·rfl
theorem plNext_lv (s:Sy) (k:Nat) (lev:List Pl) (h:∀ p∈lev,p.tr.length=k):∀ p∈qca s lev,p.tr.length=k+1:=fun p hp=>by
 obtain ⟨q,hq,hp⟩:=List.mem_flatMap.1 hp
 obtain ⟨x,hx,hp⟩:=List.mem_flatMap.1 hp
 unfold qby at hp
 split at hp
 ·rw [List.mem_singleton.1 hp]
  simp [h q hq]
 ·simp at hp
theorem qGo_gen (s:Sy) (d:Nat):∀ (e k f tot:Nat) (lev pre:List Pl) (o:List Te),k+e=d->(∀ p∈lev,p.tr.length=k)->tot=pre.length+lev.length->tot<=4000->4000<=f+pre.length->qbi s pre []=some o ->
  qGo s d f lev tot o=match qb6 s e (pre++lev) lev with
   | none=>none
   | some r=>qbi s r []
 | 0,k,f,tot,lev,pre,o,hk,hl,ht,ht2,hf,hg=>by
  have h:=qnw s d lev [] f tot o (by omega) ht2
  rw [List.append_nil,qRow_at s d k lev hl,if_neg (by omega)] at h
  rw [h,qb6]
  simp only
  rw [qj8,hg]
  simp only [List.length_nil,Nat.add_zero,List.append_nil]
  cases qbi s lev o with
  | none=>rfl
  | some o' =>
   simp only
   rw [if_neg (by omega)]
   cases f-lev.length <;> rfl
 | e+1,k,f,tot,lev,pre,o,hk,hl,ht,ht2,hf,hg=>by
  have h:=qnw s d lev [] f tot o (by omega) ht2
  rw [List.append_nil,qRow_at s d k lev hl,if_pos (by omega),List.nil_append] at h
  have hgl:qbi s (pre++lev) []=qbi s lev o:=by rw [qj8,hg]
  rw [h,qb6,List.length_append,<- ht]
  cases hn:qbi s lev o with
  | none =>
   simp only
   split
   ·rename_i hp
    rfl
   ·rename_i r hp
    split at hp
    ·cases hp
    ·obtain ⟨m,hm⟩:=qpb s _ _ _ _ hp
     rw [hm,List.append_assoc,qj8,hgl,hn]
  | some o' =>
   simp only
   by_cases h4:4000<tot+(qca s lev).length
   ·rw [if_pos h4,if_pos h4]
   ·rw [if_neg h4,if_neg h4]
    exact qGo_gen s d e (k+1) _ _ _ (pre++lev) o' (by omega) (plNext_lv s k lev hl) (by rw [List.length_append,ht]) (by omega) (by rw [List.length_append];omega) (by rw [hgl,hn])
theorem qwj (s:Sy) (d:Nat):qGo s d 4000 [⟨[],qaq s [0]⟩] 1 []=qbl s d:=by
 rw [qGo_gen s d d 0 4000 1 [⟨[],qaq s [0]⟩] [] [] (by omega) (fun p hp=>by rw [List.mem_singleton.1 hp];rfl) rfl (by omega) (by simp) rfl]
 rfl
end
section
open Go.Shelf
def RSp (n:Nat):Rdr Pl:=fun S w x cs=>∃ v u,cs=[v,u]∧qaa S w x.tr [v]∧RSl qad 1 S w (marksOf n x.st) [u]
theorem RSp.good (n:Nat):Good (RSp n) 2:={
 len:=by rintro S w x cs ⟨v,u,rfl,_⟩;rfl
 one:=by
  rintro S w t cs ⟨v,u,rfl,hv,hu⟩ y hy
  simp at hy
  rcases hy with rfl | rfl
  ·exact hv.oneCell
  ·exact hu.oneCell
 move:=by rintro S w w' x cs ⟨v,u,rfl,hv,hu⟩ hk;exact ⟨v,u,rfl,qaa.good.move hv hk,(RSl.good qad.good).move hu hk⟩
 mono:=by rintro S S' w x cs ⟨v,u,rfl,hv,hu⟩ hs;exact ⟨v,u,rfl,qaa.good.mono hv hs,(RSl.good qad.good).mono hu hs⟩ }
theorem qmm:(Tryz.prog.info? 124).map (fun i=>(i.zero,i.size,i.bytes))=some (some (.agg #[.slice none 0 0,.slice none 0 0]),2,48):=by kernel_rfl
theorem info40:(Tryz.prog.info? 40).map (fun i=>(i.zero,i.size,i.bytes))=some (some (.agg #[.slice none 0 0,.slice none 0 0]),2,48):=by kernel_rfl
structure SpOk (s:Sy) (p:Pl):Prop where
 ran:∀ y∈p.st,0<=y∧y<s.n
 ris:p.st.Pairwise (· < ·)
 len:p.tr.length<=8
theorem qvs (s:Sy) (x:Lb) (l:List Int):(qa9 s x l).Pairwise (· < ·):=qlc s (qtm s x l)
theorem plOne_ok {s:Sy} (hok:qah s) {p:Pl} (hp:p.tr.length<8) (x:Lb):∀ q∈qby s p x,SpOk s q:=fun q hq=>by
 unfold qby at hq
 split at hq
 ·rw [List.mem_singleton.1 hq]
  exact ⟨qm6 hok x p.st,qvs s x p.st,by simp only [List.length_append,List.length_cons,List.length_nil];omega⟩
 ·simp at hq
theorem qRow_ok {s:Sy} (hok:qah s) {d:Nat} (hd:d<=8) (p:Pl):∀ q∈qdk s d p,SpOk s q:=fun q hq=>by
 unfold qdk at hq
 split at hq
 ·obtain ⟨x,_,hq⟩:=List.mem_flatMap.1 hq
  exact plOne_ok hok (by omega) x q hq
 ·simp at hq
theorem start_ok {s:Sy} (hok:qah s):SpOk s ⟨[],qaq s [0]⟩:=⟨qlz hok [0] fun y hy=>by
 rw [List.mem_singleton.1 hy]
 have:=hok.1
 omega,qlc s (l:=[0]) (by simp),by simp⟩
theorem qv3 (s:Sy) (p:Pl) (k:Nat) (h:k<s.ls.length):(s.ls.take (k+1)).flatMap (qby s p)=(s.ls.take k).flatMap (qby s p)++qby s p s.ls[k]:=by
 rw [List.take_succ_eq_append_getElem h,List.flatMap_append,List.flatMap_cons,List.flatMap_nil,List.append_nil]
theorem plOne_no {s:Sy} {p:Pl} {x:Lb} (h:qa3 x.g=false):qby s p x=[]:=by
 unfold qby
 rw [if_neg]
 rintro ⟨h',_⟩
 rw [h] at h'
 cases h'
theorem plOne_any {s:Sy} (hok:qah s) {n:Nat} (hn:s.n=(n:Int)) (p:Pl) (x:Lb) (hv:qa3 x.g=true):qby s p x=if (marksOf n (qa9 s x p.st)).any id=true then [⟨p.tr++[x],qa9 s x p.st⟩] else []:=by
 have h:=qoh n (L:=qa9 s x p.st) fun y hy=>by have:=qm6 hok x p.st y hy;omega
 unfold qby
 by_cases hb:qa9 s x p.st=[]
 ·rw [if_neg fun h'=>by have:=h'.2;rw [hb] at this;simp at this,if_neg fun h'=>h.1 h' hb]
 ·rw [if_pos ⟨hv,List.length_pos_iff.2 hb⟩,if_pos (h.2 hb)]
theorem te_take (s:Sy) (tr:List Lb) (l:List (List Int)) {k:Nat} (h:k<l.length):(l.take (k+1)).map (fun m=>Te.mk tr (qal s m))=(l.take k).map (fun m=>Te.mk tr (qal s m))++[Te.mk tr (qal s l[k])]:=by
 rw [List.take_succ_eq_append_getElem h,List.map_append]
 rfl
def ob (A:Option Addr):Option Nat:=(Value.slice A 0 0).ownBlock
theorem qf1 (A:Option Addr) (n c:Nat):(Value.slice A n c).ownBlock=ob A:=by cases A <;> rfl
theorem qab.obl {α:Type} {R:Rdr α} {k base:Nat} {e:TypeId} {T:Nat->Prop} {w:World} {xs:List α} {A:Option Addr} {n c:Nat} (h:qab R k e base T w xs (.slice A n c)) {q:Nat} (hq:ob A=some q):base<=q∧q<w.heap.size:=h.own_lt ((qf1 ..).trans hq)
end
end Go.Proofs.YtegenalcheooeaaGreat
