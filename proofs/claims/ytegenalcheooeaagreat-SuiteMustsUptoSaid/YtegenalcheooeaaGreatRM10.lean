/- Of the proof of a law of the suites: RMusts. -/
import Derived.Test.YtegenalcheooeaaGreatRM06
import Derived.Test.YtegenalcheooeaaGreatRM08
import Derived.Test.YtegenalcheooeaaGreatRM09
set_option linter.unusedSectionVars false
set_option linter.unusedSimpArgs false
set_option linter.unusedVariables false
namespace Go.Proofs.YtegenalcheooeaaGreat
open Go.RowKit
attribute [local go_sem] cell?_exto
section
open Go.Shelf
def acI (s:Sy) (n st:Nat):List Int:=mkL (qed s n st)
def qd8 (s:Sy) (n:Nat) (bs:List Bool) (k:Nat):List (List Int):=(((List.range k).filter (qc1 bs)).map (acI s n)).foldl qa1 []
def qd1 (s:Sy) (n:Nat) (bs:List Bool):Option (List (List Int)):=if bs.any id=true then qdv (qd8 s n bs n) [[]] else some []
theorem accK_succ (s:Sy) (n:Nat) (bs:List Bool) (k:Nat):qd8 s n bs (k+1)=if qc1 bs k=true then qa1 (qd8 s n bs k) (acI s n k) else qd8 s n bs k:=by
 unfold qd8
 rw [List.range_succ,List.filter_append,List.map_append,List.foldl_append,List.filter_cons]
 split <;> simp
theorem acI_len (s:Sy) (n st:Nat):(acI s n st).length≤s.ls.length:=by
 have:=qoq (qed s n st) (qed s n st).length
 rw [qgq] at this
 rw [acI,mkL,qgq]
 exact this
theorem qmu (s:Sy) (n st:Nat):qbi s (acI s n st):=⟨qq2 _,fun i hi=>by
 obtain ⟨k,hk,_,rfl⟩:=(qhq _ _).1 hi
 rw [qgq] at hk
 omega⟩
theorem accK_mem (s:Sy) (n:Nat) (bs:List Bool) (k:Nat) (a:List Int) (h:a∈qd8 s n bs k):∃ st,a=acI s n st:=by
 have:=((qhh _ [] List.Pairwise.nil).2 a).1 h
 rcases this with h | h
 ·simp at h
 ·obtain ⟨st,_,e⟩:=List.mem_map.1 h
  exact ⟨st,e.symm⟩
theorem qms (s:Sy) (n:Nat) (bs:List Bool) (k:Nat) (a:List Int) (h:a∈qd8 s n bs k):qbi s a∧a.length≤s.ls.length:=by
 obtain ⟨st,rfl⟩:=accK_mem s n bs k a h
 exact ⟨qmu s n st,acI_len s n st⟩
theorem rawR_take (ls:List (List Int)) (a:List Int) (k:Nat) (h:k<ls.length):qby (ls.take (k+1)) a=qby (ls.take k) a++qg0 a ls[k]:=by
 rw [qby,qby,List.take_succ_eq_append_getElem h,List.flatMap_append,List.flatMap_cons,List.flatMap_nil,List.append_nil]
theorem rawR_pre (ls:List (List Int)) (a:List Int) (k:Nat) (h:k≤ls.length):∃ post,qby ls a=qby (ls.take k) a++post:=by
 refine ⟨qby (ls.drop k) a,?_⟩
 rw [qby,qby,qby,← List.flatMap_append,List.take_append_drop]
theorem many_pre (pre post:List (List Int)) (h:qec (pre.foldl qa1 [])=true):qec ((pre++post).foldl qa1 [])=true:=by
 rw [List.foldl_append]
 obtain ⟨h1,h2⟩:=qhh pre [] List.Pairwise.nil
 have h3:=qrf post (pre.foldl qa1 [])
 have h4:=(qhh post (pre.foldl qa1 []) h1).2
 rw [qec,Bool.or_eq_true,decide_eq_true_eq,List.any_eq_true] at h ⊢
 rcases h with h | ⟨y,hy,h⟩
 ·exact .inl (by omega)
 ·exact .inr ⟨y,(h4 y).2 (.inl hy),h⟩
theorem qmf {n:List (List Int)} (h:2000<n.length):qec n=true:=by rw [qec,decide_eq_true h,Bool.true_or]
theorem qpo {n:List (List Int)} {y:List Int} (hy:y∈n) (h:64<y.length):qec n=true:=by
 rw [qec,Bool.or_eq_true,List.any_eq_true]
 exact .inr ⟨y,hy,decide_eq_true h⟩
theorem many_no {n:List (List Int)} (h:¬ 2000<n.length) (h2:∀ y∈n,y.length≤64):qec n=false:=by
 rw [qec,decide_eq_false h,Bool.false_or,List.any_eq_false]
 intro y hy
 have:=h2 y hy
 simpa using this
theorem qru {n:List (List Int)} {x:List Int} {p:List Int→Prop} (h:∀ y∈n,p y) (hx:p x):∀ y∈qa1 n x,p y:=fun y hy=>by
 rcases (qnn n x y).1 hy with h' | rfl
 ·exact h y h'
 ·exact hx
def qn0 (r:Option (List (List Int))) (w:World) (e:Ending) (w':World):Prop :=
 ∃ A c,e = .returned (.tuple #[.slice A (qa2 r).length c,.bool r.isSome])∧RSl RIs 1 (fun b=>w.heap.size≤b) w' (qa2 r) [.slice A (qa2 r).length c]∧Ext w w'
theorem qef {α:Type} {R:Rdr α} {k:Nat} {S:Nat→Prop} {w:World} (A:Option Addr):RSl R k S w [] [.slice A 0 0]:=⟨A,0,rfl,Nat.le_refl _,by decide,.inl rfl⟩
set_option maxHeartbeats 16000000 in
set_option maxRecDepth 100000 in
theorem qpw (S:Nat→Prop) (s:Sy) (hok:qai s) (cs:List Value) (n:Nat) (hn:s.n=(n:Int)) (bs:List Bool) (hbl:bs.length=n) (vb:Value) (w:World) (hx:RSy S w s cs) (hm:RSl qad 1 S w bs [vb]) :
  Calls Tryz.prog 85 #[.agg cs.toArray,vb] w (qn0 (qd1 s n bs) w):=by
 have hn1:n≤20000:=by have:=hok.2.1;omega
 have hll:=hok.2.2.1
 have hac:=fun st hst W (hW:Ext w W)=>qrn S s hok cs n st hn hst W (RSy.good.bel hx hW)
 obtain ⟨_,v1,u1,rfl,hv,hu⟩:=id hx
 obtain ⟨Al,cl,rfl,hcl1,hcl0⟩:=hv.val
 obtain ⟨Ae,ce,rfl,hce,hce0⟩:=hu.val
 obtain ⟨Ab,cb,rfl,hcb,hcb0⟩:=hm.val
 have HM:=Hd hm
 rw [hn] at hac ⊢
 rw [hbl] at hcb HM ⊢
 have HBL:=Hd hbl
 have HAC:=Hd hac
 obtain ⟨m,hme⟩:∃ m,s.ls.length=m:=⟨_,rfl⟩
 rw [hme] at hll HAC ⊢
 have HME:=Hd hme
 clear hx hv hu hn hok hm hbl hac hme hcl1
 obtain ⟨W0,hW0⟩:∃ W0,w.alloc (.cells #[.int .i64 (n:Int),.slice Al m cl,.slice Ae s.es.length ce] 25)=W0:=⟨_,rfl⟩
 have hE0:Ext w W0:=by rw [← hW0];exact (Ext.refl w).alloc _
 have hb0:qah W0 w.heap.size 25 [.int .i64 (n:Int),.slice Al m cl,.slice Ae s.es.length ce]:=by rw [← hW0];exact qah.new w 25 _
 have hz0:W0.heap.size=w.heap.size+1:=by rw [← hW0,World.size_alloc]
 have HB0:=Hd hb0
 have HE0:=Hd hE0
 have HW0:=Hd hW0
 have HZ0:=Hd hz0
 obtain ⟨p0,hp0⟩:∃ p0,w.heap.size=p0:=⟨_,rfl⟩
 rw [hp0] at HB0
 have HP0:=Hd hp0
 obtain ⟨T,hT⟩:∃ T:Nat→Prop,T=fun b=>W0.heap.size≤b:=⟨_,rfl⟩
 have HT:Hid (∀ b,T b↔W0.heap.size≤b):=fun b=>by rw [hT]
 clear hb0 hE0 hW0 hz0 hp0 hT
 go_enter Tryz.func85,Tryz.ntmps85
 go_upto_region 1 with (fail)
 rw [HW0.out,HP0.out]
 go_wp2_with fail
 go_loopw [6,7,8] (fun v6 v7 vi wr=>∃ (k:Nat) (ys:List (List Int)) (Ao:Option Addr) (co:Nat) (sb:Bool),k≤n∧vi = .int .i64 k∧v6 = .slice Ao ys.length co∧v7 = .bool sb∧ys.length≤k∧Ext W0 wr∧Hid (sb=(bs.take k).any id)∧Hid (ys=qd8 s n bs k)∧Hid (qab RIs 1 53 W0.heap.size T wr ys (.slice Ao ys.length co))) (fun _ _ vi _=>n-(intOf vi).toNat)
 case atStart=>exact ⟨0,[],none,0,false,Nat.zero_le _,rfl,rfl,rfl,by simp,Ext.refl _,(rfl:false=(bs.take 0).any id),(rfl:[]=qd8 s n bs 0),qab.nil ..⟩
 case round =>
  obtain ⟨k,ys,Ao,co,sb,hk,rfl,rfl,rfl,hyl,hE,hSB,hY,hO⟩:=hrel
  have hE':=HE0.out.trans' hE
  have hbx:=HB0.out.ext hE
  have x0:=hbx.cell 0 _
  have x1:=hbx.cell 1 _
  have x2:=hbx.cell 2 _
  have xz:=hbx.lt
  clear hbx
  have z1:(0:Int)≤(k:Int):=by omega
  by_cases hlt:k<n
  ·have hkb:k<bs.length:=by have:=HBL.out;omega
   obtain ⟨bb,ob,cb2,hAb,hbb,_,_,hrb,hcb2⟩:=((RSl.good qad.good).bel HM.out hE').get k hkb
   subst hAb
   obtain rfl:cb2=[.bool bs[k]]:=hrb
   have d0:=hcb2.get 0 _
   simp only [Nat.add_zero,Nat.mul_one] at d0
   have hst:=accK_succ s n bs k
   have hany:(bs.take (k+1)).any id=((bs.take k).any id || bs[k]):=by
    rw [List.take_succ_eq_append_getElem hkb,List.any_append,List.any_cons,List.any_nil,Bool.or_false]
    rfl
   rw [qd6 hkb] at hst
   have z2:(k:Int)<(n:Int):=by omega
   have hk1:k+1≤n:=hlt
   obtain ⟨bk,hbk⟩:∃ bk,bs[k]=bk:=⟨_,rfl⟩
   rw [hbk] at d0 hst hany
   clear hcb2 hbk
   cases bk
   ·have HC:Hid (ys=qd8 s n bs (k+1)):=by show _=_;rw [hst];exact hY.out
    have HS:Hid (sb=(bs.take (k+1)).any id):=by show _=_;rw [hany,Bool.or_false];exact hSB.out
    clear hst hany
    go_wp2_with fail
    go_roundw
    case rel=>exact ⟨k+1,ys,Ao,co,sb,hk1,by go_num,rfl,rfl,by omega,hE,HS.out,HC.out,hO.out⟩
    case measure=>simp [intOf];omega
   ·have HC:Hid (qa1 ys (acI s n k)=qd8 s n bs (k+1)):=by show _=_;rw [hst,hY.out];rfl
    have HS:Hid (true=(bs.take (k+1)).any id):=by show _=_;rw [hany,Bool.or_true]
    have hacc:=HAC.out k hlt wr hE'
    have hIL:=(qkh ys (acI s n k)).2
    have HAL:Hid ((qed s n k).length≤1000000):=by show _≤_;rw [qgq,HME.out];omega
    clear hst hany
    go_wp2_with fail
    refine hacc.mono ?_
    rintro e w1 ⟨A1,c1,rfl,ho1,h1⟩
    have hli:=qr1 (fun _=>True) (qed s n k) (.slice A1 m c1) w1 ((RSl.good qad.good).mono (ho1.sl qad.good (by decide)) fun _ _ _=>trivial) HAL.out
    clear ho1
    go_wp2_with fail
    refine hli.mono ?_
    rintro e w2 ⟨A2,c2,rfl,ho2,h2⟩
    have hlo:∀ q,(Value.slice Ao ys.length co).ownBlock=some q→W0.heap.size≤q∧q<wr.heap.size:=fun q e=>hO.out.own_lt e
    have hins:=ql7 W0.heap.size T ys (acI s n k) (.slice Ao ys.length co) _ w2 (hO.out.ext RIs.good (h1.trans' h2)) (RIs.good.mono (ho2.sl qac.good (by decide)) fun q _ hq=>⟨(HT.out q).2 (by have:=h1.size;have:=hE.size;rcases hq with h | h;exact h.elim;omega),fun e=>by have:=hlo q e;have:=h1.size;rcases hq with h | h;exact h.elim;omega⟩) (Nat.le_trans hE.size (h1.trans' h2).size) (by omega)
    have HLO:=Hd hlo
    clear ho2 hlo
    go_wp2_with fail
    refine hins.mono ?_
    rintro e w3 ⟨A3,c3,rfl,ho3,hb3,_⟩
    have HO3:=Hd ho3
    have HB3:Hid (Ext W0 w3):=Bt.new (hE.trans' (h1.trans' h2)) hb3 fun q _ h=>(HLO.out q h).1
    clear ho3 hb3 x0 x1 x2 xz
    go_wp2_with fail
    go_roundw
    case rel=>exact ⟨k+1,qa1 ys (acI s n k),A3,c3,true,hk1,by go_num,rfl,rfl,by omega,HB3.out,HS.out,HC.out,HO3.out⟩
    case measure=>simp [intOf];omega
  ·obtain rfl:k=n:=by omega
   have hbl:=HBL.out
   have hsb:sb=bs.any id:=by rw [hSB.out,List.take_of_length_le (by omega)]
   cases sb
   ·have HV:Hid (qd1 s k bs=some []):=by show _=_;rw [qd1,← hsb];rfl
    clear hsb hbl
    go_wp2_with fail
    go_ret2
    rw [HV.out]
    exact ⟨none,0,rfl,qef _,hE'⟩
   ·have HV:Hid (qd1 s k bs=qdv ys [[]]):=by show _=_;rw [qd1,← hsb,if_pos rfl,hY.out]
    have HYF:Hid (∀ a∈ys,qbi s a∧a.length≤m):=fun a ha=>by rw [hY.out] at ha;have:=qms s k bs k a ha;rw [HME.out] at this;exact this
    clear hsb hbl
    have HACC:=Hd (RSl.good RIs.good |>.mono (hO.out.sl RIs.good (by decide)) (S':=T) fun q _ hq=>by rcases hq with h | h;exact h;exact (HT.out q).2 h)
    obtain ⟨R,hR⟩:∃ R,qdv ys [[]]=R:=⟨_,rfl⟩
    have HR0:=Hd hR
    rw [hR] at HV
    obtain ⟨Wb,hWb⟩:∃ Wb,(wr.alloc (.cells #[] 3)).alloc (.cells #[.slice (some ⟨wr.heap.size,0,none⟩) 0 0] 53)=Wb:=⟨_,rfl⟩
    have hEb:Ext wr Wb:=by rw [← hWb];exact ((Ext.refl wr).alloc _).alloc _
    have hSE:RSl RIs 1 T Wb [[]] [.slice (some ⟨wr.heap.size+1,0,none⟩) 1 1]:=by
     have hc:(wr.alloc (.cells #[] 3)).heap.size=wr.heap.size+1:=World.size_alloc ..
     refine ⟨some ⟨wr.heap.size+1,0,none⟩,1,rfl,by simp,by decide,.inr ⟨wr.heap.size+1,0,rfl,?_,(HT.out _).2 (by have:=hE.size;omega),?_⟩⟩
     ·rw [← hWb,World.size_alloc,hc];omega
     ·refine ⟨⟨[.slice (some ⟨wr.heap.size,0,none⟩) 0 0],rfl,qef _,fun i v h=>?_⟩,trivial⟩
      have:=qei (wr.alloc (.cells #[] 3)) #[.slice (some ⟨wr.heap.size,0,none⟩) 0 0] 53 i v h
      rw [Addr.add_lit,hc] at this
      rw [← hWb]
      exact this
    have HSE:=Hd hSE
    have HEB:=Hd hEb
    have HWB:=Hd hWb
    have hzb:Wb.heap.size=wr.heap.size+2:=by rw [← hWb,World.size_alloc,World.size_alloc]
    clear hR hWb hSE hEb hY hSB hO
    go_wp2_with fail
    rw [HWB.out]
    go_wp2_with fail
    clear x0 x1 x2 xz
    go_loopw [9,10] (fun v9 vi wr2=>∃ (i:Nat) (sets:List (List Int)) (As:Option Addr) (c9:Nat),i≤ys.length∧vi = .int .i64 i∧v9 = .slice As sets.length c9∧sets.length≤2000∧Ext Wb wr2∧Hid (RSl RIs 1 T wr2 sets [.slice As sets.length c9])∧Hid (∀ y∈sets,qbi s y∧y.length≤64)∧Hid (qdv (ys.drop i) sets=R)) (fun _ vi _=>ys.length-(intOf vi).toNat)
    case atStart=>exact ⟨0,[[]],some ⟨wr.heap.size+1,0,none⟩,1,Nat.zero_le _,rfl,rfl,by simp,Ext.refl _,HSE.out,fun y hy=>by rw [List.mem_singleton.1 hy];exact ⟨⟨List.Pairwise.nil,by simp⟩,by simp⟩,HR0.out⟩
    case round =>
     obtain ⟨i,sets,As,c9,hi,rfl,rfl,hsl,hE2,hSETS,hSF,hRR⟩:=hrel
     have hEw:=hE'.trans' (HEB.out.trans' hE2)
     by_cases hil:i<ys.length
     ·obtain ⟨bc,oc,ccs,rfl,hbc,hTc,_,hra,hcella⟩:=((RSl.good RIs.good).bel HACC.out (HEB.out.trans' hE2)).get i hil
      obtain ⟨Aa,ca,rfl,hca,hca0⟩:=id hra
      have ga:=(by simpa using hcella.get 0 _:wr.cell? ⟨bc,oc+i,none⟩=some (.slice Aa (ys[i]).length ca))
      have hfa:=HYF.out _ (List.getElem_mem hil)
      have hdr:qdv (ys[i] :: ys.drop (i+1)) sets=R:=by rw [← hRR.out,List.drop_eq_getElem_cons hil]
      rw [qdv] at hdr
      have hi1:i+1≤ys.length:=hil
      have z1:(0:Int)≤(i:Int):=by omega
      have z2:(i:Int)<(ys.length:Int):=by omega
      obtain ⟨a,haa⟩:∃ a,ys[i]=a:=⟨_,rfl⟩
      rw [haa] at ga hra hfa hdr
      have HRA:=Hd hra
      have HFA:=Hd hfa
      have HDR:=Hd hdr
      have GA:=Hd ga
      have hal:a.length≤4000:=by omega
      obtain ⟨w7,rfl⟩:∃ w7,w7=wr:=⟨_,rfl⟩
      have HE7:=Hd hE2
      have hT7:Hid (∀ q,w7.heap.size≤q→T q):=fun q hq=>(HT.out q).2 (by have:=hE.size;have:=HEB.out.size;have:=hE2.size;omega)
      clear hcella hTc haa hra hca hfa hdr ga hRR
      go_wp2_with fail
      go_loopw [11,12] (fun v11 vk wr=>∃ (k:Nat) (nx:List (List Int)) (An:Option Addr) (cn:Nat),k≤sets.length∧vk = .int .i64 k∧v11 = .slice An nx.length cn∧nx.length≤2000+k∧Ext w7 wr∧Hid (nx=(qby (sets.take k) a).foldl qa1 [])∧Hid (∀ y∈nx,y.length≤64)∧Hid (qab RIs 1 53 w7.heap.size T wr nx (.slice An nx.length cn))) (fun _ vk _=>sets.length-(intOf vk).toNat)
      case atStart=>exact ⟨0,[],none,0,Nat.zero_le _,rfl,rfl,by simp,Ext.refl _,(rfl:[]=(qby (sets.take 0) a).foldl qa1 []),fun y hy=>by simp at hy,qab.nil ..⟩
      case round =>
       obtain ⟨k3,nx,An,cn,hk3,rfl,rfl,hnl,hE3,hNX,hN64,hO3⟩:=hrel
       have y1:(0:Int)≤(k3:Int):=by omega
       by_cases hkl:k3<sets.length
       ·obtain ⟨bs2,os2,cs2,rfl,hbs2,_,_,hrm,hcellm⟩:=hSETS.out.get k3 hkl
        obtain ⟨Am,cm,rfl,hcm,hcm0⟩:=id hrm
        have gm:=(by simpa using hcellm.get 0 _:w7.cell? ⟨bs2,os2+k3,none⟩=some (.slice Am (sets[k3]).length cm))
        have hsf:=hSF.out _ (List.getElem_mem hkl)
        have hrt:=rawR_take sets a k3 hkl
        have hk31:k3+1≤sets.length:=hkl
        have y2:(k3:Int)<(sets.length:Int):=by omega
        obtain ⟨sm,hsm⟩:∃ sm,sets[k3]=sm:=⟨_,rfl⟩
        rw [hsm] at gm hrm hsf hrt
        have HRM:=Hd hrm
        have GM:=Hd gm
        have HSF:=Hd hsf
        have HMT:=Hd fun W (hW:Ext w7 W)=>meets_c T T sm a _ _ W (RIs.good.bel hrm hW) (RIs.good.bel HRA.out hW) HFA.out.1.ris
        have g3:=Ext.keep hE3 gm
        have a3:=Ext.keep hE3 GA.out
        have hb3:bs2<wr.heap.size:=Nat.lt_of_lt_of_le hbs2 hE3.size
        have hc3:bc<wr.heap.size:=Nat.lt_of_lt_of_le hbc hE3.size
        have hX2:∀ (y:World),Ext w7 (qam wr y):=fun y=>hE3.trans' (qa8 _ y)
        have hmt:=fun W (hW:Ext w7 W)=>HMT.out W hW
        have hsml:sm.length≤64:=hsf.2
        clear hcellm hrm hsm hsf gm HMT
        by_cases hme:qev sm a=true
        ·have HNX:Hid (qa1 nx sm=(qby (sets.take (k3+1)) a).foldl qa1 []):=by
          show _=_
          rw [hrt,List.foldl_append,← hNX.out,qg0,if_pos hme]
          rfl
         have HN64:Hid (∀ y∈qa1 nx sm,y.length≤64):=qru hN64.out hsml
         have hIL:=(qkh nx sm).2
         rw [hme] at hmt
         clear hme hrt
         go_wp2_with fail
         (refine qaw (by kernel_rfl) (by kernel_rfl) ?_;(repeat (first | go_big_quiet_step ((go_at_call 157;exact qa5 (hmt _ (hX2 _)))) | quiet_step ((go_at_call 157;exact qa5 (hmt _ (hX2 _))))));refine wpQuiet_nil ?_)
         intro w4 hx4
         have hlo:∀ q,(Value.slice An nx.length cn).ownBlock=some q→w7.heap.size≤q:=fun q e=>(hO3.out.own_lt e).1
         have hins:=ql7 w7.heap.size T nx sm (.slice An nx.length cn) _ w4 (hO3.out.ext RIs.good hx4) (RIs.good.bel (RIs.good.mono HRM.out fun q hq h=>⟨h,fun e=>by have:=hlo q e;omega⟩) (hE3.trans' hx4)) (hE3.trans' hx4).size (by omega)
         have HLO:=Hd hlo
         have g4:=Ext.keep hx4 g3
         have hb4:bs2<w4.heap.size:=Nat.lt_of_lt_of_le hb3 hx4.size
         clear hlo g3 a3
         go_wp2_with fail
         refine hins.mono ?_
         rintro e w5 ⟨A5,c5,rfl,ho5,hb5,_⟩
         have HO5:=Hd ho5
         have HB5:Hid (Ext w7 w5):=Bt.new (hE3.trans' hx4) hb5 fun q _ h=>HLO.out q h
         clear ho5 hb5 hins
         go_wp2_with fail
         go_roundw
         case rel=>exact ⟨k3+1,qa1 nx sm,A5,c5,hk31,by go_num,rfl,by omega,HB5.out,HNX.out,HN64.out,HO5.out⟩
         case measure=>simp [intOf];omega
        ·have HNM:=Hd hme
         have HST:Hid (qby (sets.take (k3+1)) a=qby (sets.take k3) a++a.map (qbf sm)):=by show _=_;rw [hrt,qg0,if_neg hme]
         rw [eq_false_of_ne_true hme] at hmt
         have HMAX:Hid (∃ post,qby sets a=(qby (sets.take k3) a++a.map (qbf sm))++post):=by
          obtain ⟨post,hp⟩:=rawR_pre sets a (k3+1) hk31
          exact ⟨post,by rw [hp,HST.out]⟩
         clear hme hrt
         go_wp2_with fail
         (refine qaw (by kernel_rfl) (by kernel_rfl) ?_;(repeat (first | go_big_quiet_step ((go_at_call 157;exact qa5 (hmt _ (hX2 _)))) | quiet_step ((go_at_call 157;exact qa5 (hmt _ (hX2 _))))));refine wpQuiet_nil ?_)
         intro w4 hx4
         have hE4:=hE3.trans' hx4
         have hO4:=Hd (hO3.out.ext RIs.good hx4)
         clear g3 a3 hmt hX2 hE3 hO3 hb3 hc3
         go_wp2_with fail
         go_loopw [11,13] (fun v11 vj wr=>∃ (j:Nat) (nx:List (List Int)) (An:Option Addr) (cn:Nat),j≤a.length∧vj = .int .i64 j∧v11 = .slice An nx.length cn∧nx.length≤2000+k3∧Ext w7 wr∧Hid (nx=(qby (sets.take k3) a++(a.take j).map (qbf sm)).foldl qa1 [])∧Hid (∀ y∈nx,y.length≤64)∧Hid (qab RIs 1 53 w7.heap.size T wr nx (.slice An nx.length cn))) (fun _ vj _=>a.length-(intOf vj).toNat)
         case atStart=>exact ⟨0,nx,An,cn,Nat.zero_le _,rfl,rfl,hnl,hE4,(by rw [List.take_zero,List.map_nil,List.append_nil];exact hNX.out:nx=(qby (sets.take k3) a++(a.take 0).map (qbf sm)).foldl qa1 []),hN64.out,hO4.out⟩
         case round =>
          clear hnl hNX hN64 hO4 hE4 hx4
          obtain ⟨j,nx,An,cn,hj,rfl,rfl,hnl,hE4,hNX,hN64,hO4⟩:=hrel
          have a4:=Ext.keep hE4 GA.out
          have g4:=Ext.keep hE4 GM.out
          have hb4:bs2<wr.heap.size:=Nat.lt_of_lt_of_le hbs2 hE4.size
          have hc4:bc<wr.heap.size:=Nat.lt_of_lt_of_le hbc hE4.size
          have u1:(0:Int)≤(j:Int):=by omega
          by_cases hjl:j<a.length
          ·obtain ⟨ba,oa,csa,rfl,hba,_,_,hrx,hcx⟩:=HRA.out.get j hjl
           have hi64:=hrx.2
           obtain rfl:=hrx.1
           have e4:=Ext.keep hE4 (by simpa using hcx.get 0 _:w7.cell? ⟨ba,oa+j,none⟩=some (.int .i64 a[j]))
           have hbaw:ba<wr.heap.size:=Nat.lt_of_lt_of_le hba hE4.size
           have htk:(a.take (j+1)).map (qbf sm)=(a.take j).map (qbf sm)++[qbf sm a[j]]:=by rw [List.take_succ_eq_append_getElem hjl,List.map_append];rfl
           have hjm:a[j]∈a:=List.getElem_mem hjl
           have hmap:∃ q,a.map (qbf sm)=(a.take (j+1)).map (qbf sm)++q:=⟨(a.drop (j+1)).map (qbf sm),by rw [← List.map_append,List.take_append_drop]⟩
           have hj1:j+1≤a.length:=hjl
           have u2:(j:Int)<(a.length:Int):=by omega
           obtain ⟨x,hxj⟩:∃ x,a[j]=x:=⟨_,rfl⟩
           rw [hxj] at e4 hi64 htk hjm
           have hwith:=fun W (hW:Ext wr W)=>with_c T sm x _ W (RIs.good.bel HRM.out (hE4.trans' hW)) hi64 (by omega)
           obtain ⟨xs,hxs⟩:∃ xs,qbf sm x=xs:=⟨_,rfl⟩
           rw [hxs] at hwith htk
           have HNX2:Hid (qa1 nx xs=(qby (sets.take k3) a++(a.take (j+1)).map (qbf sm)).foldl qa1 []):=by
            show _=_
            rw [htk,← List.append_assoc,List.foldl_append,← hNX.out]
            rfl
           have HPRE:Hid (qec (qa1 nx xs)=true→R=none):=fun h=>by
            obtain ⟨post,hp⟩:=HMAX.out
            obtain ⟨q,hq⟩:=hmap
            have:qec (qgd sets a)=true:=by
             rw [qgd,hp,hq,List.append_assoc (qby _ _),List.append_assoc,← List.append_assoc (qby _ _)]
             exact many_pre _ _ (by rw [← HNX2.out];exact h)
            rw [← HDR.out,if_pos this]
           have hIL:=(qkh nx xs).2
           clear hrx hcx hxj htk hmap hjm hxs
           obtain ⟨w8,rfl⟩:∃ w8,w8=wr:=⟨_,rfl⟩
           go_wp2_with fail
           go_region_held3 (fun W=>W.cell? ⟨bs2,os2+k3,none⟩=some (.slice Am sm.length cm)∧W.cell? ⟨bc,oc+i,none⟩=some (.slice (some ⟨ba,oa,none⟩) a.length ca)∧W.cell? ⟨ba,oa+j,none⟩=some (.int .i64 x))
            (first | (refine ⟨?_,?_,?_⟩ <;> go_simp <;> done) | exact Ext.k3 hx1 (by assumption) | exact Ext.k3 (qaf.ext hx1) (by assumption) | exact Ext.k3 ((Ext.refl _).alloc _) (by assumption))
            (first | (go_at_call 158;refine (hwith _ bel).mono ?_;rintro e w5 ⟨A5,c5,rfl,ho5,hx1⟩))
           have hx8:Ext w8 w5:=Ext.trans' (Below.drew (Ext.refl _)) hx1
           have hlo:∀ q,(Value.slice An nx.length cn).ownBlock=some q→w7.heap.size≤q∧q<w8.heap.size:=fun q e=>hO4.out.own_lt e
           have hw8d:w8.drew.heap.size=w8.heap.size:=rfl
           have hins:=ql7 w7.heap.size T nx xs (.slice An nx.length cn) _ w5 (hO4.out.ext RIs.good hx8) (RIs.good.mono (ho5.sl qac.good (by decide)) fun q _ hq=>⟨hT7.out q (by have:=hE4.size;rcases hq with h | h;exact h.elim;omega),fun e=>by have:=hlo q e;rcases hq with h | h;exact h.elim;omega⟩) (hE4.trans' hx8).size (by omega)
           have HLO:=Hd fun q e=>(hlo q e).1
           clear ho5 hlo g4 a4 e4 hwith hx1 hw8d
           go_wp2_with fail
           refine hins.mono ?_
           rintro e w6 ⟨A6,c6,rfl,ho6,hb6,_⟩
           have HO6:=Hd ho6
           have HB6:Hid (Ext w7 w6):=Bt.new (hE4.trans' hx8) hb6 fun q _ h=>HLO.out q h
           have hEf:Ext w w6:=hEw.trans' HB6.out
           clear ho6 hb6 hins
           by_cases h64:(64:Int)<(xs.length:Int)
           ·have HRN:Hid (R=none):=HPRE.out (qpo ((qnn nx xs xs).2 (.inr rfl)) (by omega))
            go_wp2_with fail
            go_ret2
            rw [HV.out,HRN.out]
            exact ⟨none,0,rfl,qef _,hEf⟩
           ·by_cases h2k:(2000:Int)<((qa1 nx xs).length:Int)
            ·have HRN:Hid (R=none):=HPRE.out (qmf (by omega))
             go_wp2_with fail
             go_ret2
             rw [HV.out,HRN.out]
             exact ⟨none,0,rfl,qef _,hEf⟩
            ·have HN64:Hid (∀ y∈qa1 nx xs,y.length≤64):=qru hN64.out (by omega)
             go_wp2_with fail
             go_roundw
             case rel=>exact ⟨j+1,qa1 nx xs,A6,c6,hj1,by go_num,rfl,by omega,HB6.out,HNX2.out,HN64.out,HO6.out⟩
             case measure=>simp [intOf];omega
          ·obtain rfl:j=a.length:=by omega
           have HNX2:Hid (nx=(qby (sets.take (k3+1)) a).foldl qa1 []):=by
            show _=_
            rw [HST.out,hNX.out,List.take_length]
           go_wp2_with fail
           go_roundw
           case rel=>exact ⟨k3+1,nx,An,cn,hk31,by go_num,rfl,by omega,hE4,HNX2.out,hN64.out,hO4.out⟩
           case measure=>simp [intOf];omega
       ·obtain rfl:k3=sets.length:=by omega
        have hnx:nx=qgd sets a:=by rw [hNX.out,List.take_length];rfl
        have hEf:Ext w wr:=hEw.trans' hE3
        by_cases h2k:(2000:Int)<(nx.length:Int)
        ·have HRN:Hid (R=none):=by
          show _=_
          rw [← HDR.out,← hnx,if_pos (qmf (by omega))]
         clear hnx
         go_wp2_with fail
         go_ret2
         rw [HV.out,HRN.out]
         exact ⟨none,0,rfl,qef _,hEf⟩
        ·have hmn:qec nx=false:=many_no (by omega) hN64.out
         have hst:StrS nx:=by rw [hnx];exact qsq _ _
         have hfi:∀ y∈nx,qbi s y:=fun y hy=>by rw [hnx] at hy;exact qli HFA.out.1 (fun z hz=>(hSF.out z hz).1) y hy
         have HRR:Hid (qdv (ys.drop (i+1)) (qeq nx)=R):=by
          show _=_
          rw [← HDR.out,← hnx,if_neg (by rw [hmn];decide)]
         have HSF2:Hid (∀ y∈qeq nx,qbi s y∧y.length≤64):=fun y hy=>⟨qo4 hfi y hy,hN64.out y (List.mem_filter.1 hy).1⟩
         have hll2:(qeq nx).length≤nx.length:=List.length_filter_le _ _
         have hle:=rleast_c T nx (.slice An nx.length cn) wr (RSl.good RIs.good |>.mono (hO3.out.sl RIs.good (by decide)) fun q _ hq=>by rcases hq with h | h;exact h;exact hT7.out q h) (by omega) hst.nodup fun y hy=>(hfi y hy).ris
         clear hnx hmn hst hfi
         go_wp2_with fail
         refine hle.mono ?_
         rintro e w5 ⟨A5,c5,rfl,ho5,hx5⟩
         have HS5:Hid (RSl RIs 1 T w5 (qeq nx) [.slice A5 (qeq nx).length c5]):=RSl.good RIs.good |>.mono (ho5.sl RIs.good (by decide)) fun q _ hq=>by
          rcases hq with h | h
          ·exact h.1
          ·exact hT7.out q (Nat.le_trans hE3.size h)
         clear ho5 hle
         go_wp2_with fail
         go_roundw
         case rel=>exact ⟨i+1,qeq nx,A5,c5,hi1,by go_num,rfl,by omega,HE7.out.trans' (hE3.trans' hx5),HS5.out,HSF2.out,HRR.out⟩
         case measure=>simp [intOf];omega
     ·obtain rfl:i=ys.length:=by omega
      have HRS:Hid (R=some sets):=by
       show _=_
       rw [← hRR.out,List.drop_length]
       rfl
      go_wp2_with fail
      go_ret2
      rw [HV.out,HRS.out]
      exact ⟨As,c9,rfl,RSl.good RIs.good |>.mono hSETS.out fun q _ hq=>by have h:=(HT.out q).1 hq;have:=HE0.out.size;omega,hEw⟩
end
end Go.Proofs.YtegenalcheooeaaGreat
