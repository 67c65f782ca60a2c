/- Of the proof of a law of the suites: RMarks, RClosed, RClosed2, RStart, RMoved, RAfter, RAccepted, RPlain, RPlain2, RPlain3, RPlain4, RefAfter. -/
import Derived.Test.YtegenalcheooeaaGreatB10
import Derived.Test.YtegenalcheooeaaGreatB11
import Derived.Test.YtegenalcheooeaaGreatB14
import Derived.Test.YtegenalcheooeaaGreatB15
import Derived.Test.YtegenalcheooeaaGreatRM02
import Derived.Test.YtegenalcheooeaaGreatRM03
set_option linter.unusedSectionVars false
set_option linter.unusedSimpArgs false
set_option linter.unusedVariables false
namespace Go.Proofs.YtegenalcheooeaaGreat
open Go.RowKit
attribute [local go_sem] cell?_exto
section

def marksOf (n:Nat) (l:List Int):List Bool:=(List.range n).map fun i:Nat=>decide ((i:Int)∈l)
theorem qb2 (n:Nat) (l:List Int):(marksOf n l).length=n:=by simp [marksOf]
theorem qep {n:Nat} {l:List Int} {i:Nat} (h:i<(marksOf n l).length):(marksOf n l)[i]=decide ((i:Int)∈l):=by simp [marksOf]
theorem qjl {n:Nat} (l:List Int) (i:Nat):(marksOf n l).set i true=marksOf n (l++[(i:Int)]):=by
 apply List.ext_getElem
 ·rw [List.length_set,qb2,qb2]
 ·intro j h1 h2
  rw [List.getElem_set,qep h2]
  by_cases h:i=j
  ·subst h
   rw [if_pos rfl]
   exact (decide_eq_true (by simp)).symm
  ·rw [if_neg h,qep]
   congr 1
   simp only [List.mem_append,List.mem_singleton,eq_iff_iff]
   constructor
   ·exact .inl
   ·rintro (h' | h')
    ·exact h'
    ·omega
theorem qnr {n:Nat} {l l':List Int} (h:∀ i:Nat,i<n->((i:Int)∈l↔(i:Int)∈l')):marksOf n l=marksOf n l':=by
 unfold marksOf
 apply List.map_congr_left
 intro i hi
 exact decide_eq_decide.2 (h i (List.mem_range.1 hi))
theorem qia (bs:List Bool) (j:Int):j∈mkL bs↔∃ i:Nat,i<bs.length∧qcy bs i=true∧(i:Int)=j:=mkT_mem bs _ j
theorem qva (bs:List Bool):marksOf bs.length (mkL bs)=bs:=by
 apply List.ext_getElem
 ·rw [qb2]
 ·intro i h1 h2
  rw [qep h1]
  cases hb:bs[i]
  ·rw [decide_eq_false_iff_not,qia]
   rintro ⟨k,hk,hm,he⟩
   obtain rfl:k=i:=by omega
   rw [qd1 h2,hb] at hm
   cases hm
  ·rw [decide_eq_true_eq,qia]
   exact ⟨i,h2,by rw [qd1 h2,hb],rfl⟩
def qc1 (s:Sy) (bs:List Bool):List Bool:=marksOf s.n.toNat (qbj s ((mkL bs).length+s.es.length) 0 (mkL bs))
end
section
open Go.Shelf
theorem qab.boolT {base:Nat} {e:TypeId} {T T':Nat->Prop} {w:World} {xs:List Bool} {v:Value} (h:qab qad 1 e base T w xs v):qab qad 1 e base T' w xs v:=by
 obtain ⟨news,h1,h2⟩:=h
 exact ⟨news,h1,h2.imp fun x _ cs h=>h⟩
theorem qwg (S:Nat->Prop) (w:World) (bs:List Bool) (A:Option Addr) (c:Nat) (hx:RSl qad 1 S w bs [.slice A bs.length c]) (h0:0<bs.length) (h1:bs.length<=1000000) (hA:∀ W,Ext w W->RSl qad 1 S W bs [.slice A bs.length c]) :
  ∃ gm cm W1,(Builtin.append_ #[73,73] 73 #[.slice (some ⟨w.heap.size,0,none⟩) 0 0,.slice A bs.length c]).run Tryz.prog (w.alloc (.cells #[] 4)) = .ok (.slice (some ⟨gm,0,none⟩) bs.length cm) W1 ∧
   RBs w.heap.size W1 bs (.slice (some ⟨gm,0,none⟩) bs.length cm)∧Ext w W1∧w.heap.size<=gm∧gm<W1.heap.size:=by
 have hown:qab qad 1 4 w.heap.size (fun _=>True) (w.alloc (.cells #[] 4)) ([]:List Bool) (.slice (some ⟨w.heap.size,0,none⟩) 0 0) :=
  ⟨[],World.ownsRow_lit w #[] 0 (Nat.le_refl _) (by unfold maxLen;omega) rfl,rfl⟩
 have hy:RSl qad 1 (fun b=>True∧(Value.slice (some ⟨w.heap.size,0,none⟩) 0 0).ownBlock≠some b) (w.alloc (.cells #[] 4)) bs [.slice A bs.length c]:=by
  refine (RSl.good qad.good).bel ((RSl.good qad.good).mono hx fun b hb _=>⟨trivial,?_⟩) ((Ext.refl w).alloc _)
  simp [Value.ownBlock]
  omega
 obtain ⟨A1,c1,W1,hr,ho,hb⟩:=pushN qad.good (by decide) w.heap.size 4 73 (.bool false) 1 Tryz.underlying73 info4 rfl (by decide) (fun _=>True) (w.alloc (.cells #[] 4)) [] bs _ _ hown hy (by simp) (by simp;omega)
 rw [List.nil_append] at hr ho
 have hE:Ext w W1:=Bt.new ((Ext.refl w).alloc _) hb fun i _ hi=>by
  have:some w.heap.size=some i:=hi
  injection this with this
  omega
 obtain ⟨news,⟨h2,h3⟩,h4⟩:=id ho
 rcases h3 with ⟨_,h3⟩ | ⟨g,cap,cur,hv,hg,hh,_⟩
 ·omega
 ·injection hv with hv1 hv2 hv3
  subst hv1 hv3
  exact ⟨g,c1,W1,hr,ho.boolT,hE,hg,(Array.getElem?_eq_some_iff.1 hh).1⟩
def qi6 (n:Nat) (r:List Bool) (w:World) (e:Ending) (w':World):Prop:=∃ A c,e = .returned (.slice A n c)∧RBs w.heap.size w' r (.slice A n c)∧Ext w w'
theorem qwu (s:Sy) (st:Int) (hs:qhk s.es) (lk:List Int) (j:Nat) (hj:j<(qdr s.es st).length):∃ h:j<(qaw s.es st).length,((qdr s.es st)[j]=s.es[(qaw s.es st)[j]])∧qbd s ((qaw s.es st).take (j+1)) lk=qcx s (qbd s ((qaw s.es st).take j) lk) ((qdr s.es st)[j]):=by
 have he:=qqq hs st
 have hl:(qdr s.es st).length=(qaw s.es st).length:=by rw [he,List.length_map]
 refine ⟨by omega,?_,?_⟩
 ·simp only [he,List.getElem_map]
 ·rw [List.take_succ_eq_append_getElem (by omega),qr8]
  simp only [he,List.getElem_map]
theorem qux {s:Sy} {l:List Int} {e:Ed} (hl:∀ x∈l,0<=x∧x<s.n) (he:qb8 s e=true):∀ x∈qcx s l e,0<=x∧x<s.n:=by
 rw [qh5] at he
 intro x hx
 unfold qcx at hx
 split at hx
 ·rcases List.mem_append.1 hx with h | h
  ·exact hl x h
  ·rw [List.mem_singleton] at h
   subst h
   exact ⟨he.2.2.1,he.2.2.2.1⟩
 ·exact hl x hx
end
section
open Go.Shelf
set_option maxHeartbeats 8000000 in
set_option maxRecDepth 100000 in
theorem qpi (S:Nat->Prop) (s:Sy) (hok:qah s) (cs:List Value) (bs:List Bool) (v:Value) (w:World) (hx:RSy S w s cs) (hm:RSl qad 1 S w bs [v]) (hbn:(bs.length:Int)=s.n) :
  Calls Tryz.prog 161 #[.agg cs.toArray,v] w (qi6 bs.length (qc1 s bs) w):=by
 have hs:=qvl hok.2.2.2.2.2
 have hn0:=hok.1
 have hn1:=hok.2.1
 have hel:=hok.2.2.2.1
 have hed:Hid (∀ j,(h:j<s.es.length)->qb8 s s.es[j]=true):=fun j h=>(hok.2.2.2.2.2 j h).1
 obtain ⟨S',hS'⟩:∃ S':Nat->Prop,S'=fun q=>S q∧q<w.heap.size:=⟨_,rfl⟩
 have HX:=Hd (RSy.good.mono hx (S':=S') fun q h1 h2=>by rw [hS'];exact ⟨h2,h1⟩)
 have HS':Hid (∀ q,S' q->q<w.heap.size):=fun q h=>by rw [hS'] at h;exact h.2
 have HM:=Hd hm
 obtain ⟨_,v1,u1,rfl,hv,hu⟩:=id hx
 obtain ⟨Al,cl,rfl,hcl,hcl0⟩:=hv.val
 obtain ⟨Ae,ce,rfl,hce,hce0⟩:=hu.val
 obtain ⟨Ab,cb,rfl,hcb,hcb0⟩:=hm.val
 clear hx hv hu hm hS'
 have hsn:s.n=(bs.length:Int):=hbn.symm
 have HSN:=Hd hsn
 have HOK:=Hd hok
 have HSO:=Hd hs
 have hb0:0<bs.length:=by omega
 have hb1:bs.length<=20000:=by omega
 rw [hsn]
 obtain ⟨W0,hW0⟩:∃ W0,w.alloc (.cells #[.int .i64 (bs.length:Int),.slice Al s.ls.length cl,.slice Ae s.es.length ce] 25)=W0:=⟨_,rfl⟩
 have hE0:Ext w W0:=by rw [<- hW0];exact (Ext.refl w).alloc _
 have hB0:qag W0 w.heap.size 25 [.int .i64 (bs.length:Int),.slice Al s.ls.length cl,.slice Ae s.es.length ce]:=by rw [<- hW0];exact qag.new w 25 _
 have hz0:W0.heap.size=w.heap.size+1:=by rw [<- hW0,World.size_alloc]
 obtain ⟨gm,cm,W1,hrc,hrow1,hE1,hg0,hg1⟩:=qwg S W0 bs Ab cb ((RSl.good qad.good).bel HM.out hE0) hb0 (by omega) (fun W hW=>(RSl.good qad.good).bel HM.out (hE0.trans' hW))
 rw [<- hW0,World.size_alloc] at hrc
 have hB1:=hB0.ext hE1
 obtain ⟨p0,hp0⟩:∃ p0,w.heap.size=p0:=⟨_,rfl⟩
 have hgp:p0<gm:=by omega
 have HE1:Hid (Ext w W1):=hE0.trans' hE1
 rw [hp0] at hB1
 have HB1:=Hd hB1
 have HP0:=Hd hp0
 have HROW:=Hd (hrow1.base (base':=w.heap.size) (by omega))
 have HG:Hid (w.heap.size<=gm):=by show _<=_;omega
 have HL0:Hid (∀ k,(mkT bs k).length<=k):=fun k=>qmk bs k
 clear hE0 hB0 hz0 hW0 hrow1 hE1 hg0 hB1 hp0 hbn hsn hok hs hn0
 go_enter Tryz.func161,Tryz.ntmps161
 go_wp2_with (at_builtin;refine wpList_append_run rfl _ _ _ rfl _ _ _ rfl rfl hrc ?_;clear hrc)
 rw [HP0.out]
 go_loopw [6,7] (fun v6 vi wr=>∃ (k:Nat) (ys:List Int) (Ao:Option Addr) (co:Nat),k<=bs.length∧vi = .int .i64 k∧v6 = .slice Ao ys.length co∧Hid (ys=mkT bs k)∧Ext W1 wr∧Hid (qab qac 1 3 W1.heap.size (fun _=>False) wr ys (.slice Ao ys.length co))) (fun _ vi _=>bs.length-(intOf vi).toNat)
 case atStart=>exact ⟨0,[],none,0,Nat.zero_le _,rfl,rfl,by simp [mkT,Hid],Ext.refl _,qab.nil ..⟩
 case round =>
  obtain ⟨k,ys,Ao,co,hk,rfl,rfl,hY,hE,hO⟩:=hrel
  have hbx:=HB1.out.ext hE
  have x0:=hbx.cell 0 _
  have xz:=hbx.lt
  clear hbx
  by_cases hlt:k<bs.length
  ·obtain ⟨ub,gc,hub,gf⟩:=qab.get1 (HROW.out.ext qad.good hE) k hlt
   have hub':ub = .bool bs[k]:=by simpa [qad] using hub
   subst hub'
   have hgl:gm<wr.heap.size:=Nat.lt_of_lt_of_le hg1 hE.size
   have HST:=Hd (qsn bs k)
   rw [qd1 hlt] at HST
   cases hb2:bs[k]
   ·rw [hb2] at gc HST
    clear hub hb2 gf
    go_wp2_with fail
    go_roundw
    case rel=>exact ⟨k+1,ys,Ao,co,by omega,by go_num,rfl,by rw [hY.out];exact HST.out.symm,hE,hO.out⟩
    case measure=>simp [intOf];omega
   ·rw [hb2] at gc HST
    have hyl:ys.length<=1000000:=by have:=HL0.out k;rw [hY.out];omega
    obtain ⟨g2,c2,w2,hr2,ho2,hb3,_,_⟩:=qct qac.good (by decide) W1.heap.size 3 53 (.int .i64 0) 8 Tryz.underlying53 qgg rfl (by decide) (fun _=>False) wr ys (.slice Ao ys.length co) (k:Int) [.int .i64 k] hO.out ⟨rfl,by unfold I64;omega⟩ hE.size hyl
    have HO2:=Hd ho2
    have hlo:∀ q,(Value.slice Ao ys.length co).ownBlock=some q->W1.heap.size<=q:=fun q e=>(hO.out.own_lt e).1
    have HB2:Hid (Ext W1 w2):=Bt.new hE hb3 fun q _ h=>hlo q h
    have HY2:Hid (ys++[(k:Int)]=mkT bs (k+1)):=by
     show _=_
     rw [hY.out]
     exact HST.out.symm
    clear hub hb2 gf hO ho2 hb3 hlo hY HST
    go_wp2_with (at_builtin;refine wpList_append_run rfl _ _ _ rfl _ _ _ rfl rfl hr2 ?_;clear hr2)
    go_roundw
    case rel=>exact ⟨k+1,ys++[(k:Int)],some ⟨g2,0,none⟩,c2,by omega,by go_num,by simp,HY2.out,HB2.out,(by have h:=HO2.out;show qab _ _ _ _ _ _ _ _;simpa using h)⟩
    case measure=>simp [intOf];omega
  ·have hkl:k=bs.length:=by omega
   subst hkl
   have hw1s:gm<W1.heap.size:=hg1
   have hLe:(mkL bs).length=(mkT bs bs.length).length:=rfl
   have HFIN:Hid (qc1 s bs=marksOf bs.length (qbj s ((mkL bs).length+s.es.length) 0 (mkL bs))):=by
    show _=_
    rw [qc1,HSN.out,Int.toNat_natCast]
   have hpot0:ys.length+qcv s ys<=(mkL bs).length+s.es.length:=by have:=qgd s ys;rw [hY.out] at this ⊢;omega
   have HIN0:Hid (∀ x∈ys,0<=x∧x<s.n):=by
    intro x hx
    rw [hY.out] at hx
    obtain ⟨i,hi,_,rfl⟩:=(qia bs x).1 hx
    rw [HSN.out]
    omega
   have HMK0:Hid (RBs w.heap.size wr (marksOf bs.length ys) (.slice (some ⟨gm,0,none⟩) bs.length cm)):=by
    show RBs _ _ _ _
    rw [hY.out,qva]
    exact HROW.out.ext qad.good hE
   have HF0:Hid (qbj s ((mkL bs).length+s.es.length-0) 0 ys=qbj s ((mkL bs).length+s.es.length) 0 (mkL bs)):=by
    show _=_
    rw [hY.out,Nat.sub_zero]
   have hTl:(mkL bs).length<=20000:=by have:=HL0.out bs.length;omega
   obtain ⟨R0,hR0⟩:∃ R0,qbj s ((mkL bs).length+s.es.length) 0 (mkL bs)=R0:=⟨_,rfl⟩
   rw [hR0] at HFIN HF0
   obtain ⟨T,hT⟩:∃ T,(mkL bs).length+s.es.length=T:=⟨_,rfl⟩
   rw [hT] at HF0 hpot0
   have hT2:T<=200000:=by omega
   have HLB:Hid (qaa S' w s.ls [.slice Al s.ls.length cl]):=by
    obtain ⟨_,va,ua,e,h1,_⟩:=HX.out
    simp only [List.cons.injEq,and_true] at e
    obtain ⟨_,rfl,_⟩:=e
    exact h1
   clear hT hR0 hTl hY hk hLe
   go_wp2_with fail
   clear x0 xz hlt
   obtain ⟨w7,rfl⟩:∃ w7,w7=wr:=⟨_,rfl⟩
   go_loopw [6,8] (fun v6 vi wr=>∃ (k:Nat) (lk:List Int) (Ao:Option Addr) (co:Nat),k<=lk.length∧vi = .int .i64 k∧v6 = .slice Ao lk.length co∧Bt (fun q=>q=gm) W1 wr∧Hid (qab qac 1 3 W1.heap.size (fun _=>False) wr lk (.slice Ao lk.length co))∧Hid (RBs w.heap.size wr (marksOf bs.length lk) (.slice (some ⟨gm,0,none⟩) bs.length cm))∧Hid (∀ x∈lk,0<=x∧x<s.n)∧lk.length+qcv s lk<=T∧Hid (qbj s (T-k) k lk=R0)) (fun _ vi _=>T-(intOf vi).toNat)
   case atStart=>exact ⟨0,ys,Ao,co,Nat.zero_le _,rfl,rfl,hE.bt,hO.out,HMK0.out,HIN0.out,hpot0,HF0.out⟩
   case round =>
    clear hpot0 HIN0 HMK0 HF0 hE hO
    obtain ⟨k,lk,Ao,co,hk,rfl,rfl,hbt,hO,hMK,hIN,hpot,hf⟩:=hrel
    have hE7:Ext w wr:=Bt.new HE1.out hbt fun i _ hi=>by subst hi;exact HG.out
    have hbx:=HB1.out.bt hbt (fun h:p0=gm=>by omega)
    have x0:=hbx.cell 0 _
    have x1:=hbx.cell 1 _
    have x2:=hbx.cell 2 _
    have xz:=hbx.lt
    clear hbx
    by_cases hlt:k<lk.length
    ·obtain ⟨b,off,cs2,rfl,hb,hT',hl,hr,hcell⟩:=(hO.out.sl qac.good (by decide)).get k hlt
     obtain rfl:=hr.1
     have g0:=(by simpa using hcell.get 0 _:wr.cell? ⟨b,off+k,none⟩=some (.int .i64 lk[k]))
     have hin:=hIN.out lk[k] (List.getElem_mem hlt)
     have HGO:Hid (∀ m,T-k=m+1->qbj s m (k+1) (qbd s (qaw s.es lk[k]) lk)=R0):=fun m hm=>by
      rw [<- hf.out,hm,qbj,dif_pos hlt]
     obtain ⟨st,hst⟩:∃ st,lk[k]=st:=⟨_,rfl⟩
     rw [hst] at g0 hin HGO
     have hout:=fun W (hW:Ext wr W)=>OutOf_c S' s HSO.out _ st W (RSy.good.bel HX.out (hE7.trans' hW)) (by omega) (by omega) (by omega)
     rw [HSN.out] at hout
     have HEOK:Hid (∀ e∈qdr s.es st,qb8 s e=true):=fun e he=>by
      rw [qm1 HSO.out] at he
      obtain ⟨i,hi,rfl⟩:=List.getElem_of_mem (List.mem_filter.1 he).1
      exact hed.out i hi
     have HSTEP:=Hd (qwu s st HSO.out lk)
     have HALL:Hid ((qaw s.es st).take (qdr s.es st).length=qaw s.es st):=by
      show _=_
      rw [qqq HSO.out,List.length_map,List.take_length]
     obtain ⟨eo,heo⟩:∃ eo,qdr s.es st=eo:=⟨_,rfl⟩
     have hel2:eo.length<=100000:=by rw [<- heo,qm1 HSO.out];exact Nat.le_trans (List.length_filter_le _ _) hel
     rw [heo] at hout HEOK HSTEP HALL
     have HPOT:=Hd (qgz s (qaw s.es st) lk)
     obtain ⟨w6,rfl⟩:∃ w6,w6=wr:=⟨_,rfl⟩
     clear hcell hl hT' hr hst hf heo hin
     go_wp2_with fail
     go_region_held3 (fun W=>W.cell? ⟨p0,0,none⟩=some (.int .i64 (bs.length:Int))∧W.cell? ⟨p0,1,none⟩=some (.slice Al s.ls.length cl)∧W.cell? ⟨p0,2,none⟩=some (.slice Ae s.es.length ce)∧W.cell? ⟨b,off+k,none⟩=some (.int .i64 st))
      (first | (refine ⟨?_,?_,?_,?_⟩ <;> go_simp <;> done) | exact Ext.k4 hx1 (by assumption) | exact Ext.k4 (qaf.ext hx1) (by assumption) | exact Ext.k4 ((Ext.refl _).alloc _) (by assumption))
      (first | (go_at_call 226;refine (hout _ bel).mono ?_;rintro e w1 ⟨A1,c1,rfl,hRL,hx1⟩))
     go_wp2_with fail
     have hx6:Ext w6 w1:=Ext.trans' (Below.drew (Ext.refl _)) hx1
     have hbt1:=hbt.ext hx6
     have HO1:=Hd (hO.out.ext qac.good hx6)
     have HMK1:=Hd (hMK.out.ext qad.good hx6)
     have HRL:=Hd hRL
     clear hx1 hRL hbt hO hMK hE7 x0 x1 x2 xz g0 hb hout
     go_loopw [6,10] (fun v6 vj wr=>∃ (j:Nat) (ys:List Int) (Ao:Option Addr) (co:Nat),j<=eo.length∧vj = .int .i64 j∧v6 = .slice Ao ys.length co∧Hid (ys=qbd s ((qaw s.es st).take j) lk)∧Bt (fun q=>q=gm∨W1.heap.size<=q) w1 wr∧Hid (qab qac 1 3 W1.heap.size (fun _=>False) wr ys (.slice Ao ys.length co))∧Hid (RBs w.heap.size wr (marksOf bs.length ys) (.slice (some ⟨gm,0,none⟩) bs.length cm))∧Hid (∀ x∈ys,0<=x∧x<s.n)) (fun _ vj _=>eo.length-(intOf vj).toNat)
     case atStart=>exact ⟨0,lk,some ⟨b,off,none⟩,co,Nat.zero_le _,rfl,rfl,rfl,Bt.refl _ _,HO1.out,HMK1.out,hIN.out⟩
     case round =>
      obtain ⟨j,ys,Ao,co,hj,rfl,rfl,hY,hb3,hO,hMK,hIN3⟩:=hrel
      have hbt3:Bt (fun q=>q=gm) W1 wr:=((hbt1.mono (Z':=fun q=>q=gm∨W1.heap.size<=q) fun _ _ h=>.inl h).trans hb3).mono fun q hq hz=>hz.resolve_right (by omega)
      have hE3:Ext w wr:=Bt.new HE1.out hbt3 fun i _ hi=>by subst hi;exact HG.out
      have hbx:=HB1.out.bt hbt3 (fun h:p0=gm=>by omega)
      have x1:=hbx.cell 1 _
      have xz:=hbx.lt
      clear hbx
      have hgl:gm<wr.heap.size:=Nat.lt_of_lt_of_le hw1s hbt3.size
      by_cases hlj:j<eo.length
      ·have hRLw:RSl REd 3 S' wr eo [.slice A1 eo.length c1]:=(RSl.good REd.good).move HRL.out (hb3.kp fun q _ hq hz=>by
        have h1:=HS'.out q hq
        have h2:=HG.out
        have h2':w.heap.size<=gm:=h2
        have hz':q=gm∨W1.heap.size<=q:=hz
        omega)
       obtain ⟨be,oe,ce2,rfl,hbe,hTe,hle,hre,hce2⟩:=hRLw.get j hlj
       obtain ⟨_,_,_,rfl⟩:=id hre
       have e1:=hce2.get 1 _
       have e2:=hce2.get 2 _
       have hoke:=HEOK.out eo[j] (List.getElem_mem hlj)
       have hIN4:=qux hIN3.out hoke
       rw [qh5] at hoke
       obtain ⟨hst1,hst2,hst3⟩:=HSTEP.out j hlj
       have hcalm:qcx s ys eo[j]=if qhv s eo[j].l = -1∧eo[j].t∉ys then ys++[eo[j].t] else ys:=rfl
       obtain ⟨ca,hca⟩:∃ ca,qcx s ys eo[j]=ca:=⟨_,rfl⟩
       rw [<- hY.out,hca] at hst3
       rw [hca] at hcalm hIN4
       obtain ⟨ql,hql⟩:∃ q,eo[j].l=q:=⟨_,rfl⟩
       obtain ⟨qt,hqt⟩:∃ q,eo[j].t=q:=⟨_,rfl⟩
       rw [hql] at e1 hoke hcalm
       rw [hqt] at e2 hoke hcalm
       obtain ⟨li,rfl⟩:∃ li:Nat,ql=(li:Int):=⟨ql.toNat,by omega⟩
       obtain ⟨ti,rfl⟩:∃ ti:Nat,qt=(ti:Int):=⟨qt.toNat,by omega⟩
       have hli:li<s.ls.length:=by omega
       have hti:ti<bs.length:=by have:=HSN.out;omega
       rw [qpz s rfl hli] at hcalm
       obtain ⟨bl,ol,cl2,hAl,hbl,hTl,hll,hrl,hcl2⟩:=(qaa.good.bel HLB.out hE3).get li hli
       subst hAl
       obtain ⟨_,vl,rfl,hvl⟩:=id hrl
       have gl:=hcl2.get 0 _
       simp only [Nat.add_zero] at gl
       obtain ⟨ub,gc,hub,gf⟩:=qab.get1 hMK.out ti (by rw [qb2];exact hti)
       have hub':ub = .bool (decide ((ti:Int)∈ys)):=by
        have h:=hub
        rw [qep] at h
        simpa [qad] using h
       subst hub'
       have z1:(0:Int)<=(li:Int):=by omega
       have z2:(li:Int)<(s.ls.length:Int):=by omega
       have z3:(0:Int)<=(ti:Int):=by omega
       have z4:(ti:Int)<(bs.length:Int):=by omega
       have z5:(0:Int)<=(j:Int):=by omega
       have z6:(j:Int)<(eo.length:Int):=by omega
       obtain ⟨gg,hgg⟩:∃ gg,s.ls[li].g=gg:=⟨_,rfl⟩
       rw [hgg] at hcalm gl
       have hbg:be≠gm:=fun h=>by
        have h1:=HS'.out be hTe
        have h2:w.heap.size<=gm:=HG.out
        omega
       clear hRLw hre hce2 hle hTe hst1 hst2 hca hql hqt hoke hrl hcl2 hvl hll hTl hub hgg
       by_cases hgt:gg = -1
       ·have hb1:(gg == -1)=true:=beq_iff_eq.2 hgt
        by_cases hmem:(ti:Int)∈ys
        ·rw [decide_eq_true hmem] at gc
         rw [if_neg (fun h=>h.2 hmem)] at hcalm
         have HC:Hid (ys=qbd s ((qaw s.es st).take (j+1)) lk):=by show _=_;rw [hst3,hcalm]
         clear hst3 hcalm hmem hgt gf
         go_wp2_with fail
         (refine qax ?_;(repeat (first | go_big_quiet_step ((fail)) | quiet_step ((fail))));refine wpQuiet_nil ?_)
         intro w4 hx4
         go_wp2_with fail
         go_roundw
         case rel=>exact ⟨j+1,ys,Ao,co,hlj,by go_num,rfl,HC.out,hb3.ext hx4,hO.out.ext qac.good hx4,hMK.out.ext qad.good hx4,hIN3.out⟩
         case measure=>simp [intOf];omega
        ·rw [decide_eq_false hmem] at gc
         rw [if_pos ⟨hgt,hmem⟩] at hcalm
         have HC:Hid (ys++[(ti:Int)]=qbd s ((qaw s.es st).take (j+1)) lk):=by show _=_;rw [hst3,hcalm]
         have HI4:Hid (∀ x∈ys++[(ti:Int)],0<=x∧x<s.n):=by rw [hcalm] at hIN4;exact hIN4
         clear hst3 hcalm hmem hgt hIN4
         go_wp2_with fail
         (refine qax ?_;(repeat (first | go_big_quiet_step ((fail)) | quiet_step ((fail))));refine wpQuiet_nil ?_)
         intro w4 hx4
         obtain ⟨ub4,gc4,hub4,gf4⟩:=qab.get1 (hMK.out.ext qad.good hx4) ti (by rw [qb2];exact hti)
         have e24:=Ext.keep hx4 e2
         have hbe4:be<w4.heap.size:=Nat.lt_of_lt_of_le hbe hx4.size
         have hgl4:gm<w4.heap.size:=Nat.lt_of_lt_of_le hgl hx4.size
         have HSETM:=Hd (qab.put1 qad.good (hMK.out.ext qad.good hx4) (qb2 _ _).symm ti (.bool true) true (by rw [qb2];exact hti) rfl)
         have hbs:Bt (fun q=>q=gm) w4 (w4.setCell ⟨gm,ti,none⟩ (.bool true)):=Bt.set (Z:=fun q=>q=gm) (Bt.refl _ w4) (p:=⟨gm,ti,none⟩) (.inr rfl) _
         have HO5:=Hd ((hO.out.ext qac.good hx4).bt qac.good hbs fun q hq hz=>⟨fun h=>h,fun e=>by
          have h:=((hO.out.ext qac.good hx4).own_lt e).1
          have hz':q=gm:=hz
          omega⟩)
         have e25:=hbs.cell e24 (fun h:be=gm=>hbg h)
         have hbe5:be<(w4.setCell ⟨gm,ti,none⟩ (.bool true)).heap.size:=Nat.lt_of_lt_of_le hbe4 hbs.size
         have HBS:=Hd ((hb3.ext hx4).trans (hbs.mono (Z':=fun q=>q=gm∨W1.heap.size<=q) fun q _ (h:q=gm)=>Or.inl h))
         clear e2 gc gf gl e1 hub4 x1
         go_upto_region 17 with (fail)
         obtain ⟨W5,hW5⟩:∃ W5,w4.setCell ⟨gm,ti,none⟩ (.bool true)=W5:=⟨_,rfl⟩
         rw [hW5] at HSETM HO5 e25 HBS hbe5
         rw [hW5]
         clear hW5 hbs gc4 gf4 e24
         rw [qjl] at HSETM
         have hyl:ys.length<=1000000:=by
          have h:=(qgz s ((qaw s.es st).take j) lk).1
          rw [<- hY.out] at h
          omega
         have hs5:W1.heap.size<=W5.heap.size:=Nat.le_trans hbt1.size HBS.out.size
         obtain ⟨g2,c2,w2,hr2,ho2,hb4,hg2,_⟩:=qct qac.good (by decide) W1.heap.size 3 53 (.int .i64 0) 8 Tryz.underlying53 qgg rfl (by decide) (fun _=>False) W5 ys (.slice Ao ys.length co) (ti:Int) [.int .i64 ti] HO5.out ⟨rfl,by unfold I64;omega⟩ hs5 hyl
         have HO2:=Hd ho2
         have HB5:=Hd (hb4.mono (Z':=fun q=>(Value.slice Ao ys.length co).ownBlock=some q) fun _ _ h=>h)
         have HOL:Hid (∀ q,(Value.slice Ao ys.length co).ownBlock=some q->W1.heap.size<=q):=fun q e=>(HO5.out.own_lt e).1
         clear ho2 hb4 hg2 hO hMK hY
         go_wp2_with (at_builtin;refine wpList_append_run rfl _ _ _ rfl _ _ _ rfl rfl hr2 ?_;clear hr2)
         go_roundw
         case rel =>
          refine ⟨j+1,ys++[(ti:Int)],some ⟨g2,0,none⟩,c2,hlj,by go_num,by simp,HC.out,?_,(by have h:=HO2.out;show qab _ _ _ _ _ _ _ _;simpa using h),?_,HI4.out⟩
          ·exact HBS.out.trans (HB5.out.mono fun q _ h=>.inr (HOL.out q h))
          ·exact qfn HSETM.out HB5.out fun q e e'=>by
            have h1:gm=q:=by
             have h:some gm=some q:=e
             injection h
            have h2:=HOL.out q e'
            omega
         case measure=>simp [intOf];omega
       ·have hb1:(gg == -1)=false:=beq_eq_false_iff_ne.2 hgt
        rw [if_neg (fun h=>hgt h.1)] at hcalm
        have HC:Hid (ys=qbd s ((qaw s.es st).take (j+1)) lk):=by show _=_;rw [hst3,hcalm]
        clear hst3 hcalm hgt gf gc
        go_wp2_with fail
        (refine qax ?_;(repeat (first | go_big_quiet_step ((fail)) | quiet_step ((fail))));refine wpQuiet_nil ?_)
        intro w4 hx4
        go_wp2_with fail
        go_roundw
        case rel=>exact ⟨j+1,ys,Ao,co,hlj,by go_num,rfl,HC.out,hb3.ext hx4,hO.out.ext qac.good hx4,hMK.out.ext qad.good hx4,hIN3.out⟩
        case measure=>simp [intOf];omega
      ·obtain rfl:j=eo.length:=by omega
       have HYY:Hid (ys=qbd s (qaw s.es st) lk):=by
        show _=_
        rw [hY.out,HALL.out]
       have hpo:ys.length+qcv s ys<=T∧lk.length<=ys.length:=by
        have h:=HPOT.out
        rw [<- HYY.out] at h
        omega
       clear hY
       go_wp2_with fail
       go_roundw
       case rel =>
        refine ⟨k+1,ys,Ao,co,by omega,by go_num,rfl,hbt3,hO.out,hMK.out,hIN3.out,hpo.1,?_⟩
        obtain ⟨m,hm⟩:∃ m,T-k=m+1:=⟨T-k-1,by omega⟩
        have h:=HGO.out m hm
        rw [<- HYY.out] at h
        rw [show T-(k+1)=m from by omega]
        exact h
       case measure=>simp [intOf];omega
    ·have HR:Hid (qc1 s bs=marksOf bs.length lk):=by
      show _=_
      have h:=hf.out
      rw [HFIN.out,<- h]
      cases hq:T-k with
      | zero=>rw [qbj]
      | succ m=>rw [qbj,dif_neg hlt]
     go_wp2_with fail
     go_ret
     exact ⟨some ⟨gm,0,none⟩,cm,rfl,by rw [HR.out];exact hMK.out,hE7⟩
end
section
open Go.Shelf
def bs0 (n:Nat):List Bool:=(List.replicate n false).set 0 true
theorem bs0_len (n:Nat):(bs0 n).length=n:=by simp [bs0]
set_option maxHeartbeats 4000000 in
set_option maxRecDepth 100000 in
theorem qn0 (S:Nat->Prop) (s:Sy) (hok:qah s) (cs:List Value) (n:Nat) (hn:s.n=(n:Int)) (w:World) (hx:RSy S w s cs) :
  Calls Tryz.prog 89 #[.agg cs.toArray] w (qi6 n (qc1 s (bs0 n)) w):=by
 have hn0:0<n:=by have:=hok.1;omega
 have hn1:n<=20000:=by have:=hok.2.1;omega
 have hcl:=fun W (hW:Ext w W) v (hv:RSl qad 1 (fun _=>True) W (bs0 n) [v])=>qpi (fun _=>True) s hok cs (bs0 n) v W (RSy.good.bel (RSy.good.mono hx fun _ _ _=>trivial) hW) hv (by rw [bs0_len,hn])
 obtain ⟨_,v1,u1,rfl,hv,hu⟩:=id hx
 obtain ⟨Al,cl,rfl,hcl1,hcl0⟩:=hv.val
 obtain ⟨Ae,ce,rfl,hce,hce0⟩:=hu.val
 clear hx hv hu
 rw [hn] at hcl ⊢
 rw [bs0_len] at hcl
 obtain ⟨W0,hW0⟩:∃ W0,w.alloc (.cells #[.int .i64 (n:Int),.slice Al s.ls.length cl,.slice Ae s.es.length ce] 25)=W0:=⟨_,rfl⟩
 have hE0:Ext w W0:=by rw [<- hW0];exact (Ext.refl w).alloc _
 have hB0:qag W0 w.heap.size 25 [.int .i64 (n:Int),.slice Al s.ls.length cl,.slice Ae s.es.length ce]:=by rw [<- hW0];exact qag.new w 25 _
 have hz0:W0.heap.size=w.heap.size+1:=by rw [<- hW0,World.size_alloc]
 have hrow:=qho W0 W0.heap.size n (Nat.le_refl _) (by omega)
 have hmk:=qim W0 n (by omega)
 obtain ⟨W1,hW1⟩:∃ W1,W0.alloc (.cells (Array.replicate n (.bool false)) 4)=W1:=⟨_,rfl⟩
 rw [hW1] at hrow hmk
 have hE1:Ext W0 W1:=by rw [<- hW1];exact (Ext.refl _).alloc _
 have hB1:=hB0.ext hE1
 have hz1:W1.heap.size=w.heap.size+2:=by rw [<- hW1,World.size_alloc,hz0]
 rw [hz0] at hrow hmk
 have hset:=qab.put1 qad.good hrow (by simp) 0 (.bool true) true (by simpa using hn0) rfl
 obtain ⟨_,gc,_,gf⟩:=qab.get1 hrow 0 (by simpa using hn0)
 have hbs:Bt (fun q=>q=w.heap.size+1) W1 (W1.setCell ⟨w.heap.size+1,0,none⟩ (.bool true)):=Bt.set (Z:=fun q=>q=w.heap.size+1) (Bt.refl _ W1) (p:=⟨w.heap.size+1,0,none⟩) (.inr rfl) _
 have hB2:=hB1.bt hbs (by omega)
 have hE2:Ext w (W1.setCell ⟨w.heap.size+1,0,none⟩ (.bool true)):=Bt.new (hE0.trans' hE1) hbs fun i _ hi=>by
  have h:i=w.heap.size+1:=hi
  omega
 have HROW:=Hd hset
 have HE2:=Hd hE2
 have HCL:=Hd (hcl _ hE2 _ ((RSl.good qad.good).mono (hset.sl qad.good (by decide)) fun _ _ _=>trivial))
 have HW0:=Hd hW0
 have x1:=hB0.cell 0 _
 have xz:=hB0.lt
 have y1:=hB1.lt
 have c0:=hB2.cell 0 _
 have c1:=hB2.cell 1 _
 have c2:=hB2.cell 2 _
 have cz:=hB2.lt
 have zn:(0:Int)<(n:Int):=by omega
 clear hB0 hB1 hB2 hbs hE2 hE0 hE1 hrow hset hcl hW0 hW1 hz0 hz1
 go_enter Tryz.func89,Tryz.ntmps89
 go_upto_region 1 with (fail)
 rw [HW0.out]
 go_wp2_with fail
 obtain ⟨W2,hW2⟩:∃ W2,W1.setCell ⟨w.heap.size+1,0,none⟩ (.bool true)=W2:=⟨_,rfl⟩
 rw [hW2] at HCL HE2 c0 c1 c2 cz
 rw [hW2]
 go_wp2_with fail
 refine HCL.out.mono ?_
 rintro e w3 ⟨A,c,rfl,h1,h2⟩
 go_wp2_with fail
 go_ret
 exact ⟨A,c,rfl,h1.base HE2.out.size,HE2.out.trans' h2⟩
end
section
open Go.Shelf
def mvB (s:Sy) (x:Lb) (bs:List Bool) (e:Ed):Bool:=qcy bs e.f.toNat && (match s.ls[e.l.toNat]? with | some y=>qcz y x | none=>false)
def mvL (s:Sy) (x:Lb) (bs:List Bool) (k:Nat):List Int:=((s.es.take k).filter (mvB s x bs)).map (·.t)
theorem mvL_succ (s:Sy) (x:Lb) (bs:List Bool) {k:Nat} (h:k<s.es.length):mvL s x bs (k+1)=if mvB s x bs s.es[k]=true then mvL s x bs k++[s.es[k].t] else mvL s x bs k:=by
 unfold mvL
 rw [List.take_succ_eq_append_getElem h,List.filter_append,List.map_append,List.filter_cons]
 split <;> simp
theorem qlj (n:Nat):marksOf n []=List.replicate n false:=by
 apply List.ext_getElem
 ·simp [marksOf]
 ·intro i h1 h2
  rw [qep h1]
  simp
set_option maxHeartbeats 8000000 in
set_option maxRecDepth 100000 in
theorem qot (S:Nat->Prop) (s:Sy) (hok:qah s) (cs:List Value) (n:Nat) (hn:s.n=(n:Int)) (bs:List Bool) (hbl:bs.length=n) (v:Value) (x:Lb) (cx:List Value) (w:World) (hx:RSy S w s cs) (hm:RSl qad 1 S w bs [v]) (hlx:RLb S w x cx) :
  Calls Tryz.prog 91 #[.agg cs.toArray,v,.agg cx.toArray] w (qi6 n (qc1 s (marksOf n (mvL s x bs s.es.length))) w):=by
 have hn0:0<n:=by have:=hok.1;omega
 have hn1:n<=20000:=by have:=hok.2.1;omega
 have hel:=hok.2.2.2.1
 have hed:Hid (∀ j,(h:j<s.es.length)->qb8 s s.es[j]=true):=fun j h=>(hok.2.2.2.2.2 j h).1
 have HX:=Hd hx
 have HM:=Hd hm
 have HLX:=Hd hlx
 have HCL:=Hd (fun W (hW:Ext w W) u (hu:RSl qad 1 (fun _=>True) W (marksOf n (mvL s x bs s.es.length)) [u])=>qpi (fun _=>True) s hok cs (marksOf n (mvL s x bs s.es.length)) u W (RSy.good.bel (RSy.good.mono hx fun _ _ _=>trivial) hW) hu (by rw [qb2,hn]))
 obtain ⟨_,v1,u1,rfl,hv,hu⟩:=id hx
 obtain ⟨Al,cl,rfl,hcl1,hcl0⟩:=hv.val
 obtain ⟨Ae,ce,rfl,hce,hce0⟩:=hu.val
 obtain ⟨Ab,cb,rfl,hcb,hcb0⟩:=hm.val
 obtain ⟨_,vx,rfl,hvx⟩:=id hlx
 have HLB:=Hd hv
 have HEB:=Hd hu
 have HN:=Hd hn
 clear hx hv hu hm hlx hvx
 rw [hn,hbl]
 rw [hbl] at hcb
 have HBL:=Hd hbl
 obtain ⟨gx,hgx⟩:∃ gx,x.g=gx:=⟨_,rfl⟩
 rw [hgx]
 rw [hgx] at HLX
 clear hn hbl hgx
 obtain ⟨Wa,hWa⟩:∃ Wa,w.alloc (.cells #[.int .i64 (n:Int),.slice Al s.ls.length cl,.slice Ae s.es.length ce] 25)=Wa:=⟨_,rfl⟩
 have hBa:qag Wa w.heap.size 25 [.int .i64 (n:Int),.slice Al s.ls.length cl,.slice Ae s.es.length ce]:=by rw [<- hWa];exact qag.new w 25 _
 have hza:Wa.heap.size=w.heap.size+1:=by rw [<- hWa,World.size_alloc]
 have hEa:Ext w Wa:=by rw [<- hWa];exact (Ext.refl w).alloc _
 obtain ⟨W0,hW0⟩:∃ W0,Wa.alloc (.cells #[.int .i64 gx,vx] 61)=W0:=⟨_,rfl⟩
 have hBx:qag W0 (w.heap.size+1) 61 [.int .i64 gx,vx]:=by rw [<- hW0,<- hza];exact qag.new Wa 61 _
 have hE0:Ext Wa W0:=by rw [<- hW0];exact (Ext.refl Wa).alloc _
 have hz0:W0.heap.size=w.heap.size+2:=by rw [<- hW0,World.size_alloc,hza]
 have hrow:=qho W0 W0.heap.size n (Nat.le_refl _) (by omega)
 have hmk:=qim W0 n (by omega)
 obtain ⟨W1,hW1⟩:∃ W1,W0.alloc (.cells (Array.replicate n (.bool false)) 4)=W1:=⟨_,rfl⟩
 rw [hW1] at hrow hmk
 have hE1:Ext W0 W1:=by rw [<- hW1];exact (Ext.refl _).alloc _
 have hB1:=(hBa.ext hE0).ext hE1
 have hB2:=hBx.ext hE1
 have hz1:W1.heap.size=w.heap.size+3:=by rw [<- hW1,World.size_alloc,hz0]
 rw [hz0] at hrow hmk
 have HE1:=Hd ((hEa.trans' hE0).trans' hE1)
 have HB1:=Hd hB1
 have HB2:=Hd hB2
 have HROW:Hid (RBs w.heap.size W1 (marksOf n (mvL s x bs 0)) (.slice (some ⟨w.heap.size+2,0,none⟩) n n)):=by
  show RBs _ _ _ _
  rw [mvL,List.take_zero,List.filter_nil,List.map_nil,qlj]
  exact hrow.base (by omega)
 obtain ⟨gm,hgm⟩:∃ gm,w.heap.size+2=gm:=⟨_,rfl⟩
 have x0:=(hBa.ext hE0).cell 0 _
 have xz:=(hBa.ext hE0).lt
 rw [hgm] at HROW hmk
 have hg1:gm<W1.heap.size:=by omega
 have HG:Hid (w.heap.size<=gm):=by show _<=_;omega
 have HWa:=Hd hWa
 have HW0:=Hd hW0
 have hgp:w.heap.size≠gm:=by omega
 have hgp2:w.heap.size+1≠gm:=by omega
 clear hB1 hB2 hBa hBx hEa hE0 hE1 hrow hW1 hWa hW0 hza hz0 hz1 hgm
 go_enter Tryz.func91,Tryz.ntmps91
 go_upto_region 1 with (fail)
 rw [HWa.out,HW0.out]
 go_wp2_with fail
 go_loopw [8] (fun vi wr=>∃ k:Nat,k<=s.es.length∧vi = .int .i64 k∧Bt (fun q=>q=gm) W1 wr∧Hid (RBs w.heap.size wr (marksOf n (mvL s x bs k)) (.slice (some ⟨gm,0,none⟩) n n))) (fun vi _=>s.es.length-(intOf vi).toNat)
 case atStart=>exact ⟨0,Nat.zero_le _,rfl,Bt.refl _ _,HROW.out⟩
 case round =>
  clear x0 xz
  obtain ⟨k,hk,rfl,hbt,hMK⟩:=hrel
  have hE:Ext w wr:=Bt.new HE1.out hbt fun i _ hi=>by subst hi;exact HG.out
  have hb1:=HB1.out.bt hbt hgp
  have hb2:=HB2.out.bt hbt hgp2
  have x0:=hb1.cell 0 _
  have x1:=hb1.cell 1 _
  have x2:=hb1.cell 2 _
  have y0:=hb2.cell 0 _
  have y1:=hb2.cell 1 _
  have xz:=hb1.lt
  have yz:=hb2.lt
  have hgl:gm<wr.heap.size:=Nat.lt_of_lt_of_le hg1 hbt.size
  clear hb1 hb2
  have hX2:∀ (o:Obj) (y:World),Ext wr (qam (wr.alloc o) y):=fun o y=>((Ext.refl wr).alloc o).trans' (qbg _ y)
  by_cases hlt:k<s.es.length
  ·obtain ⟨b,off,cs2,rfl,hb,hS,hl,hr,hcell⟩:=(qcj.good.bel HEB.out hE).get k hlt
   obtain ⟨_,_,_,rfl⟩:=id hr
   have g0:=hcell.get 0 _
   have g1:=hcell.get 1 _
   have g2:=hcell.get 2 _
   simp only [Nat.add_zero] at g0
   have hoke:=hed.out k hlt
   have hst:=mvL_succ s x bs hlt
   have hmv:mvB s x bs s.es[k]=(qcy bs s.es[k].f.toNat && (match s.ls[s.es[k].l.toNat]? with | some y=>qcz y x | none=>false)):=rfl
   rw [qh5] at hoke
   obtain ⟨qf,hq⟩:∃ q,s.es[k].f=q:=⟨_,rfl⟩;rw [hq] at hoke g0 hmv;clear hq
   obtain ⟨ql,hq⟩:∃ q,s.es[k].l=q:=⟨_,rfl⟩;rw [hq] at hoke g1 hmv;clear hq
   obtain ⟨qt,hq⟩:∃ q,s.es[k].t=q:=⟨_,rfl⟩;rw [hq] at hoke g2 hst;clear hq
   obtain ⟨fi,rfl⟩:∃ fi:Nat,qf=(fi:Int):=⟨qf.toNat,by omega⟩
   obtain ⟨li,rfl⟩:∃ li:Nat,ql=(li:Int):=⟨ql.toNat,by omega⟩
   obtain ⟨ti,rfl⟩:∃ ti:Nat,qt=(ti:Int):=⟨qt.toNat,by omega⟩
   have hN:=HN.out
   have hBLo:=HBL.out
   have hli:li<s.ls.length:=by omega
   have hfi:fi<bs.length:=by omega
   have hti:ti<n:=by omega
   rw [Int.toNat_natCast,Int.toNat_natCast,List.getElem?_eq_getElem hli,qd1 hfi] at hmv
   obtain ⟨bb,ob,cb2,hAb,hbb,_,_,hrb,hcb2⟩:=((RSl.good qad.good).bel HM.out hE).get fi hfi
   subst hAb
   obtain rfl:cb2=[.bool bs[fi]]:=hrb
   have d0:=hcb2.get 0 _
   simp only [Nat.add_zero,Nat.mul_one] at d0
   obtain ⟨bl,ol,cl2,hAl,hbl,_,_,hrl,hcl2⟩:=(qaa.good.bel HLB.out hE).get li hli
   subst hAl
   have hsame:=fun W (hW:Ext wr W)=>qnd S _ x _ _ W (RLb.good.bel hrl hW) (RLb.good.bel HLX.out (hE.trans' hW))
   obtain ⟨_,vl,rfl,hvl⟩:=id hrl
   have l0:=hcl2.get 0 _
   have l1:=hcl2.get 1 _
   simp only [Nat.add_zero] at l0
   have z1:(0:Int)<=(li:Int):=by omega
   have z2:(li:Int)<(s.ls.length:Int):=by omega
   have z3:(0:Int)<=(fi:Int):=by omega
   have z4:(fi:Int)<(n:Int):=by omega
   have z5:(0:Int)<=(ti:Int):=by omega
   have z6:(ti:Int)<(n:Int):=by omega
   have z7:(0:Int)<=(k:Int):=by omega
   have z8:(k:Int)<(s.es.length:Int):=by omega
   have hkl:k+1<=s.es.length:=hlt
   simp only at hmv
   obtain ⟨bf,hbf⟩:∃ bf,bs[fi]=bf:=⟨_,rfl⟩
   rw [hbf] at hmv d0
   obtain ⟨bt,hbt2⟩:∃ bt,qcz s.ls[li] x=bt:=⟨_,rfl⟩
   rw [hbt2] at hmv hsame
   rw [hmv] at hst
   clear hr hcell hS hl hoke hmv hN hBLo hcb2 hcl2 hrl hvl hbf hbt2
   cases bf
   ·have HC:Hid (mvL s x bs (k+1)=mvL s x bs k):=by show _=_;rw [hst];rfl
    clear hst hsame
    go_wp2_with fail
    (refine qax ?_;(repeat (first | go_big_quiet_step ((fail)) | quiet_step ((fail))));refine wpQuiet_nil ?_)
    intro w4 hx4
    go_wp2_with fail
    go_roundw
    case rel=>exact ⟨k+1,hkl,by go_num,hbt.ext (Ext.trans' ((Ext.refl wr).alloc _) hx4),by rw [HC.out];exact hMK.out.ext qad.good (Ext.trans' ((Ext.refl wr).alloc _) hx4)⟩
    case measure=>simp [intOf];omega
   ·cases bt
    ·have HC:Hid (mvL s x bs (k+1)=mvL s x bs k):=by show _=_;rw [hst];rfl
     clear hst
     go_wp2_with fail
     (refine qax ?_;(repeat (first | go_big_quiet_step ((go_at_call 133;exact qav (hsame _ (hX2 _ _)))) | quiet_step ((go_at_call 133;exact qav (hsame _ (hX2 _ _))))));refine wpQuiet_nil ?_)
     intro w4 hx4
     go_wp2_with fail
     go_roundw
     case rel=>exact ⟨k+1,hkl,by go_num,hbt.ext (Ext.trans' ((Ext.refl wr).alloc _) hx4),by rw [HC.out];exact hMK.out.ext qad.good (Ext.trans' ((Ext.refl wr).alloc _) hx4)⟩
     case measure=>simp [intOf];omega
    ·have HC:Hid (mvL s x bs (k+1)=mvL s x bs k++[(ti:Int)]):=by show _=_;rw [hst];rfl
     clear hst
     go_wp2_with fail
     (refine qax ?_;(repeat (first | go_big_quiet_step ((go_at_call 133;exact qav (hsame _ (hX2 _ _)))) | quiet_step ((go_at_call 133;exact qav (hsame _ (hX2 _ _))))));refine wpQuiet_nil ?_)
     intro w4 hx4
     have hX4:Ext wr w4:=Ext.trans' ((Ext.refl wr).alloc _) hx4
     have hMK4:=hMK.out.ext qad.good hX4
     obtain ⟨ub4,gc4,hub4,gf4⟩:=qab.get1 hMK4 ti (by rw [qb2];exact hti)
     have hset:=qab.put1 qad.good hMK4 (qb2 _ _).symm ti (.bool true) true (by rw [qb2];exact hti) rfl
     have HB6:Hid (Bt (fun q=>q=gm) W1 (w4.setCell ⟨gm,ti,none⟩ (.bool true))):=Bt.set (Z:=fun q=>q=gm) (hbt.ext hX4) (p:=⟨gm,ti,none⟩) (.inr rfl) _
     have t4:=Ext.keep hx4 (show (wr.alloc (.cells #[.int .i64 (fi:Int),.int .i64 (li:Int),.int .i64 (ti:Int)] 88)).cell? ⟨wr.heap.size,2,none⟩=some (.int .i64 (ti:Int)) from (qag.new wr 88 [.int .i64 (fi:Int),.int .i64 (li:Int),.int .i64 (ti:Int)]).cell 2 _)
     have tz:wr.heap.size<w4.heap.size:=by have:=hx4.size;rw [World.size_alloc] at this;omega
     have hgl4:gm<w4.heap.size:=Nat.lt_of_lt_of_le hgl hX4.size
     rw [qjl,<- HC.out] at hset
     have HSET:=Hd hset
     clear hset hMK4 hub4 hMK hsame
     go_wp2_with fail
     go_roundw
     case rel=>exact ⟨k+1,hkl,by go_num,HB6.out,HSET.out⟩
     case measure=>simp [intOf];omega
  ·obtain rfl:k=s.es.length:=by omega
   have hcon:=HCL.out wr hE _ ((RSl.good qad.good).mono (hMK.out.sl qad.good (by decide)) fun _ _ _=>trivial)
   rw [qb2,HN.out] at hcon
   go_wp2_with fail
   refine hcon.mono ?_
   rintro e w3 ⟨A,c,rfl,h1,h2⟩
   go_wp2_with fail
   go_ret
   exact ⟨A,c,rfl,h1.base hE.size,hE.trans' h2⟩
end
section
open Go.Shelf
theorem qod (s:Sy) (bs:List Bool) (n:Nat) (hn:s.n=(n:Int)):(qc1 s bs).length=n:=by
 rw [qc1,qb2,hn,Int.toNat_natCast]
def mvM (s:Sy) (n:Nat) (bs:List Bool) (x:Lb):List Bool:=qc1 s (marksOf n (mvL s x bs s.es.length))
def qa2 (s:Sy) (n:Nat) (tr:List Lb):List Bool:=tr.foldl (mvM s n) (qc1 s (bs0 n))
theorem qpf (s:Sy) (n:Nat) (tr:List Lb) (x:Lb):qa2 s n (tr++[x])=mvM s n (qa2 s n tr) x:=by simp [qa2]
theorem qjd (s:Sy) (n:Nat) (hn:s.n=(n:Int)) (tr:List Lb):(qa2 s n tr).length=n:=by
 rcases List.eq_nil_or_concat tr with rfl | ⟨l,x,rfl⟩
 ·exact qod s _ n hn
 ·rw [List.concat_eq_append,qpf]
  exact qod s _ n hn
end
section
open Go.Shelf
def acB (s:Sy) (bs:List Bool) (e:Ed):Bool:=qcy bs e.f.toNat && (match s.ls[e.l.toNat]? with | some y=>qa3 y.g | none=>false)
def acX (s:Sy) (bs:List Bool) (k:Nat):List Int:=((s.es.take k).filter (acB s bs)).map (·.l)
theorem acX_succ (s:Sy) (bs:List Bool) {k:Nat} (h:k<s.es.length):acX s bs (k+1)=if acB s bs s.es[k]=true then acX s bs k++[s.es[k].l] else acX s bs k:=by
 unfold acX
 rw [List.take_succ_eq_append_getElem h,List.filter_append,List.map_append,List.filter_cons]
 split <;> simp
def qex (s:Sy) (n st:Nat):List Bool:=marksOf s.ls.length (acX s (qc1 s ((List.replicate n false).set st true)) s.es.length)
theorem qhp (s:Sy) (n st:Nat):(qex s n st).length=s.ls.length:=qb2 _ _
set_option maxHeartbeats 8000000 in
set_option maxRecDepth 100000 in
theorem qt5 (S:Nat->Prop) (s:Sy) (hok:qah s) (cs:List Value) (n st:Nat) (hn:s.n=(n:Int)) (hst:st<n) (w:World) (hx:RSy S w s cs) :
  Calls Tryz.prog 156 #[.agg cs.toArray,.int .i64 (st:Int)] w (qi6 s.ls.length (qex s n st) w):=by
 have hn1:n<=20000:=by have:=hok.2.1;omega
 have hll:=hok.2.2.1
 have hel:=hok.2.2.2.1
 have hed:Hid (∀ j,(h:j<s.es.length)->qb8 s s.es[j]=true):=fun j h=>(hok.2.2.2.2.2 j h).1
 obtain ⟨B0,hB0⟩:∃ B0,(List.replicate n false).set st true=B0:=⟨_,rfl⟩
 have hB0l:B0.length=n:=by rw [<- hB0];simp
 have hcl:=fun W (hW:Ext w W) v (hv:RSl qad 1 (fun _=>True) W B0 [v])=>qpi (fun _=>True) s hok cs B0 v W (RSy.good.bel (RSy.good.mono hx fun _ _ _=>trivial) hW) hv (by rw [hB0l,hn])
 have HVAL:Hid (qex s n st=marksOf s.ls.length (acX s (qc1 s B0) s.es.length)):=by show _=_;rw [qex,hB0]
 have HBL:Hid ((qc1 s B0).length=n):=qod s B0 n hn
 obtain ⟨BS,hBS⟩:∃ BS,qc1 s B0=BS:=⟨_,rfl⟩
 rw [hBS] at hcl HVAL HBL
 rw [hB0l] at hcl
 obtain ⟨_,v1,u1,rfl,hv,hu⟩:=id hx
 obtain ⟨Al,cl,rfl,hcl1,hcl0⟩:=hv.val
 obtain ⟨Ae,ce,rfl,hce,hce0⟩:=hu.val
 have HLB:=Hd hv
 have HEB:=Hd hu
 have HN:=Hd hn
 rw [hn] at hcl ⊢
 clear hx hv hu hn hok hBS hB0l
 obtain ⟨W0,hW0⟩:∃ W0,w.alloc (.cells #[.int .i64 (n:Int),.slice Al s.ls.length cl,.slice Ae s.es.length ce] 25)=W0:=⟨_,rfl⟩
 have hE0:Ext w W0:=by rw [<- hW0];exact (Ext.refl w).alloc _
 have hb0:qag W0 w.heap.size 25 [.int .i64 (n:Int),.slice Al s.ls.length cl,.slice Ae s.es.length ce]:=by rw [<- hW0];exact qag.new w 25 _
 have hz0:W0.heap.size=w.heap.size+1:=by rw [<- hW0,World.size_alloc]
 have hrow:=qho W0 W0.heap.size n (Nat.le_refl _) (by omega)
 have hmk:=qim W0 n (by omega)
 obtain ⟨W1,hW1⟩:∃ W1,W0.alloc (.cells (Array.replicate n (.bool false)) 4)=W1:=⟨_,rfl⟩
 rw [hW1] at hrow hmk
 have hE1:Ext W0 W1:=by rw [<- hW1];exact (Ext.refl _).alloc _
 have hb1:=hb0.ext hE1
 have hz1:W1.heap.size=w.heap.size+2:=by rw [<- hW1,World.size_alloc,hz0]
 rw [hz0] at hrow hmk
 have hset:=qab.put1 qad.good hrow (by simp) st (.bool true) true (by simpa using hst) rfl
 rw [hB0] at hset
 obtain ⟨_,gc,_,gf⟩:=qab.get1 hrow st (by simpa using hst)
 have hbs:Bt (fun q=>q=w.heap.size+1) W1 (W1.setCell ⟨w.heap.size+1,st,none⟩ (.bool true)):=Bt.set (Z:=fun q=>q=w.heap.size+1) (Bt.refl _ W1) (p:=⟨w.heap.size+1,st,none⟩) (.inr rfl) _
 have hb2:=hb1.bt hbs (by omega)
 have hE2:Ext w (W1.setCell ⟨w.heap.size+1,st,none⟩ (.bool true)):=Bt.new (hE0.trans' hE1) hbs fun i _ hi=>by
  have h:i=w.heap.size+1:=hi
  omega
 have HE2:=Hd hE2
 have HCL:=Hd (hcl _ hE2 _ ((RSl.good qad.good).mono (hset.sl qad.good (by decide)) fun _ _ _=>trivial))
 have HB2:=Hd hb2
 have HW0:=Hd hW0
 have x1:=hb0.cell 0 _
 have xz:=hb0.lt
 have y1:=hb1.lt
 have c0:=hb2.cell 0 _
 have c1:=hb2.cell 1 _
 have c2:=hb2.cell 2 _
 have cz:=hb2.lt
 have zn:(0:Int)<=(st:Int):=by omega
 have zn2:(st:Int)<(n:Int):=by omega
 clear hb0 hb1 hb2 hbs hE2 hE0 hE1 hrow hset hcl hW0 hW1 hz0 hz1 hB0
 go_enter Tryz.func156,Tryz.ntmps156
 go_upto_region 1 with (fail)
 rw [HW0.out]
 go_wp2_with fail
 obtain ⟨W2,hW2⟩:∃ W2,W1.setCell ⟨w.heap.size+1,st,none⟩ (.bool true)=W2:=⟨_,rfl⟩
 rw [hW2] at HCL HE2 HB2 c0 c1 c2 cz
 rw [hW2]
 go_wp2_with fail
 refine HCL.out.mono ?_
 rintro e w3 ⟨A,c,rfl,h1,h2⟩
 have HE3:Hid (Ext w w3):=HE2.out.trans' h2
 have hb3:=HB2.out.ext h2
 have HM:Hid (RSl qad 1 (fun _=>True) w3 BS [.slice A n c]):=(RSl.good qad.good).mono (h1.sl qad.good (by decide)) fun _ _ _=>trivial
 obtain ⟨m,hm⟩:∃ m,s.ls.length=m:=⟨_,rfl⟩
 rw [hm] at HVAL hll HB2 c1 hb3
 have hrow:=qho w3 w.heap.size m HE3.out.size (by omega)
 have hmk:=qim w3 m (by omega)
 obtain ⟨W4,hW4⟩:∃ W4,w3.alloc (.cells (Array.replicate m (.bool false)) 4)=W4:=⟨_,rfl⟩
 rw [hW4] at hrow hmk
 have hE4:Ext w3 W4:=by rw [<- hW4];exact (Ext.refl _).alloc _
 have HROW:Hid (RBs w.heap.size W4 (marksOf m (acX s BS 0)) (.slice (some ⟨w3.heap.size,0,none⟩) m m)):=by
  show RBs _ _ _ _
  rw [acX,List.take_zero,List.filter_nil,List.map_nil,qlj]
  exact hrow
 have hz4:W4.heap.size=w3.heap.size+1:=by rw [<- hW4,World.size_alloc]
 have hb4:=hb3.ext hE4
 have HB4:=Hd hb4
 have HE4:=Hd hE4
 have hpl:w.heap.size<w3.heap.size:=by have:=hb3.lt;omega
 have HW:=Hd (HE3.out.size)
 have HM0:=Hd hm
 obtain ⟨gm,hgm⟩:∃ gm,w3.heap.size=gm:=⟨_,rfl⟩
 have HG:Hid (w3.heap.size<=gm):=by show _<=_;omega
 have hg1:gm<W4.heap.size:=by omega
 have hgp:w.heap.size≠gm:=by omega
 rw [hgm] at HROW hmk
 have x0:=hb3.cell 0 _
 have x1:=hb3.cell 1 _
 have x2:=hb3.cell 2 _
 have xz:=hb3.lt
 clear hb3 hb4 hE4 hW4 hz4 hrow h1 h2 c0 c1 c2 cz hW2 gc gf hpl hm hgm HCL HB2 HE2
 go_wp2_with fail
 go_loopw [7] (fun vi wr=>∃ k:Nat,k<=s.es.length∧vi = .int .i64 k∧Bt (fun q=>q=gm) W4 wr∧Hid (RBs w.heap.size wr (marksOf m (acX s BS k)) (.slice (some ⟨gm,0,none⟩) m m))) (fun vi _=>s.es.length-(intOf vi).toNat)
 case atStart=>exact ⟨0,Nat.zero_le _,rfl,Bt.refl _ _,HROW.out⟩
 case round =>
  clear x0 x1 x2 xz
  obtain ⟨k,hk,rfl,hbt,hMK⟩:=hrel
  have hE:Ext w3 wr:=Bt.new HE4.out hbt fun i _ hi=>by subst hi;exact HG.out
  have hbx:=HB4.out.bt hbt hgp
  have x0:=hbx.cell 0 _
  have x1:=hbx.cell 1 _
  have x2:=hbx.cell 2 _
  have xz:=hbx.lt
  have hgl:gm<wr.heap.size:=Nat.lt_of_lt_of_le hg1 hbt.size
  clear hbx
  by_cases hlt:k<s.es.length
  ·obtain ⟨b,off,cs2,rfl,hb,hS,hl,hr,hcell⟩:=(qcj.good.bel HEB.out (HE3.out.trans' hE)).get k hlt
   obtain ⟨_,_,_,rfl⟩:=id hr
   have g0:=hcell.get 0 _
   have g1:=hcell.get 1 _
   have g2:=hcell.get 2 _
   simp only [Nat.add_zero] at g0
   have hoke:=hed.out k hlt
   have hst:=acX_succ s BS hlt
   have hmv:acB s BS s.es[k]=(qcy BS s.es[k].f.toNat && (match s.ls[s.es[k].l.toNat]? with | some y=>qa3 y.g | none=>false)):=rfl
   rw [qh5] at hoke
   obtain ⟨qf,hq⟩:∃ q,s.es[k].f=q:=⟨_,rfl⟩;rw [hq] at hoke g0 hmv;clear hq
   obtain ⟨ql,hq⟩:∃ q,s.es[k].l=q:=⟨_,rfl⟩;rw [hq] at hoke g1 hmv hst;clear hq
   obtain ⟨qt,hq⟩:∃ q,s.es[k].t=q:=⟨_,rfl⟩;rw [hq] at hoke g2;clear hq
   obtain ⟨fi,rfl⟩:∃ fi:Nat,qf=(fi:Int):=⟨qf.toNat,by omega⟩
   obtain ⟨li,rfl⟩:∃ li:Nat,ql=(li:Int):=⟨ql.toNat,by omega⟩
   have hN:=HN.out
   have hBLo:=HBL.out
   have hli:li<s.ls.length:=by omega
   have hfi:fi<BS.length:=by omega
   rw [Int.toNat_natCast,Int.toNat_natCast,List.getElem?_eq_getElem hli,qd1 hfi] at hmv
   obtain ⟨bb,ob,cb2,hAb,hbb,_,_,hrb,hcb2⟩:=((RSl.good qad.good).bel HM.out hE).get fi hfi
   subst hAb
   obtain rfl:cb2=[.bool BS[fi]]:=hrb
   have d0:=hcb2.get 0 _
   simp only [Nat.add_zero,Nat.mul_one] at d0
   obtain ⟨bl,ol,cl2,hAl,hbl,_,_,hrl,hcl2⟩:=(qaa.good.bel HLB.out (HE3.out.trans' hE)).get li hli
   subst hAl
   obtain ⟨_,vl,rfl,hvl⟩:=id hrl
   have l0:=hcl2.get 0 _
   have l1:=hcl2.get 1 _
   simp only [Nat.add_zero] at l0
   have hlm:li<m:=by have:=HM0.out;omega
   have z1:(0:Int)<=(li:Int):=by omega
   have z2:(li:Int)<(m:Int):=by omega
   have z3:(0:Int)<=(fi:Int):=by omega
   have z4:(fi:Int)<(n:Int):=by omega
   have z7:(0:Int)<=(k:Int):=by omega
   have z8:(k:Int)<(s.es.length:Int):=by omega
   have hkl:k+1<=s.es.length:=hlt
   simp only at hmv
   obtain ⟨bf,hbf⟩:∃ bf,BS[fi]=bf:=⟨_,rfl⟩
   rw [hbf] at hmv d0
   obtain ⟨gl,hgl2⟩:∃ gl,s.ls[li].g=gl:=⟨_,rfl⟩
   rw [hgl2] at hmv l0
   have hvis:=fun W=>qnm gl vl W
   obtain ⟨bt,hbt2⟩:∃ bt,qa3 gl=bt:=⟨_,rfl⟩
   rw [hbt2] at hmv hvis
   rw [hmv] at hst
   clear hr hcell hS hl hoke hmv hN hBLo hcb2 hcl2 hrl hvl hbf hbt2 hgl2
   cases bf
   ·have HC:Hid (acX s BS (k+1)=acX s BS k):=by show _=_;rw [hst];rfl
    clear hst hvis
    go_wp2_with fail
    go_roundw
    case rel=>exact ⟨k+1,hkl,by go_num,hbt.ext ((Ext.refl wr).alloc _),by rw [HC.out];exact hMK.out.ext qad.good ((Ext.refl wr).alloc _)⟩
    case measure=>simp [intOf];omega
   ·cases bt
    ·have HC:Hid (acX s BS (k+1)=acX s BS k):=by show _=_;rw [hst];rfl
     clear hst
     go_wp2_with fail
     refine (hvis _).mono ?_
     rintro e w4 ⟨rfl,hx4⟩
     go_wp2_with fail
     go_roundw
     case rel=>exact ⟨k+1,hkl,by go_num,hbt.ext (Ext.trans' ((Ext.refl wr).alloc _) hx4),by rw [HC.out];exact hMK.out.ext qad.good (Ext.trans' ((Ext.refl wr).alloc _) hx4)⟩
     case measure=>simp [intOf];omega
    ·have HC:Hid (acX s BS (k+1)=acX s BS k++[(li:Int)]):=by show _=_;rw [hst];rfl
     clear hst
     go_wp2_with fail
     refine (hvis _).mono ?_
     rintro e w4 ⟨rfl,hx4⟩
     have hX4:Ext wr w4:=Ext.trans' ((Ext.refl wr).alloc _) hx4
     have hMK4:=hMK.out.ext qad.good hX4
     obtain ⟨ub4,gc4,hub4,gf4⟩:=qab.get1 hMK4 li (by rw [qb2];exact hlm)
     have hset:=qab.put1 qad.good hMK4 (qb2 _ _).symm li (.bool true) true (by rw [qb2];exact hlm) rfl
     have HB6:Hid (Bt (fun q=>q=gm) W4 (w4.setCell ⟨gm,li,none⟩ (.bool true))):=Bt.set (Z:=fun q=>q=gm) (hbt.ext hX4) (p:=⟨gm,li,none⟩) (.inr rfl) _
     have t4:=Ext.keep hx4 (show (wr.alloc (.cells #[.int .i64 (fi:Int),.int .i64 (li:Int),.int .i64 qt] 88)).cell? ⟨wr.heap.size,1,none⟩=some (.int .i64 (li:Int)) from (qag.new wr 88 [.int .i64 (fi:Int),.int .i64 (li:Int),.int .i64 qt]).cell 1 _)
     have tz:wr.heap.size<w4.heap.size:=by have:=hx4.size;rw [World.size_alloc] at this;omega
     have hgl4:gm<w4.heap.size:=Nat.lt_of_lt_of_le hgl hX4.size
     rw [qjl,<- HC.out] at hset
     have HSET:=Hd hset
     clear hset hMK4 hub4 hMK hvis
     go_wp2_with fail
     go_roundw
     case rel=>exact ⟨k+1,hkl,by go_num,HB6.out,HSET.out⟩
     case measure=>simp [intOf];omega
  ·obtain rfl:k=s.es.length:=by omega
   have HF:Hid (RBs w.heap.size wr (qex s n st) (.slice (some ⟨gm,0,none⟩) m m)):=by
    show RBs _ _ _ _
    rw [HVAL.out]
    exact hMK.out
   go_wp2_with fail
   go_ret
   rw [HM0.out]
   exact ⟨_,_,rfl,HF.out,HE3.out.trans' hE⟩
end
section

theorem qvx (s:Sy) (bs:List Bool):qc1 s bs=marksOf s.n.toNat (qaq s (mkL bs)):=by
 unfold qc1 qaq
 exact qnr fun i _=>(qk6 _ _).symm
theorem qsv (s:Sy) {l l':List Int} (h:∀ y∈l,y∈l'):∀ y∈qaq s l,y∈qaq s l' :=
 qnl s (fun y=>y∈qaq s l') (fun y z hy hz=>qof s l' y hy z hz) l fun y hy=>qmo s l' y (h y hy)
theorem qsl (s:Sy) {l l':List Int} (h:∀ y,y∈l↔y∈l') (y:Int):y∈qaq s l↔y∈qaq s l' :=
 ⟨qsv s (fun y hy=>(h y).1 hy) y,qsv s (fun y hy=>(h y).2 hy) y⟩
theorem qrs (n:Nat) (l:List Int) (hl:∀ x∈l,0<=x∧x<n) (y:Int):y∈mkL (marksOf n l)↔y∈l:=by
 rw [qia]
 constructor
 ·rintro ⟨i,hi,hm,rfl⟩
  rw [qd1 hi,qep,decide_eq_true_eq] at hm
  exact hm
 ·intro hy
  have:=hl y hy
  refine ⟨y.toNat,by rw [qb2];omega,?_,by omega⟩
  rw [qd1 (by rw [qb2];omega),qep,decide_eq_true_eq,Int.toNat_of_nonneg this.1]
  exact hy
theorem qo6 (s:Sy) (n:Nat) (hn:s.n=(n:Int)) (l:List Int) (hl:∀ x∈l,0<=x∧x<n):qc1 s (marksOf n l)=marksOf n (qaq s l):=by
 rw [qvx,hn,Int.toNat_natCast]
 exact qnr fun i _=>qsl s (qrs n l hl) _
theorem bs0_marks {n:Nat} (h:0<n):bs0 n=marksOf n [0]:=by
 rw [bs0,<- qlj,qjl]
 rfl
theorem qpv (s:Sy) (n:Nat) (hn:s.n=(n:Int)) (h:0<n):qc1 s (bs0 n)=marksOf n (qaq s [0]):=by
 rw [bs0_marks h]
 exact qo6 s n hn [0] fun x hx=>by
  rw [List.mem_singleton] at hx
  omega
end
section

theorem mvL_iff (s:Sy) (x:Lb) (bs:List Bool) (y:Int):y∈mvL s x bs s.es.length↔∃ j:Fin s.es.length,mvB s x bs s.es[j]=true∧s.es[j].t=y:=by
 rw [mvL,List.take_length,List.mem_map]
 constructor
 ·rintro ⟨e,he,rfl⟩
  obtain ⟨h1,h2⟩:=List.mem_filter.1 he
  obtain ⟨i,hi,rfl⟩:=List.getElem_of_mem h1
  exact ⟨⟨i,hi⟩,h2,rfl⟩
 ·rintro ⟨j,h,rfl⟩
  exact ⟨s.es[j],List.mem_filter.2 ⟨List.getElem_mem _,h⟩,rfl⟩
theorem qji {s:Sy} (h:qah s) (j:Fin s.es.length):0<=s.es[j].f∧s.es[j].f<s.n∧0<=s.es[j].t∧s.es[j].t<s.n∧0<=s.es[j].l∧s.es[j].l<s.ls.length:=by
 have:=(h.2.2.2.2.2 j.1 j.2).1
 rwa [qh5] at this
theorem mvB_iff {s:Sy} (hok:qah s) {n:Nat} (hn:s.n=(n:Int)) (l:List Int) (x:Lb) (hv:qa3 x.g=true) (j:Fin s.es.length):mvB s x (marksOf n l) s.es[j]=true↔s.es[j].f∈l∧qe9 s s.es[j].l (fun y=>qa3 y.g && decide (qan y x=0))=true:=by
 obtain ⟨h1,h2,h3,h4,h5,h6⟩:=qji hok j
 obtain ⟨fi,hfi⟩:∃ fi:Nat,s.es[j].f=(fi:Int):=⟨s.es[j].f.toNat,by omega⟩
 obtain ⟨li,hli⟩:∃ li:Nat,s.es[j].l=(li:Int):=⟨s.es[j].l.toNat,by omega⟩
 have hl:li<s.ls.length:=by omega
 have hf:fi<(marksOf n l).length:=by rw [qb2];omega
 rw [qg6 s _ hli hl,mvB,hfi,hli,Int.toNat_natCast,Int.toNat_natCast,qd1 hf,qep,List.getElem?_eq_getElem hl]
 simp only [Bool.and_eq_true,decide_eq_true_eq,qcz]
 constructor
 ·rintro ⟨ha,hb⟩
  refine ⟨ha,?_,hb⟩
  rw [qc2.eq _ _ hb]
  exact hv
 ·rintro ⟨ha,_,hb⟩
  exact ⟨ha,hb⟩
theorem qqi {s:Sy} (hok:qah s) {n:Nat} (hn:s.n=(n:Int)) (l:List Int) (x:Lb) (hv:qa3 x.g=true):mvM s n (marksOf n l) x=marksOf n (qa9 s x l):=by
 rw [mvM,qo6 s n hn _ fun y hy=>by
  obtain ⟨j,_,rfl⟩:=(mvL_iff ..).1 hy
  have:=qji hok j
  omega]
 refine qnr fun i _=>?_
 refine qsl s (fun y=>?_) _
 rw [mvL_iff,qpg]
 constructor
 ·rintro ⟨j,h,e⟩
  obtain ⟨h1,h2⟩:=(mvB_iff hok hn l x hv j).1 h
  exact ⟨j,h1,h2,e⟩
 ·rintro ⟨j,h1,h2,e⟩
  exact ⟨j,(mvB_iff hok hn l x hv j).2 ⟨h1,h2⟩,e⟩
theorem qkh {s:Sy} (hok:qah s) {n:Nat} (hn:s.n=(n:Int)) (tr:List Lb) (hv:∀ x∈tr,qa3 x.g=true):qa2 s n tr=marksOf n (qao s tr):=by
 have:∀ (tr:List Lb) (l:List Int),(∀ x∈tr,qa3 x.g=true)->tr.foldl (mvM s n) (marksOf n l)=marksOf n (tr.foldl (fun l x=>qa9 s x l) l):=by
  intro tr
  induction tr with
  | nil=>intro l _;rfl
  | cons x tr ih =>
   intro l h
   rw [List.foldl_cons,List.foldl_cons,qqi hok hn l x (h x (by simp)),ih _ fun y hy=>h y (by simp [hy])]
 rw [qa2,qao,qpv s n hn (by have:=hok.1;omega),this tr _ hv]
end
section

theorem qu3 {s:Sy} {l:List Int} {e:Ed} (h:l.Nodup):(qcx s l e).Nodup:=by
 unfold qcx
 split
 ·rename_i hc
  rw [List.nodup_append]
  refine ⟨h,by simp,?_⟩
  intro a ha b hb e
  rw [List.mem_singleton] at hb
  subst hb
  subst e
  exact hc.2 ha
 ·exact h
theorem qtd {s:Sy}:∀ (is:List (Fin s.es.length)) (l:List Int),l.Nodup->(qbd s is l).Nodup
 | [],_,h=>h
 | i :: is,l,h=>qtd is _ (qu3 (e:=s.es[i]) h)
theorem qq3 {s:Sy}:∀ (f i:Nat) (l:List Int),l.Nodup->(qbj s f i l).Nodup
 | 0,_,_,h=>by rw [qbj];exact h
 | f+1,i,l,h=>by
  rw [qbj]
  split
  ·exact qq3 f _ _ (qtd _ _ h)
  ·exact h
theorem qs0:∀ (l l':List Int),l.Pairwise (· < ·)->l'.Pairwise (· < ·)->(∀ y,y∈l↔y∈l')->l=l'
 | [],l',_,_,h=>by
  cases l' with
  | nil=>rfl
  | cons y l'=>exact absurd ((h y).2 (by simp)) (by simp)
 | x :: l,[],_,_,h=>absurd ((h x).1 (by simp)) (by simp)
 | x :: l,y :: l',h1,h2,h=>by
  obtain ⟨a1,a2⟩:=List.pairwise_cons.1 h1
  obtain ⟨b1,b2⟩:=List.pairwise_cons.1 h2
  have e:x=y:=by
   rcases List.mem_cons.1 ((h x).1 (by simp)) with e | e
   ·exact e
   ·rcases List.mem_cons.1 ((h y).2 (by simp)) with e' | e'
    ·exact e'.symm
    ·have:=a1 y e'
     have:=b1 x e
     omega
  subst e
  congr 1
  refine qs0 l l' a2 b2 fun z=>?_
  have hz:=h z
  simp only [List.mem_cons] at hz
  constructor
  ·intro hm
   have:=a1 z hm
   rcases hz.1 (.inr hm) with e | e
   ·omega
   ·exact e
  ·intro hm
   have:=b1 z hm
   rcases hz.2 (.inr hm) with e | e
   ·omega
   ·exact e
theorem qr4 (bs:List Bool):(mkL bs).Pairwise (· < ·):=by
 unfold mkL mkT
 rw [List.pairwise_map]
 refine List.Pairwise.imp (fun {a b} (h:a<b)=>by omega) ((List.pairwise_lt_range).filter _)
theorem qr1 (n:Nat) (l:List Int) (hl:∀ x∈l,0<=x∧x<n) (hr:l.Pairwise (· < ·)):mkL (marksOf n l)=l :=
 qs0 _ _ (qr4 _) hr (qrs n l hl)
theorem qlc (s:Sy) {l:List Int} (h:l.Nodup):(qaq s l).Pairwise (· < ·):=by
 have h1:(qaq s l).Pairwise (· <= ·):=qli _
 have h2:(qaq s l).Nodup:=(qiy _).nodup_iff.2 (qq3 _ _ _ h)
 exact List.Pairwise.imp₂ (fun {a b} (h:a<=b) (h':a≠b)=>by omega) h1 h2
theorem qvd {s:Sy} {x:Lb} {l:List Int} {e:Ed} (h:l.Nodup):(qe5 s x l e).Nodup:=by
 unfold qe5
 split
 ·rename_i hc
  rw [List.nodup_append]
  refine ⟨h,by simp,?_⟩
  intro a ha b hb e
  rw [List.mem_singleton] at hb
  subst hb
  subst e
  exact hc.2 ha
 ·exact h
theorem qtv {s:Sy} {x:Lb}:∀ (is:List (Fin s.es.length)) (l:List Int),l.Nodup->(qcb s x is l).Nodup
 | [],_,h=>h
 | i :: is,l,h=>qtv is _ (qvd (e:=s.es[i]) h)
theorem qtm (s:Sy) (x:Lb) (sts:List Int):(qch s x sts).Nodup:=by
 have:∀ (sts l:List Int),l.Nodup->(sts.foldl (fun l st=>qcb s x (qaw s.es st) l) l).Nodup:=by
  intro sts
  induction sts with
  | nil=>exact fun l h=>h
  | cons st sts ih=>exact fun l h=>ih _ (qtv _ l h)
 exact this sts [] List.nodup_nil
end
section

theorem qlz {s:Sy} (hok:qah s) (l:List Int) (hl:∀ y∈l,0<=y∧y<s.n):∀ y∈qaq s l,0<=y∧y<s.n :=
 qnl s (fun y=>0<=y∧y<s.n) (fun y z _ ht=>by
  obtain ⟨j,_,_,rfl⟩:=ht
  have:=qji hok j
  omega) l hl
theorem qm6 {s:Sy} (hok:qah s) (x:Lb) (l:List Int):∀ y∈qa9 s x l,0<=y∧y<s.n :=
 qlz hok _ fun y hy=>by
  obtain ⟨j,_,_,rfl⟩:=(qpg s x l y).1 hy
  have:=qji hok j
  omega
theorem qle {s:Sy} (hok:qah s) (tr:List Lb):∀ y∈qao s tr,0<=y∧y<s.n:=by
 rcases List.eq_nil_or_concat tr with rfl | ⟨tr',x,rfl⟩
 ·exact qlz hok [0] fun y hy=>by
   rw [List.mem_singleton] at hy
   have:=hok.1
   omega
 ·rw [List.concat_eq_append,qjg]
  exact qm6 hok x _
end
section
open Go.Shelf
end
end Go.Proofs.YtegenalcheooeaaGreat
