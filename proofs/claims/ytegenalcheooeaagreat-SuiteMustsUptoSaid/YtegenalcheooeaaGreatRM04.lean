/- Of the proof of a law of the suites: RMarks, RClosed, RClosed2, RStart, RMoved, RAfter. -/
import Derived.Test.YtegenalcheooeaaGreatB13
import Derived.Test.YtegenalcheooeaaGreatB14
import Derived.Test.YtegenalcheooeaaGreatB23
import Derived.Test.YtegenalcheooeaaGreatRM02
import Derived.Test.YtegenalcheooeaaGreatRM03
set_option linter.unusedSectionVars false
set_option linter.unusedSimpArgs false
set_option linter.unusedVariables false
namespace Go.Proofs.YtegenalcheooeaaGreat
open Go.RowKit
attribute [local go_sem] cell?_exto
section

def marksOf (n:Nat) (l:List Int):List Bool:=(List.range n).map fun i:Nat=>decide ((i:Int)∈l)
theorem qbz (n:Nat) (l:List Int):(marksOf n l).length=n:=by simp [marksOf]
theorem qez {n:Nat} {l:List Int} {i:Nat} (h:i<(marksOf n l).length):(marksOf n l)[i]=decide ((i:Int)∈l):=by simp [marksOf]
theorem qjr {n:Nat} (l:List Int) (i:Nat):(marksOf n l).set i true=marksOf n (l++[(i:Int)]):=by
 apply List.ext_getElem
 ·rw [List.length_set,qbz,qbz]
 ·intro j h1 h2
  rw [List.getElem_set,qez h2]
  by_cases h:i=j
  ·subst h
   rw [if_pos rfl]
   exact (decide_eq_true (by simp)).symm
  ·rw [if_neg h,qez]
   congr 1
   simp only [List.mem_append,List.mem_singleton,eq_iff_iff]
   constructor
   ·exact .inl
   ·rintro (h' | h')
    ·exact h'
    ·omega
theorem qmb {n:Nat} {l l':List Int} (h:∀ i:Nat,i<n→((i:Int)∈l↔(i:Int)∈l')):marksOf n l=marksOf n l':=by
 unfold marksOf
 apply List.map_congr_left
 intro i hi
 exact decide_eq_decide.2 (h i (List.mem_range.1 hi))
theorem qhq (bs:List Bool) (j:Int):j∈mkL bs↔∃ i:Nat,i<bs.length∧qc1 bs i=true∧(i:Int)=j:=mkT_mem bs _ j
theorem qvd (bs:List Bool):marksOf bs.length (mkL bs)=bs:=by
 apply List.ext_getElem
 ·rw [qbz]
 ·intro i h1 h2
  rw [qez h1]
  cases hb:bs[i]
  ·rw [decide_eq_false_iff_not,qhq]
   rintro ⟨k,hk,hm,he⟩
   obtain rfl:k=i:=by omega
   rw [qd6 h2,hb] at hm
   cases hm
  ·rw [decide_eq_true_eq,qhq]
   exact ⟨i,h2,by rw [qd6 h2,hb],rfl⟩
def qc2 (s:Sy) (bs:List Bool):List Bool:=marksOf s.n.toNat (qbc s ((mkL bs).length+s.es.length) 0 (mkL bs))
end
section
open Go.Shelf
theorem qab.boolT {base:Nat} {e:TypeId} {T T':Nat→Prop} {w:World} {xs:List Bool} {v:Value} (h:qab qad 1 e base T w xs v):qab qad 1 e base T' w xs v:=by
 obtain ⟨news,h1,h2⟩:=h
 exact ⟨news,h1,h2.imp fun x _ cs h=>h⟩
theorem quv (S:Nat→Prop) (w:World) (bs:List Bool) (A:Option Addr) (c:Nat) (hx:RSl qad 1 S w bs [.slice A bs.length c]) (h0:0<bs.length) (h1:bs.length≤1000000) (hA:∀ W,Ext w W→RSl qad 1 S W bs [.slice A bs.length c]) :
  ∃ gm cm W1,(Builtin.append_ #[73,73] 73 #[.slice (some ⟨w.heap.size,0,none⟩) 0 0,.slice A bs.length c]).run Tryz.prog (w.alloc (.cells #[] 4)) = .ok (.slice (some ⟨gm,0,none⟩) bs.length cm) W1 ∧
   RBs w.heap.size W1 bs (.slice (some ⟨gm,0,none⟩) bs.length cm)∧Ext w W1∧w.heap.size≤gm∧gm<W1.heap.size:=by
 have hown:qab qad 1 4 w.heap.size (fun _=>True) (w.alloc (.cells #[] 4)) ([]:List Bool) (.slice (some ⟨w.heap.size,0,none⟩) 0 0) :=
  ⟨[],World.ownsRow_lit w #[] 0 (Nat.le_refl _) (by unfold maxLen;omega) rfl,rfl⟩
 have hy:RSl qad 1 (fun b=>True∧(Value.slice (some ⟨w.heap.size,0,none⟩) 0 0).ownBlock≠some b) (w.alloc (.cells #[] 4)) bs [.slice A bs.length c]:=by
  refine (RSl.good qad.good).bel ((RSl.good qad.good).mono hx fun b hb _=>⟨trivial,?_⟩) ((Ext.refl w).alloc _)
  simp [Value.ownBlock]
  omega
 obtain ⟨A1,c1,W1,hr,ho,hb⟩:=pushN qad.good (by decide) w.heap.size 4 73 (.bool false) 1 Tryz.underlying73 info4 rfl (by decide) (fun _=>True) (w.alloc (.cells #[] 4)) [] bs _ _ hown hy (by simp) (by simp;omega)
 rw [List.nil_append] at hr ho
 have hE:Ext w W1:=Bt.new ((Ext.refl w).alloc _) hb fun i _ hi=>by
  have:some w.heap.size=some i:=hi
  injection this with this
  omega
 obtain ⟨news,⟨h2,h3⟩,h4⟩:=id ho
 rcases h3 with ⟨_,h3⟩ | ⟨g,cap,cur,hv,hg,hh,_⟩
 ·omega
 ·injection hv with hv1 hv2 hv3
  subst hv1 hv3
  exact ⟨g,c1,W1,hr,ho.boolT,hE,hg,(Array.getElem?_eq_some_iff.1 hh).1⟩
def qia (n:Nat) (r:List Bool) (w:World) (e:Ending) (w':World):Prop:=∃ A c,e = .returned (.slice A n c)∧RBs w.heap.size w' r (.slice A n c)∧Ext w w'
theorem qtp (s:Sy) (st:Int) (hs:qgu s.es) (lk:List Int) (j:Nat) (hj:j<(qdg s.es st).length):∃ h:j<(qat s.es st).length,((qdg s.es st)[j]=s.es[(qat s.es st)[j]])∧qa6 s ((qat s.es st).take (j+1)) lk=qco s (qa6 s ((qat s.es st).take j) lk) ((qdg s.es st)[j]):=by
 have he:=qrw hs st
 have hl:(qdg s.es st).length=(qat s.es st).length:=by rw [he,List.length_map]
 refine ⟨by omega,?_,?_⟩
 ·simp only [he,List.getElem_map]
 ·rw [List.take_succ_eq_append_getElem (by omega),qqf]
  simp only [he,List.getElem_map]
theorem qvn {s:Sy} {l:List Int} {e:Ed} (hl:∀ x∈l,0≤x∧x<s.n) (he:qb1 s e=true):∀ x∈qco s l e,0≤x∧x<s.n:=by
 rw [qhf] at he
 intro x hx
 unfold qco at hx
 split at hx
 ·rcases List.mem_append.1 hx with h | h
  ·exact hl x h
  ·rw [List.mem_singleton] at h
   subst h
   exact ⟨he.2.2.1,he.2.2.2.1⟩
 ·exact hl x hx
end
section
open Go.Shelf
set_option maxHeartbeats 8000000 in
set_option maxRecDepth 100000 in
theorem qnk (S:Nat→Prop) (s:Sy) (hok:qai s) (cs:List Value) (bs:List Bool) (v:Value) (w:World) (hx:RSy S w s cs) (hm:RSl qad 1 S w bs [v]) (hbn:(bs.length:Int)=s.n) :
  Calls Tryz.prog 161 #[.agg cs.toArray,v] w (qia bs.length (qc2 s bs) w):=by
 have hs:=qtw hok.2.2.2.2.2
 have hn0:=hok.1
 have hn1:=hok.2.1
 have hel:=hok.2.2.2.1
 have hed:Hid (∀ j,(h:j<s.es.length)→qb1 s s.es[j]=true):=fun j h=>(hok.2.2.2.2.2 j h).1
 obtain ⟨S',hS'⟩:∃ S':Nat→Prop,S'=fun q=>S q∧q<w.heap.size:=⟨_,rfl⟩
 have HX:=Hd (RSy.good.mono hx (S':=S') fun q h1 h2=>by rw [hS'];exact ⟨h2,h1⟩)
 have HS':Hid (∀ q,S' q→q<w.heap.size):=fun q h=>by rw [hS'] at h;exact h.2
 have HM:=Hd hm
 obtain ⟨_,v1,u1,rfl,hv,hu⟩:=id hx
 obtain ⟨Al,cl,rfl,hcl,hcl0⟩:=hv.val
 obtain ⟨Ae,ce,rfl,hce,hce0⟩:=hu.val
 obtain ⟨Ab,cb,rfl,hcb,hcb0⟩:=hm.val
 clear hx hv hu hm hS'
 have hsn:s.n=(bs.length:Int):=hbn.symm
 have HSN:=Hd hsn
 have HOK:=Hd hok
 have HSO:=Hd hs
 have hb0:0<bs.length:=by omega
 have hb1:bs.length≤20000:=by omega
 rw [hsn]
 obtain ⟨W0,hW0⟩:∃ W0,w.alloc (.cells #[.int .i64 (bs.length:Int),.slice Al s.ls.length cl,.slice Ae s.es.length ce] 25)=W0:=⟨_,rfl⟩
 have hE0:Ext w W0:=by rw [← hW0];exact (Ext.refl w).alloc _
 have hB0:qah W0 w.heap.size 25 [.int .i64 (bs.length:Int),.slice Al s.ls.length cl,.slice Ae s.es.length ce]:=by rw [← hW0];exact qah.new w 25 _
 have hz0:W0.heap.size=w.heap.size+1:=by rw [← hW0,World.size_alloc]
 obtain ⟨gm,cm,W1,hrc,hrow1,hE1,hg0,hg1⟩:=quv S W0 bs Ab cb ((RSl.good qad.good).bel HM.out hE0) hb0 (by omega) (fun W hW=>(RSl.good qad.good).bel HM.out (hE0.trans' hW))
 rw [← hW0,World.size_alloc] at hrc
 have hB1:=hB0.ext hE1
 obtain ⟨p0,hp0⟩:∃ p0,w.heap.size=p0:=⟨_,rfl⟩
 have hgp:p0<gm:=by omega
 have HE1:Hid (Ext w W1):=hE0.trans' hE1
 rw [hp0] at hB1
 have HB1:=Hd hB1
 have HP0:=Hd hp0
 have HROW:=Hd (hrow1.base (base':=w.heap.size) (by omega))
 have HG:Hid (w.heap.size≤gm):=by show _≤_;omega
 have HL0:Hid (∀ k,(mkT bs k).length≤k):=fun k=>qoq bs k
 clear hE0 hB0 hz0 hW0 hrow1 hE1 hg0 hB1 hp0 hbn hsn hok hs hn0
 go_enter Tryz.func161,Tryz.ntmps161
 go_wp2_with (at_builtin;refine wpList_append_run rfl _ _ _ rfl _ _ _ rfl rfl hrc ?_;clear hrc)
 rw [HP0.out]
 go_loopw [6,7] (fun v6 vi wr=>∃ (k:Nat) (ys:List Int) (Ao:Option Addr) (co:Nat),k≤bs.length∧vi = .int .i64 k∧v6 = .slice Ao ys.length co∧Hid (ys=mkT bs k)∧Ext W1 wr∧Hid (qab qac 1 3 W1.heap.size (fun _=>False) wr ys (.slice Ao ys.length co))) (fun _ vi _=>bs.length-(intOf vi).toNat)
 case atStart=>exact ⟨0,[],none,0,Nat.zero_le _,rfl,rfl,by simp [mkT,Hid],Ext.refl _,qab.nil ..⟩
 case round =>
  obtain ⟨k,ys,Ao,co,hk,rfl,rfl,hY,hE,hO⟩:=hrel
  have hbx:=HB1.out.ext hE
  have x0:=hbx.cell 0 _
  have xz:=hbx.lt
  clear hbx
  by_cases hlt:k<bs.length
  ·obtain ⟨ub,gc,hub,gf⟩:=qab.get1 (HROW.out.ext qad.good hE) k hlt
   have hub':ub = .bool bs[k]:=by simpa [qad] using hub
   subst hub'
   have hgl:gm<wr.heap.size:=Nat.lt_of_lt_of_le hg1 hE.size
   have HST:=Hd (qr2 bs k)
   rw [qd6 hlt] at HST
   cases hb2:bs[k]
   ·rw [hb2] at gc HST
    clear hub hb2 gf
    go_wp2_with fail
    go_roundw
    case rel=>exact ⟨k+1,ys,Ao,co,by omega,by go_num,rfl,by rw [hY.out];exact HST.out.symm,hE,hO.out⟩
    case measure=>simp [intOf];omega
   ·rw [hb2] at gc HST
    have hyl:ys.length≤1000000:=by have:=HL0.out k;rw [hY.out];omega
    obtain ⟨g2,c2,w2,hr2,ho2,hb3,_,_⟩:=qcy qac.good (by decide) W1.heap.size 3 53 (.int .i64 0) 8 Tryz.underlying53 qhk rfl (by decide) (fun _=>False) wr ys (.slice Ao ys.length co) (k:Int) [.int .i64 k] hO.out ⟨rfl,by unfold I64;omega⟩ hE.size hyl
    have HO2:=Hd ho2
    have hlo:∀ q,(Value.slice Ao ys.length co).ownBlock=some q→W1.heap.size≤q:=fun q e=>(hO.out.own_lt e).1
    have HB2:Hid (Ext W1 w2):=Bt.new hE hb3 fun q _ h=>hlo q h
    have HY2:Hid (ys++[(k:Int)]=mkT bs (k+1)):=by
     show _=_
     rw [hY.out]
     exact HST.out.symm
    clear hub hb2 gf hO ho2 hb3 hlo hY HST
    go_wp2_with (at_builtin;refine wpList_append_run rfl _ _ _ rfl _ _ _ rfl rfl hr2 ?_;clear hr2)
    go_roundw
    case rel=>exact ⟨k+1,ys++[(k:Int)],some ⟨g2,0,none⟩,c2,by omega,by go_num,by simp,HY2.out,HB2.out,(by have h:=HO2.out;show qab _ _ _ _ _ _ _ _;simpa using h)⟩
    case measure=>simp [intOf];omega
  ·have hkl:k=bs.length:=by omega
   subst hkl
   have hw1s:gm<W1.heap.size:=hg1
   have hLe:(mkL bs).length=(mkT bs bs.length).length:=rfl
   have HFIN:Hid (qc2 s bs=marksOf bs.length (qbc s ((mkL bs).length+s.es.length) 0 (mkL bs))):=by
    show _=_
    rw [qc2,HSN.out,Int.toNat_natCast]
   have hpot0:ys.length+qcn s ys≤(mkL bs).length+s.es.length:=by have:=qf8 s ys;rw [hY.out] at this ⊢;omega
   have HIN0:Hid (∀ x∈ys,0≤x∧x<s.n):=by
    intro x hx
    rw [hY.out] at hx
    obtain ⟨i,hi,_,rfl⟩:=(qhq bs x).1 hx
    rw [HSN.out]
    omega
   have HMK0:Hid (RBs w.heap.size wr (marksOf bs.length ys) (.slice (some ⟨gm,0,none⟩) bs.length cm)):=by
    show RBs _ _ _ _
    rw [hY.out,qvd]
    exact HROW.out.ext qad.good hE
   have HF0:Hid (qbc s ((mkL bs).length+s.es.length-0) 0 ys=qbc s ((mkL bs).length+s.es.length) 0 (mkL bs)):=by
    show _=_
    rw [hY.out,Nat.sub_zero]
   have hTl:(mkL bs).length≤20000:=by have:=HL0.out bs.length;omega
   obtain ⟨R0,hR0⟩:∃ R0,qbc s ((mkL bs).length+s.es.length) 0 (mkL bs)=R0:=⟨_,rfl⟩
   rw [hR0] at HFIN HF0
   obtain ⟨T,hT⟩:∃ T,(mkL bs).length+s.es.length=T:=⟨_,rfl⟩
   rw [hT] at HF0 hpot0
   have hT2:T≤200000:=by omega
   have HLB:Hid (qaa S' w s.ls [.slice Al s.ls.length cl]):=by
    obtain ⟨_,va,ua,e,h1,_⟩:=HX.out
    simp only [List.cons.injEq,and_true] at e
    obtain ⟨_,rfl,_⟩:=e
    exact h1
   clear hT hR0 hTl hY hk hLe
   go_wp2_with fail
   clear x0 xz hlt
   obtain ⟨w7,rfl⟩:∃ w7,w7=wr:=⟨_,rfl⟩
   go_loopw [6,8] (fun v6 vi wr=>∃ (k:Nat) (lk:List Int) (Ao:Option Addr) (co:Nat),k≤lk.length∧vi = .int .i64 k∧v6 = .slice Ao lk.length co∧Bt (fun q=>q=gm) W1 wr∧Hid (qab qac 1 3 W1.heap.size (fun _=>False) wr lk (.slice Ao lk.length co))∧Hid (RBs w.heap.size wr (marksOf bs.length lk) (.slice (some ⟨gm,0,none⟩) bs.length cm))∧Hid (∀ x∈lk,0≤x∧x<s.n)∧lk.length+qcn s lk≤T∧Hid (qbc s (T-k) k lk=R0)) (fun _ vi _=>T-(intOf vi).toNat)
   case atStart=>exact ⟨0,ys,Ao,co,Nat.zero_le _,rfl,rfl,hE.bt,hO.out,HMK0.out,HIN0.out,hpot0,HF0.out⟩
   case round =>
    clear hpot0 HIN0 HMK0 HF0 hE hO
    obtain ⟨k,lk,Ao,co,hk,rfl,rfl,hbt,hO,hMK,hIN,hpot,hf⟩:=hrel
    have hE7:Ext w wr:=Bt.new HE1.out hbt fun i _ hi=>by subst hi;exact HG.out
    have hbx:=HB1.out.bt hbt (fun h:p0=gm=>by omega)
    have x0:=hbx.cell 0 _
    have x1:=hbx.cell 1 _
    have x2:=hbx.cell 2 _
    have xz:=hbx.lt
    clear hbx
    by_cases hlt:k<lk.length
    ·obtain ⟨b,off,cs2,rfl,hb,hT',hl,hr,hcell⟩:=(hO.out.sl qac.good (by decide)).get k hlt
     obtain rfl:=hr.1
     have g0:=(by simpa using hcell.get 0 _:wr.cell? ⟨b,off+k,none⟩=some (.int .i64 lk[k]))
     have hin:=hIN.out lk[k] (List.getElem_mem hlt)
     have HGO:Hid (∀ m,T-k=m+1→qbc s m (k+1) (qa6 s (qat s.es lk[k]) lk)=R0):=fun m hm=>by
      rw [← hf.out,hm,qbc,dif_pos hlt]
     obtain ⟨st,hst⟩:∃ st,lk[k]=st:=⟨_,rfl⟩
     rw [hst] at g0 hin HGO
     have hout:=fun W (hW:Ext wr W)=>OutOf_c S' s HSO.out _ st W (RSy.good.bel HX.out (hE7.trans' hW)) (by omega) (by omega) (by omega)
     rw [HSN.out] at hout
     have HEOK:Hid (∀ e∈qdg s.es st,qb1 s e=true):=fun e he=>by
      rw [qof HSO.out] at he
      obtain ⟨i,hi,rfl⟩:=List.getElem_of_mem (List.mem_filter.1 he).1
      exact hed.out i hi
     have HSTEP:=Hd (qtp s st HSO.out lk)
     have HALL:Hid ((qat s.es st).take (qdg s.es st).length=qat s.es st):=by
      show _=_
      rw [qrw HSO.out,List.length_map,List.take_length]
     obtain ⟨eo,heo⟩:∃ eo,qdg s.es st=eo:=⟨_,rfl⟩
     have hel2:eo.length≤100000:=by rw [← heo,qof HSO.out];exact Nat.le_trans (List.length_filter_le _ _) hel
     rw [heo] at hout HEOK HSTEP HALL
     have HPOT:=Hd (qgb s (qat s.es st) lk)
     obtain ⟨w6,rfl⟩:∃ w6,w6=wr:=⟨_,rfl⟩
     clear hcell hl hT' hr hst hf heo hin
     go_wp2_with fail
     go_region_held3 (fun W=>W.cell? ⟨p0,0,none⟩=some (.int .i64 (bs.length:Int))∧W.cell? ⟨p0,1,none⟩=some (.slice Al s.ls.length cl)∧W.cell? ⟨p0,2,none⟩=some (.slice Ae s.es.length ce)∧W.cell? ⟨b,off+k,none⟩=some (.int .i64 st))
      (first | (refine ⟨?_,?_,?_,?_⟩ <;> go_simp <;> done) | exact Ext.k4 hx1 (by assumption) | exact Ext.k4 (qaf.ext hx1) (by assumption) | exact Ext.k4 ((Ext.refl _).alloc _) (by assumption))
      (first | (go_at_call 226;refine (hout _ bel).mono ?_;rintro e w1 ⟨A1,c1,rfl,hRL,hx1⟩))
     go_wp2_with fail
     have hx6:Ext w6 w1:=Ext.trans' (Below.drew (Ext.refl _)) hx1
     have hbt1:=hbt.ext hx6
     have HO1:=Hd (hO.out.ext qac.good hx6)
     have HMK1:=Hd (hMK.out.ext qad.good hx6)
     have HRL:=Hd hRL
     clear hx1 hRL hbt hO hMK hE7 x0 x1 x2 xz g0 hb hout
     go_loopw [6,10] (fun v6 vj wr=>∃ (j:Nat) (ys:List Int) (Ao:Option Addr) (co:Nat),j≤eo.length∧vj = .int .i64 j∧v6 = .slice Ao ys.length co∧Hid (ys=qa6 s ((qat s.es st).take j) lk)∧Bt (fun q=>q=gm∨W1.heap.size≤q) w1 wr∧Hid (qab qac 1 3 W1.heap.size (fun _=>False) wr ys (.slice Ao ys.length co))∧Hid (RBs w.heap.size wr (marksOf bs.length ys) (.slice (some ⟨gm,0,none⟩) bs.length cm))∧Hid (∀ x∈ys,0≤x∧x<s.n)) (fun _ vj _=>eo.length-(intOf vj).toNat)
     case atStart=>exact ⟨0,lk,some ⟨b,off,none⟩,co,Nat.zero_le _,rfl,rfl,rfl,Bt.refl _ _,HO1.out,HMK1.out,hIN.out⟩
     case round =>
      obtain ⟨j,ys,Ao,co,hj,rfl,rfl,hY,hb3,hO,hMK,hIN3⟩:=hrel
      have hbt3:Bt (fun q=>q=gm) W1 wr:=((hbt1.mono (Z':=fun q=>q=gm∨W1.heap.size≤q) fun _ _ h=>.inl h).trans hb3).mono fun q hq hz=>hz.resolve_right (by omega)
      have hE3:Ext w wr:=Bt.new HE1.out hbt3 fun i _ hi=>by subst hi;exact HG.out
      have hbx:=HB1.out.bt hbt3 (fun h:p0=gm=>by omega)
      have x1:=hbx.cell 1 _
      have xz:=hbx.lt
      clear hbx
      have hgl:gm<wr.heap.size:=Nat.lt_of_lt_of_le hw1s hbt3.size
      by_cases hlj:j<eo.length
      ·have hRLw:RSl REd 3 S' wr eo [.slice A1 eo.length c1]:=(RSl.good REd.good).move HRL.out (hb3.kp fun q _ hq hz=>by
        have h1:=HS'.out q hq
        have h2:=HG.out
        have h2':w.heap.size≤gm:=h2
        have hz':q=gm∨W1.heap.size≤q:=hz
        omega)
       obtain ⟨be,oe,ce2,rfl,hbe,hTe,hle,hre,hce2⟩:=hRLw.get j hlj
       obtain ⟨_,_,_,rfl⟩:=id hre
       have e1:=hce2.get 1 _
       have e2:=hce2.get 2 _
       have hoke:=HEOK.out eo[j] (List.getElem_mem hlj)
       have hIN4:=qvn hIN3.out hoke
       rw [qhf] at hoke
       obtain ⟨hst1,hst2,hst3⟩:=HSTEP.out j hlj
       have hcalm:qco s ys eo[j]=if qhe s eo[j].l = -1∧eo[j].t∉ys then ys++[eo[j].t] else ys:=rfl
       obtain ⟨ca,hca⟩:∃ ca,qco s ys eo[j]=ca:=⟨_,rfl⟩
       rw [← hY.out,hca] at hst3
       rw [hca] at hcalm hIN4
       obtain ⟨ql,hql⟩:∃ q,eo[j].l=q:=⟨_,rfl⟩
       obtain ⟨qt,hqt⟩:∃ q,eo[j].t=q:=⟨_,rfl⟩
       rw [hql] at e1 hoke hcalm
       rw [hqt] at e2 hoke hcalm
       obtain ⟨li,rfl⟩:∃ li:Nat,ql=(li:Int):=⟨ql.toNat,by omega⟩
       obtain ⟨ti,rfl⟩:∃ ti:Nat,qt=(ti:Int):=⟨qt.toNat,by omega⟩
       have hli:li<s.ls.length:=by omega
       have hti:ti<bs.length:=by have:=HSN.out;omega
       rw [qpv s rfl hli] at hcalm
       obtain ⟨bl,ol,cl2,hAl,hbl,hTl,hll,hrl,hcl2⟩:=(qaa.good.bel HLB.out hE3).get li hli
       subst hAl
       obtain ⟨_,vl,rfl,hvl⟩:=id hrl
       have gl:=hcl2.get 0 _
       simp only [Nat.add_zero] at gl
       obtain ⟨ub,gc,hub,gf⟩:=qab.get1 hMK.out ti (by rw [qbz];exact hti)
       have hub':ub = .bool (decide ((ti:Int)∈ys)):=by
        have h:=hub
        rw [qez] at h
        simpa [qad] using h
       subst hub'
       have z1:(0:Int)≤(li:Int):=by omega
       have z2:(li:Int)<(s.ls.length:Int):=by omega
       have z3:(0:Int)≤(ti:Int):=by omega
       have z4:(ti:Int)<(bs.length:Int):=by omega
       have z5:(0:Int)≤(j:Int):=by omega
       have z6:(j:Int)<(eo.length:Int):=by omega
       obtain ⟨gg,hgg⟩:∃ gg,s.ls[li].g=gg:=⟨_,rfl⟩
       rw [hgg] at hcalm gl
       have hbg:be≠gm:=fun h=>by
        have h1:=HS'.out be hTe
        have h2:w.heap.size≤gm:=HG.out
        omega
       clear hRLw hre hce2 hle hTe hst1 hst2 hca hql hqt hoke hrl hcl2 hvl hll hTl hub hgg
       by_cases hgt:gg = -1
       ·have hb1:(gg == -1)=true:=beq_iff_eq.2 hgt
        by_cases hmem:(ti:Int)∈ys
        ·rw [decide_eq_true hmem] at gc
         rw [if_neg (fun h=>h.2 hmem)] at hcalm
         have HC:Hid (ys=qa6 s ((qat s.es st).take (j+1)) lk):=by show _=_;rw [hst3,hcalm]
         clear hst3 hcalm hmem hgt gf
         go_wp2_with fail
         (refine qaw (by kernel_rfl) (by kernel_rfl) ?_;(repeat (first | go_big_quiet_step ((fail)) | quiet_step ((fail))));refine wpQuiet_nil ?_)
         intro w4 hx4
         go_wp2_with fail
         go_roundw
         case rel=>exact ⟨j+1,ys,Ao,co,hlj,by go_num,rfl,HC.out,hb3.ext hx4,hO.out.ext qac.good hx4,hMK.out.ext qad.good hx4,hIN3.out⟩
         case measure=>simp [intOf];omega
        ·rw [decide_eq_false hmem] at gc
         rw [if_pos ⟨hgt,hmem⟩] at hcalm
         have HC:Hid (ys++[(ti:Int)]=qa6 s ((qat s.es st).take (j+1)) lk):=by show _=_;rw [hst3,hcalm]
         have HI4:Hid (∀ x∈ys++[(ti:Int)],0≤x∧x<s.n):=by rw [hcalm] at hIN4;exact hIN4
         clear hst3 hcalm hmem hgt hIN4
         go_wp2_with fail
         (refine qaw (by kernel_rfl) (by kernel_rfl) ?_;(repeat (first | go_big_quiet_step ((fail)) | quiet_step ((fail))));refine wpQuiet_nil ?_)
         intro w4 hx4
         obtain ⟨ub4,gc4,hub4,gf4⟩:=qab.get1 (hMK.out.ext qad.good hx4) ti (by rw [qbz];exact hti)
         have e24:=Ext.keep hx4 e2
         have hbe4:be<w4.heap.size:=Nat.lt_of_lt_of_le hbe hx4.size
         have hgl4:gm<w4.heap.size:=Nat.lt_of_lt_of_le hgl hx4.size
         have HSETM:=Hd (qab.put1 qad.good (hMK.out.ext qad.good hx4) (qbz _ _).symm ti (.bool true) true (by rw [qbz];exact hti) rfl)
         have hbs:Bt (fun q=>q=gm) w4 (w4.setCell ⟨gm,ti,none⟩ (.bool true)):=Bt.set (Z:=fun q=>q=gm) (Bt.refl _ w4) (p:=⟨gm,ti,none⟩) (.inr rfl) _
         have HO5:=Hd ((hO.out.ext qac.good hx4).bt qac.good hbs fun q hq hz=>⟨fun h=>h,fun e=>by
          have h:=((hO.out.ext qac.good hx4).own_lt e).1
          have hz':q=gm:=hz
          omega⟩)
         have e25:=hbs.cell e24 (fun h:be=gm=>hbg h)
         have hbe5:be<(w4.setCell ⟨gm,ti,none⟩ (.bool true)).heap.size:=Nat.lt_of_lt_of_le hbe4 hbs.size
         have HBS:=Hd ((hb3.ext hx4).trans (hbs.mono (Z':=fun q=>q=gm∨W1.heap.size≤q) fun q _ (h:q=gm)=>Or.inl h))
         clear e2 gc gf gl e1 hub4 x1
         go_upto_region 17 with (fail)
         obtain ⟨W5,hW5⟩:∃ W5,w4.setCell ⟨gm,ti,none⟩ (.bool true)=W5:=⟨_,rfl⟩
         rw [hW5] at HSETM HO5 e25 HBS hbe5
         rw [hW5]
         clear hW5 hbs gc4 gf4 e24
         rw [qjr] at HSETM
         have hyl:ys.length≤1000000:=by
          have h:=(qgb s ((qat s.es st).take j) lk).1
          rw [← hY.out] at h
          omega
         have hs5:W1.heap.size≤W5.heap.size:=Nat.le_trans hbt1.size HBS.out.size
         obtain ⟨g2,c2,w2,hr2,ho2,hb4,hg2,_⟩:=qcy qac.good (by decide) W1.heap.size 3 53 (.int .i64 0) 8 Tryz.underlying53 qhk rfl (by decide) (fun _=>False) W5 ys (.slice Ao ys.length co) (ti:Int) [.int .i64 ti] HO5.out ⟨rfl,by unfold I64;omega⟩ hs5 hyl
         have HO2:=Hd ho2
         have HB5:=Hd (hb4.mono (Z':=fun q=>(Value.slice Ao ys.length co).ownBlock=some q) fun _ _ h=>h)
         have HOL:Hid (∀ q,(Value.slice Ao ys.length co).ownBlock=some q→W1.heap.size≤q):=fun q e=>(HO5.out.own_lt e).1
         clear ho2 hb4 hg2 hO hMK hY
         go_wp2_with (at_builtin;refine wpList_append_run rfl _ _ _ rfl _ _ _ rfl rfl hr2 ?_;clear hr2)
         go_roundw
         case rel =>
          refine ⟨j+1,ys++[(ti:Int)],some ⟨g2,0,none⟩,c2,hlj,by go_num,by simp,HC.out,?_,(by have h:=HO2.out;show qab _ _ _ _ _ _ _ _;simpa using h),?_,HI4.out⟩
          ·exact HBS.out.trans (HB5.out.mono fun q _ h=>.inr (HOL.out q h))
          ·exact qfe HSETM.out HB5.out fun q e e'=>by
            have h1:gm=q:=by
             have h:some gm=some q:=e
             injection h
            have h2:=HOL.out q e'
            omega
         case measure=>simp [intOf];omega
       ·have hb1:(gg == -1)=false:=beq_eq_false_iff_ne.2 hgt
        rw [if_neg (fun h=>hgt h.1)] at hcalm
        have HC:Hid (ys=qa6 s ((qat s.es st).take (j+1)) lk):=by show _=_;rw [hst3,hcalm]
        clear hst3 hcalm hgt gf gc
        go_wp2_with fail
        (refine qaw (by kernel_rfl) (by kernel_rfl) ?_;(repeat (first | go_big_quiet_step ((fail)) | quiet_step ((fail))));refine wpQuiet_nil ?_)
        intro w4 hx4
        go_wp2_with fail
        go_roundw
        case rel=>exact ⟨j+1,ys,Ao,co,hlj,by go_num,rfl,HC.out,hb3.ext hx4,hO.out.ext qac.good hx4,hMK.out.ext qad.good hx4,hIN3.out⟩
        case measure=>simp [intOf];omega
      ·obtain rfl:j=eo.length:=by omega
       have HYY:Hid (ys=qa6 s (qat s.es st) lk):=by
        show _=_
        rw [hY.out,HALL.out]
       have hpo:ys.length+qcn s ys≤T∧lk.length≤ys.length:=by
        have h:=HPOT.out
        rw [← HYY.out] at h
        omega
       clear hY
       go_wp2_with fail
       go_roundw
       case rel =>
        refine ⟨k+1,ys,Ao,co,by omega,by go_num,rfl,hbt3,hO.out,hMK.out,hIN3.out,hpo.1,?_⟩
        obtain ⟨m,hm⟩:∃ m,T-k=m+1:=⟨T-k-1,by omega⟩
        have h:=HGO.out m hm
        rw [← HYY.out] at h
        rw [show T-(k+1)=m from by omega]
        exact h
       case measure=>simp [intOf];omega
    ·have HR:Hid (qc2 s bs=marksOf bs.length lk):=by
      show _=_
      have h:=hf.out
      rw [HFIN.out,← h]
      cases hq:T-k with
      | zero=>rw [qbc]
      | succ m=>rw [qbc,dif_neg hlt]
     go_wp2_with fail
     go_ret
     exact ⟨some ⟨gm,0,none⟩,cm,rfl,by rw [HR.out];exact hMK.out,hE7⟩
end
section
open Go.Shelf
def bs0 (n:Nat):List Bool:=(List.replicate n false).set 0 true
theorem bs0_len (n:Nat):(bs0 n).length=n:=by simp [bs0]
set_option maxHeartbeats 4000000 in
set_option maxRecDepth 100000 in
theorem start_c (S:Nat→Prop) (s:Sy) (hok:qai s) (cs:List Value) (n:Nat) (hn:s.n=(n:Int)) (w:World) (hx:RSy S w s cs) :
  Calls Tryz.prog 89 #[.agg cs.toArray] w (qia n (qc2 s (bs0 n)) w):=by
 have hn0:0<n:=by have:=hok.1;omega
 have hn1:n≤20000:=by have:=hok.2.1;omega
 have hcl:=fun W (hW:Ext w W) v (hv:RSl qad 1 (fun _=>True) W (bs0 n) [v])=>qnk (fun _=>True) s hok cs (bs0 n) v W (RSy.good.bel (RSy.good.mono hx fun _ _ _=>trivial) hW) hv (by rw [bs0_len,hn])
 obtain ⟨_,v1,u1,rfl,hv,hu⟩:=id hx
 obtain ⟨Al,cl,rfl,hcl1,hcl0⟩:=hv.val
 obtain ⟨Ae,ce,rfl,hce,hce0⟩:=hu.val
 clear hx hv hu
 rw [hn] at hcl ⊢
 rw [bs0_len] at hcl
 obtain ⟨W0,hW0⟩:∃ W0,w.alloc (.cells #[.int .i64 (n:Int),.slice Al s.ls.length cl,.slice Ae s.es.length ce] 25)=W0:=⟨_,rfl⟩
 have hE0:Ext w W0:=by rw [← hW0];exact (Ext.refl w).alloc _
 have hB0:qah W0 w.heap.size 25 [.int .i64 (n:Int),.slice Al s.ls.length cl,.slice Ae s.es.length ce]:=by rw [← hW0];exact qah.new w 25 _
 have hz0:W0.heap.size=w.heap.size+1:=by rw [← hW0,World.size_alloc]
 have hrow:=qgs W0 W0.heap.size n (Nat.le_refl _) (by omega)
 have hmk:=qh8 W0 n (by omega)
 obtain ⟨W1,hW1⟩:∃ W1,W0.alloc (.cells (Array.replicate n (.bool false)) 4)=W1:=⟨_,rfl⟩
 rw [hW1] at hrow hmk
 have hE1:Ext W0 W1:=by rw [← hW1];exact (Ext.refl _).alloc _
 have hB1:=hB0.ext hE1
 have hz1:W1.heap.size=w.heap.size+2:=by rw [← hW1,World.size_alloc,hz0]
 rw [hz0] at hrow hmk
 have hset:=qab.put1 qad.good hrow (by simp) 0 (.bool true) true (by simpa using hn0) rfl
 obtain ⟨_,gc,_,gf⟩:=qab.get1 hrow 0 (by simpa using hn0)
 have hbs:Bt (fun q=>q=w.heap.size+1) W1 (W1.setCell ⟨w.heap.size+1,0,none⟩ (.bool true)):=Bt.set (Z:=fun q=>q=w.heap.size+1) (Bt.refl _ W1) (p:=⟨w.heap.size+1,0,none⟩) (.inr rfl) _
 have hB2:=hB1.bt hbs (by omega)
 have hE2:Ext w (W1.setCell ⟨w.heap.size+1,0,none⟩ (.bool true)):=Bt.new (hE0.trans' hE1) hbs fun i _ hi=>by
  have h:i=w.heap.size+1:=hi
  omega
 have HROW:=Hd hset
 have HE2:=Hd hE2
 have HCL:=Hd (hcl _ hE2 _ ((RSl.good qad.good).mono (hset.sl qad.good (by decide)) fun _ _ _=>trivial))
 have HW0:=Hd hW0
 have x1:=hB0.cell 0 _
 have xz:=hB0.lt
 have y1:=hB1.lt
 have c0:=hB2.cell 0 _
 have c1:=hB2.cell 1 _
 have c2:=hB2.cell 2 _
 have cz:=hB2.lt
 have zn:(0:Int)<(n:Int):=by omega
 clear hB0 hB1 hB2 hbs hE2 hE0 hE1 hrow hset hcl hW0 hW1 hz0 hz1
 go_enter Tryz.func89,Tryz.ntmps89
 go_upto_region 1 with (fail)
 rw [HW0.out]
 go_wp2_with fail
 obtain ⟨W2,hW2⟩:∃ W2,W1.setCell ⟨w.heap.size+1,0,none⟩ (.bool true)=W2:=⟨_,rfl⟩
 rw [hW2] at HCL HE2 c0 c1 c2 cz
 rw [hW2]
 go_wp2_with fail
 refine HCL.out.mono ?_
 rintro e w3 ⟨A,c,rfl,h1,h2⟩
 go_wp2_with fail
 go_ret
 exact ⟨A,c,rfl,h1.base HE2.out.size,HE2.out.trans' h2⟩
end
section
open Go.Shelf
def mvB (s:Sy) (x:Lb) (bs:List Bool) (e:Ed):Bool:=qc1 bs e.f.toNat && (match s.ls[e.l.toNat]? with | some y=>qck y x | none=>false)
def mvL (s:Sy) (x:Lb) (bs:List Bool) (k:Nat):List Int:=((s.es.take k).filter (mvB s x bs)).map (·.t)
theorem mvL_succ (s:Sy) (x:Lb) (bs:List Bool) {k:Nat} (h:k<s.es.length):mvL s x bs (k+1)=if mvB s x bs s.es[k]=true then mvL s x bs k++[s.es[k].t] else mvL s x bs k:=by
 unfold mvL
 rw [List.take_succ_eq_append_getElem h,List.filter_append,List.map_append,List.filter_cons]
 split <;> simp
theorem qk0 (n:Nat):marksOf n []=List.replicate n false:=by
 apply List.ext_getElem
 ·simp [marksOf]
 ·intro i h1 h2
  rw [qez h1]
  simp
set_option maxHeartbeats 8000000 in
set_option maxRecDepth 100000 in
theorem moved_c (S:Nat→Prop) (s:Sy) (hok:qai s) (cs:List Value) (n:Nat) (hn:s.n=(n:Int)) (bs:List Bool) (hbl:bs.length=n) (v:Value) (x:Lb) (cx:List Value) (w:World) (hx:RSy S w s cs) (hm:RSl qad 1 S w bs [v]) (hlx:RLb S w x cx) :
  Calls Tryz.prog 91 #[.agg cs.toArray,v,.agg cx.toArray] w (qia n (qc2 s (marksOf n (mvL s x bs s.es.length))) w):=by
 have hn0:0<n:=by have:=hok.1;omega
 have hn1:n≤20000:=by have:=hok.2.1;omega
 have hel:=hok.2.2.2.1
 have hed:Hid (∀ j,(h:j<s.es.length)→qb1 s s.es[j]=true):=fun j h=>(hok.2.2.2.2.2 j h).1
 have HX:=Hd hx
 have HM:=Hd hm
 have HLX:=Hd hlx
 have HCL:=Hd (fun W (hW:Ext w W) u (hu:RSl qad 1 (fun _=>True) W (marksOf n (mvL s x bs s.es.length)) [u])=>qnk (fun _=>True) s hok cs (marksOf n (mvL s x bs s.es.length)) u W (RSy.good.bel (RSy.good.mono hx fun _ _ _=>trivial) hW) hu (by rw [qbz,hn]))
 obtain ⟨_,v1,u1,rfl,hv,hu⟩:=id hx
 obtain ⟨Al,cl,rfl,hcl1,hcl0⟩:=hv.val
 obtain ⟨Ae,ce,rfl,hce,hce0⟩:=hu.val
 obtain ⟨Ab,cb,rfl,hcb,hcb0⟩:=hm.val
 obtain ⟨_,vx,rfl,hvx⟩:=id hlx
 have HLB:=Hd hv
 have HEB:=Hd hu
 have HN:=Hd hn
 clear hx hv hu hm hlx hvx
 rw [hn,hbl]
 rw [hbl] at hcb
 have HBL:=Hd hbl
 obtain ⟨gx,hgx⟩:∃ gx,x.g=gx:=⟨_,rfl⟩
 rw [hgx]
 rw [hgx] at HLX
 clear hn hbl hgx
 obtain ⟨Wa,hWa⟩:∃ Wa,w.alloc (.cells #[.int .i64 (n:Int),.slice Al s.ls.length cl,.slice Ae s.es.length ce] 25)=Wa:=⟨_,rfl⟩
 have hBa:qah Wa w.heap.size 25 [.int .i64 (n:Int),.slice Al s.ls.length cl,.slice Ae s.es.length ce]:=by rw [← hWa];exact qah.new w 25 _
 have hza:Wa.heap.size=w.heap.size+1:=by rw [← hWa,World.size_alloc]
 have hEa:Ext w Wa:=by rw [← hWa];exact (Ext.refl w).alloc _
 obtain ⟨W0,hW0⟩:∃ W0,Wa.alloc (.cells #[.int .i64 gx,vx] 61)=W0:=⟨_,rfl⟩
 have hBx:qah W0 (w.heap.size+1) 61 [.int .i64 gx,vx]:=by rw [← hW0,← hza];exact qah.new Wa 61 _
 have hE0:Ext Wa W0:=by rw [← hW0];exact (Ext.refl Wa).alloc _
 have hz0:W0.heap.size=w.heap.size+2:=by rw [← hW0,World.size_alloc,hza]
 have hrow:=qgs W0 W0.heap.size n (Nat.le_refl _) (by omega)
 have hmk:=qh8 W0 n (by omega)
 obtain ⟨W1,hW1⟩:∃ W1,W0.alloc (.cells (Array.replicate n (.bool false)) 4)=W1:=⟨_,rfl⟩
 rw [hW1] at hrow hmk
 have hE1:Ext W0 W1:=by rw [← hW1];exact (Ext.refl _).alloc _
 have hB1:=(hBa.ext hE0).ext hE1
 have hB2:=hBx.ext hE1
 have hz1:W1.heap.size=w.heap.size+3:=by rw [← hW1,World.size_alloc,hz0]
 rw [hz0] at hrow hmk
 have HE1:=Hd ((hEa.trans' hE0).trans' hE1)
 have HB1:=Hd hB1
 have HB2:=Hd hB2
 have HROW:Hid (RBs w.heap.size W1 (marksOf n (mvL s x bs 0)) (.slice (some ⟨w.heap.size+2,0,none⟩) n n)):=by
  show RBs _ _ _ _
  rw [mvL,List.take_zero,List.filter_nil,List.map_nil,qk0]
  exact hrow.base (by omega)
 obtain ⟨gm,hgm⟩:∃ gm,w.heap.size+2=gm:=⟨_,rfl⟩
 have x0:=(hBa.ext hE0).cell 0 _
 have xz:=(hBa.ext hE0).lt
 rw [hgm] at HROW hmk
 have hg1:gm<W1.heap.size:=by omega
 have HG:Hid (w.heap.size≤gm):=by show _≤_;omega
 have HWa:=Hd hWa
 have HW0:=Hd hW0
 have hgp:w.heap.size≠gm:=by omega
 have hgp2:w.heap.size+1≠gm:=by omega
 clear hB1 hB2 hBa hBx hEa hE0 hE1 hrow hW1 hWa hW0 hza hz0 hz1 hgm
 go_enter Tryz.func91,Tryz.ntmps91
 go_upto_region 1 with (fail)
 rw [HWa.out,HW0.out]
 go_wp2_with fail
 go_loopw [8] (fun vi wr=>∃ k:Nat,k≤s.es.length∧vi = .int .i64 k∧Bt (fun q=>q=gm) W1 wr∧Hid (RBs w.heap.size wr (marksOf n (mvL s x bs k)) (.slice (some ⟨gm,0,none⟩) n n))) (fun vi _=>s.es.length-(intOf vi).toNat)
 case atStart=>exact ⟨0,Nat.zero_le _,rfl,Bt.refl _ _,HROW.out⟩
 case round =>
  clear x0 xz
  obtain ⟨k,hk,rfl,hbt,hMK⟩:=hrel
  have hE:Ext w wr:=Bt.new HE1.out hbt fun i _ hi=>by subst hi;exact HG.out
  have hb1:=HB1.out.bt hbt hgp
  have hb2:=HB2.out.bt hbt hgp2
  have x0:=hb1.cell 0 _
  have x1:=hb1.cell 1 _
  have x2:=hb1.cell 2 _
  have y0:=hb2.cell 0 _
  have y1:=hb2.cell 1 _
  have xz:=hb1.lt
  have yz:=hb2.lt
  have hgl:gm<wr.heap.size:=Nat.lt_of_lt_of_le hg1 hbt.size
  clear hb1 hb2
  have hX2:∀ (o:Obj) (y:World),Ext wr (qam (wr.alloc o) y):=fun o y=>((Ext.refl wr).alloc o).trans' (qa8 _ y)
  by_cases hlt:k<s.es.length
  ·obtain ⟨b,off,cs2,rfl,hb,hS,hl,hr,hcell⟩:=(qb6.good.bel HEB.out hE).get k hlt
   obtain ⟨_,_,_,rfl⟩:=id hr
   have g0:=hcell.get 0 _
   have g1:=hcell.get 1 _
   have g2:=hcell.get 2 _
   simp only [Nat.add_zero] at g0
   have hoke:=hed.out k hlt
   have hst:=mvL_succ s x bs hlt
   have hmv:mvB s x bs s.es[k]=(qc1 bs s.es[k].f.toNat && (match s.ls[s.es[k].l.toNat]? with | some y=>qck y x | none=>false)):=rfl
   rw [qhf] at hoke
   obtain ⟨qf,hq⟩:∃ q,s.es[k].f=q:=⟨_,rfl⟩;rw [hq] at hoke g0 hmv;clear hq
   obtain ⟨ql,hq⟩:∃ q,s.es[k].l=q:=⟨_,rfl⟩;rw [hq] at hoke g1 hmv;clear hq
   obtain ⟨qt,hq⟩:∃ q,s.es[k].t=q:=⟨_,rfl⟩;rw [hq] at hoke g2 hst;clear hq
   obtain ⟨fi,rfl⟩:∃ fi:Nat,qf=(fi:Int):=⟨qf.toNat,by omega⟩
   obtain ⟨li,rfl⟩:∃ li:Nat,ql=(li:Int):=⟨ql.toNat,by omega⟩
   obtain ⟨ti,rfl⟩:∃ ti:Nat,qt=(ti:Int):=⟨qt.toNat,by omega⟩
   have hN:=HN.out
   have hBLo:=HBL.out
   have hli:li<s.ls.length:=by omega
   have hfi:fi<bs.length:=by omega
   have hti:ti<n:=by omega
   rw [Int.toNat_natCast,Int.toNat_natCast,List.getElem?_eq_getElem hli,qd6 hfi] at hmv
   obtain ⟨bb,ob,cb2,hAb,hbb,_,_,hrb,hcb2⟩:=((RSl.good qad.good).bel HM.out hE).get fi hfi
   subst hAb
   obtain rfl:cb2=[.bool bs[fi]]:=hrb
   have d0:=hcb2.get 0 _
   simp only [Nat.add_zero,Nat.mul_one] at d0
   obtain ⟨bl,ol,cl2,hAl,hbl,_,_,hrl,hcl2⟩:=(qaa.good.bel HLB.out hE).get li hli
   subst hAl
   have hsame:=fun W (hW:Ext wr W)=>qoo S _ x _ _ W (RLb.good.bel hrl hW) (RLb.good.bel HLX.out (hE.trans' hW))
   obtain ⟨_,vl,rfl,hvl⟩:=id hrl
   have l0:=hcl2.get 0 _
   have l1:=hcl2.get 1 _
   simp only [Nat.add_zero] at l0
   have z1:(0:Int)≤(li:Int):=by omega
   have z2:(li:Int)<(s.ls.length:Int):=by omega
   have z3:(0:Int)≤(fi:Int):=by omega
   have z4:(fi:Int)<(n:Int):=by omega
   have z5:(0:Int)≤(ti:Int):=by omega
   have z6:(ti:Int)<(n:Int):=by omega
   have z7:(0:Int)≤(k:Int):=by omega
   have z8:(k:Int)<(s.es.length:Int):=by omega
   have hkl:k+1≤s.es.length:=hlt
   simp only at hmv
   obtain ⟨bf,hbf⟩:∃ bf,bs[fi]=bf:=⟨_,rfl⟩
   rw [hbf] at hmv d0
   obtain ⟨bt,hbt2⟩:∃ bt,qck s.ls[li] x=bt:=⟨_,rfl⟩
   rw [hbt2] at hmv hsame
   rw [hmv] at hst
   clear hr hcell hS hl hoke hmv hN hBLo hcb2 hcl2 hrl hvl hbf hbt2
   cases bf
   ·have HC:Hid (mvL s x bs (k+1)=mvL s x bs k):=by show _=_;rw [hst];rfl
    clear hst hsame
    go_wp2_with fail
    (refine qaw (by kernel_rfl) (by kernel_rfl) ?_;(repeat (first | go_big_quiet_step ((fail)) | quiet_step ((fail))));refine wpQuiet_nil ?_)
    intro w4 hx4
    go_wp2_with fail
    go_roundw
    case rel=>exact ⟨k+1,hkl,by go_num,hbt.ext (Ext.trans' ((Ext.refl wr).alloc _) hx4),by rw [HC.out];exact hMK.out.ext qad.good (Ext.trans' ((Ext.refl wr).alloc _) hx4)⟩
    case measure=>simp [intOf];omega
   ·cases bt
    ·have HC:Hid (mvL s x bs (k+1)=mvL s x bs k):=by show _=_;rw [hst];rfl
     clear hst
     go_wp2_with fail
     (refine qaw (by kernel_rfl) (by kernel_rfl) ?_;(repeat (first | go_big_quiet_step ((go_at_call 133;exact qav (hsame _ (hX2 _ _)))) | quiet_step ((go_at_call 133;exact qav (hsame _ (hX2 _ _))))));refine wpQuiet_nil ?_)
     intro w4 hx4
     go_wp2_with fail
     go_roundw
     case rel=>exact ⟨k+1,hkl,by go_num,hbt.ext (Ext.trans' ((Ext.refl wr).alloc _) hx4),by rw [HC.out];exact hMK.out.ext qad.good (Ext.trans' ((Ext.refl wr).alloc _) hx4)⟩
     case measure=>simp [intOf];omega
    ·have HC:Hid (mvL s x bs (k+1)=mvL s x bs k++[(ti:Int)]):=by show _=_;rw [hst];rfl
     clear hst
     go_wp2_with fail
     (refine qaw (by kernel_rfl) (by kernel_rfl) ?_;(repeat (first | go_big_quiet_step ((go_at_call 133;exact qav (hsame _ (hX2 _ _)))) | quiet_step ((go_at_call 133;exact qav (hsame _ (hX2 _ _))))));refine wpQuiet_nil ?_)
     intro w4 hx4
     have hX4:Ext wr w4:=Ext.trans' ((Ext.refl wr).alloc _) hx4
     have hMK4:=hMK.out.ext qad.good hX4
     obtain ⟨ub4,gc4,hub4,gf4⟩:=qab.get1 hMK4 ti (by rw [qbz];exact hti)
     have hset:=qab.put1 qad.good hMK4 (qbz _ _).symm ti (.bool true) true (by rw [qbz];exact hti) rfl
     have HB6:Hid (Bt (fun q=>q=gm) W1 (w4.setCell ⟨gm,ti,none⟩ (.bool true))):=Bt.set (Z:=fun q=>q=gm) (hbt.ext hX4) (p:=⟨gm,ti,none⟩) (.inr rfl) _
     have t4:=Ext.keep hx4 (show (wr.alloc (.cells #[.int .i64 (fi:Int),.int .i64 (li:Int),.int .i64 (ti:Int)] 88)).cell? ⟨wr.heap.size,2,none⟩=some (.int .i64 (ti:Int)) from (qah.new wr 88 [.int .i64 (fi:Int),.int .i64 (li:Int),.int .i64 (ti:Int)]).cell 2 _)
     have tz:wr.heap.size<w4.heap.size:=by have:=hx4.size;rw [World.size_alloc] at this;omega
     have hgl4:gm<w4.heap.size:=Nat.lt_of_lt_of_le hgl hX4.size
     rw [qjr,← HC.out] at hset
     have HSET:=Hd hset
     clear hset hMK4 hub4 hMK hsame
     go_wp2_with fail
     go_roundw
     case rel=>exact ⟨k+1,hkl,by go_num,HB6.out,HSET.out⟩
     case measure=>simp [intOf];omega
  ·obtain rfl:k=s.es.length:=by omega
   have hcon:=HCL.out wr hE _ ((RSl.good qad.good).mono (hMK.out.sl qad.good (by decide)) fun _ _ _=>trivial)
   rw [qbz,HN.out] at hcon
   go_wp2_with fail
   refine hcon.mono ?_
   rintro e w3 ⟨A,c,rfl,h1,h2⟩
   go_wp2_with fail
   go_ret
   exact ⟨A,c,rfl,h1.base hE.size,hE.trans' h2⟩
end
section
open Go.Shelf
theorem qn4 (s:Sy) (bs:List Bool) (n:Nat) (hn:s.n=(n:Int)):(qc2 s bs).length=n:=by
 rw [qc2,qbz,hn,Int.toNat_natCast]
def mvM (s:Sy) (n:Nat) (bs:List Bool) (x:Lb):List Bool:=qc2 s (marksOf n (mvL s x bs s.es.length))
def qde (s:Sy) (n:Nat) (tr:List Lb):List Bool:=tr.foldl (mvM s n) (qc2 s (bs0 n))
theorem qsu (s:Sy) (n:Nat) (tr:List Lb) (x:Lb):qde s n (tr++[x])=mvM s n (qde s n tr) x:=by simp [qde]
theorem qmv (s:Sy) (n:Nat) (hn:s.n=(n:Int)) (tr:List Lb):(qde s n tr).length=n:=by
 rcases List.eq_nil_or_concat tr with rfl | ⟨l,x,rfl⟩
 ·exact qn4 s _ n hn
 ·rw [List.concat_eq_append,qsu]
  exact qn4 s _ n hn
set_option maxHeartbeats 4000000 in
set_option maxRecDepth 100000 in
theorem qso (S:Nat→Prop) (s:Sy) (hok:qai s) (cs:List Value) (n:Nat) (hn:s.n=(n:Int)) (tr:List Lb) (v:Value) (w:World) (hx:RSy S w s cs) (ht:qaa S w tr [v]) (hl:tr.length≤1000000) :
  Calls Tryz.prog 86 #[.agg cs.toArray,v] w (qia n (qde s n tr) w):=by
 have HX:=Hd (RSy.good.mono hx (S':=fun _=>True) fun _ _ _=>trivial)
 have HT:=Hd (qaa.good.mono ht (S':=fun _=>True) fun _ _ _=>trivial)
 have hst:=fun W (hW:Ext w W)=>start_c (fun _=>True) s hok cs n hn W (RSy.good.bel HX.out hW)
 have hmv:=fun W (hW:Ext w W) bs (hb:bs.length=n) u (hu:RSl qad 1 (fun _=>True) W bs [u]) x cx (hc:RLb (fun _=>True) W x cx)=>moved_c (fun _=>True) s hok cs n hn bs hb u x cx W (RSy.good.bel HX.out hW) hu hc
 obtain ⟨_,v1,u1,rfl,hv,hu⟩:=id hx
 obtain ⟨Al,cl,rfl,hcl1,hcl0⟩:=hv.val
 obtain ⟨Ae,ce,rfl,hce,hce0⟩:=hu.val
 obtain ⟨At,ct,rfl,hct,hct0⟩:=ht.val
 have HN:=Hd hn
 rw [hn] at hst hmv
 rw [hn]
 have HMV:=Hd hmv
 clear hx hv hu ht hn hmv
 obtain ⟨W0,hW0⟩:∃ W0,w.alloc (.cells #[.int .i64 (n:Int),.slice Al s.ls.length cl,.slice Ae s.es.length ce] 25)=W0:=⟨_,rfl⟩
 have hE0:Ext w W0:=by rw [← hW0];exact (Ext.refl w).alloc _
 have hB0:qah W0 w.heap.size 25 [.int .i64 (n:Int),.slice Al s.ls.length cl,.slice Ae s.es.length ce]:=by rw [← hW0];exact qah.new w 25 _
 have x0:=hB0.cell 0 _
 have x1:=hB0.cell 1 _
 have x2:=hB0.cell 2 _
 have xz:=hB0.lt
 have HB0:=Hd hB0
 have HE0:=Hd hE0
 have HW0:=Hd hW0
 have hst0:=hst W0 hE0
 obtain ⟨p0,hp0⟩:∃ p0,w.heap.size=p0:=⟨_,rfl⟩
 rw [hp0] at HB0 x0 x1 x2 xz
 have HP0:=Hd hp0
 clear hB0 hE0 hW0 hst hp0
 go_enter Tryz.func86,Tryz.ntmps86
 go_upto_region 1 with (fail)
 rw [HW0.out,HP0.out]
 go_wp2_with fail
 refine hst0.mono ?_
 rintro e w1 ⟨A,c,rfl,ho,h1⟩
 have HE1:=Hd (HE0.out.trans' h1)
 have HO:=Hd (ho.base (base':=w.heap.size) HE0.out.size)
 have HB1:=Hd (HB0.out.ext h1)
 clear ho x0 x1 x2 xz
 go_wp2_with fail
 go_loopw [5,6] (fun v5 vi wr=>∃ (k:Nat) (A:Option Addr) (c:Nat),k≤tr.length∧vi = .int .i64 k∧v5 = .slice A n c∧Ext w1 wr∧Hid (RBs w.heap.size wr (qde s n (tr.take k)) (.slice A n c))) (fun _ vi _=>tr.length-(intOf vi).toNat)
 case atStart=>exact ⟨0,A,c,Nat.zero_le _,rfl,rfl,Ext.refl _,HO.out⟩
 case round =>
  obtain ⟨k,A,c,hk,rfl,rfl,hE,hO⟩:=hrel
  have hbx:=HB1.out.ext hE
  have x0:=hbx.cell 0 _
  have x1:=hbx.cell 1 _
  have x2:=hbx.cell 2 _
  have xz:=hbx.lt
  clear hbx
  by_cases hlt:k<tr.length
  ·obtain ⟨b,off,cs2,rfl,hb,hS,hl2,hr,hcell⟩:=(qaa.good.bel HT.out (HE1.out.trans' hE)).get k hlt
   have hca:=fun W (hW:Ext wr W)=>HMV.out W ((HE1.out.trans' hE).trans' hW) (qde s n (tr.take k)) (qmv s n HN.out _) _ ((RSl.good qad.good).bel ((RSl.good qad.good).mono (hO.out.sl qad.good (by decide)) fun _ _ _=>trivial) hW) _ _ (RLb.good.bel hr hW)
   have HSN:Hid (qc2 s (marksOf n (mvL s tr[k] (qde s n (tr.take k)) s.es.length))=qde s n (tr.take (k+1))):=by
    show _=_
    rw [List.take_succ_eq_append_getElem hlt,qsu]
    rfl
   obtain ⟨_,vl,rfl,hvl⟩:=id hr
   have g0:=hcell.get 0 _
   have g1:=hcell.get 1 _
   simp only [Nat.add_zero] at g0
   have hkl:k+1≤tr.length:=hlt
   obtain ⟨gx,hgx⟩:∃ gx,tr[k].g=gx:=⟨_,rfl⟩
   rw [hgx] at hca g0
   obtain ⟨NB,hNB⟩:∃ NB,qc2 s (marksOf n (mvL s tr[k] (qde s n (tr.take k)) s.es.length))=NB:=⟨_,rfl⟩
   rw [hNB] at hca HSN
   obtain ⟨w7,rfl⟩:∃ w7,w7=wr:=⟨_,rfl⟩
   clear hcell hl2 hS hr hvl hgx hNB
   go_wp2_with fail
   go_region_held3 (fun W=>W.cell? ⟨p0,0,none⟩=some (.int .i64 (n:Int))∧W.cell? ⟨p0,1,none⟩=some (.slice Al s.ls.length cl)∧W.cell? ⟨p0,2,none⟩=some (.slice Ae s.es.length ce)∧W.cell? ⟨b,off+k*2,none⟩=some (.int .i64 gx)∧W.cell? ⟨b,off+k*2+1,none⟩=some vl)
    (first | (refine ⟨?_,?_,?_,?_,?_⟩ <;> go_simp <;> done) | exact Ext.k5 hx1 (by assumption) | exact Ext.k5 (qaf.ext hx1) (by assumption) | exact Ext.k5 ((Ext.refl _).alloc _) (by assumption))
    (first | (go_at_call 91;refine (hca _ bel).mono ?_;rintro e w2 ⟨A1,c1,rfl,ho1,hx1⟩))
   have hx6:Ext w7 w2:=Ext.trans' (Below.drew (Ext.refl _)) hx1
   have HO1:Hid (RBs w.heap.size w2 (qde s n (tr.take (k+1))) (.slice A1 n c1)):=by
    show RBs _ _ _ _
    rw [← HSN.out]
    exact ho1.base (Nat.le_trans (Nat.le_trans HE1.out.size hE.size) (show Ext w7 w7.drew from Below.drew (Ext.refl _)).size)
   clear ho1
   go_wp2_with fail
   go_roundw
   case rel=>exact ⟨k+1,A1,c1,hkl,by go_num,rfl,hE.trans' hx6,HO1.out⟩
   case measure=>simp [intOf];omega
  ·obtain rfl:k=tr.length:=by omega
   have HF:Hid (RBs w.heap.size wr (qde s n tr) (.slice A n c)):=by have h:=hO.out;rw [List.take_length] at h;exact h
   go_wp2_with fail
   go_ret
   exact ⟨A,c,rfl,HF.out,HE1.out.trans' hE⟩
end
end Go.Proofs.YtegenalcheooeaaGreat
