/- Of the proof of a law of the suites: Copied, Su2, Scal, Steps, Marks, CalmW, Rng. -/
import Derived.Test.YtegenalcheooeaaGreatB02
import Derived.Test.YtegenalcheooeaaGreatB04
import Derived.Test.YtegenalcheooeaaGreatB05
import Derived.Test.YtegenalcheooeaaGreatB07
import Derived.Test.YtegenalcheooeaaGreatB09
import Derived.Deep.RegionWith
import Derived.Laws.OwnMore
import Derived.Lib.SmallJoins
import Derived.RangeFuncBox
import Derived.BigQuiet
import Derived.RangeFuncNested
import Derived.RangeFuncBound
import Derived.RangeFuncCalls
import Derived.RangeFuncLeaves
import Derived.Shelf.Abstract
import Derived.Shelf.RegionOpen
import Derived.WalkKit
import Derived.OwnWalkIn
import Derived.TacticsInMore
import Derived.LoopNIn
import Derived.LoopIn
set_option linter.unusedSectionVars false
set_option linter.unusedSimpArgs false
set_option linter.unusedVariables false
namespace Go.Proofs.YtegenalcheooeaaGreat
open Go.RowKit
attribute [local go_sem] cell?_exto
section
set_option maxHeartbeats 1000000
set_option maxRecDepth 100000
/- suite.copied: labels in memory of their own. -/
section
variable {α:Type} {R:Rdr α} {k:Nat}
theorem Flat.put {S:Nat->Prop} {w w':World} (hk:∀ {x cs},R S w x cs->cs.length=k):∀ {xs:List α} {cs:List Value} (i c:Nat) (u:Value) (x':α),Flat R k S w xs cs->c<k->(hi:i<xs.length) ->
  (∀ x∈xs,∀ cs,R S w x cs->R S w' x cs)->(∀ cs,R S w xs[i] cs->R S w' x' (cs.set c u))->Flat R k S w' (xs.set i x') (cs.set (i*k+c) u)
 | [],_,_,_,_,_,_,_,hi,_,_=>absurd hi (by simp)
 | x :: xs,cs,0,c,u,x',⟨c1,c2,h1,h2,h3,h4⟩,hc,_,hm,hn=>by
  subst h1
  refine ⟨c1.set c u,c2,?_,by simpa using h2,hn c1 h3,h4.imp fun y hy=>hm y (by simp [hy])⟩
  rw [Nat.zero_mul,Nat.zero_add,List.set_append_left _ _ (by omega)]
 | x :: xs,cs,i+1,c,u,x',⟨c1,c2,h1,h2,h3,h4⟩,hc,hi,hm,hn=>by
  subst h1
  refine ⟨c1,c2.set (i*k+c) u,?_,h2,hm x (by simp) _ h3,Flat.put hk i c u x' h4 hc (by simpa using hi) (fun y hy=>hm y (by simp [hy])) (by simpa using hn)⟩
  rw [List.set_append_right _ _ (by rw [h2,Nat.add_mul];omega)]
  congr 2
  rw [h2,Nat.add_mul]
  omega
theorem qab.put {e:TypeId} {base:Nat} {T:Nat->Prop} {w:World} {xs:List α} {g cap:Nat} (hR:Good R k) (h:qab R k e base T w xs (.slice (some ⟨g,0,none⟩) xs.length cap)) (i c:Nat) (u:Value) (x':α) (hc:c<k) (hi:i<xs.length)
  (hn:∀ cs,R (fun b=>T b∧b≠g) w xs[i] cs->R (fun b=>T b∧b≠g) w x' (cs.set c u)):qab R k e base T (w.setCell ⟨g,i*k+c,none⟩ u) (xs.set i x') (.slice (some ⟨g,0,none⟩) xs.length cap):=by
 obtain ⟨news,h1,h2⟩:=h
 have hS:(fun b=>T b∧(Value.slice (some ⟨g,0,none⟩) xs.length cap).ownBlock≠some b)=fun b=>T b∧b≠g:=by
  funext b
  simp [Value.ownBlock,eq_comm]
 rw [hS] at h2
 have hb:=grownBy_setCell' w g u
 have hkp:Kp (fun b=>T b∧b≠g) w (w.setCell ⟨g,i*k+c,none⟩ u):=⟨by simp [World.setCell],fun q _ hq=>Below.heap_setCell w _ u q hq.2⟩
 refine ⟨news.set (i*k+c) u,?_,?_⟩
 ·rw [List.length_set]
  exact (h1.stored _ u).1
 ·rw [hS]
  exact Flat.put (fun h=>hR.len h) i c u x' h2 hc hi (fun x _ cs hx=>hR.move hx hkp) fun cs hx=>hR.move (hn cs hx) hkp
theorem Flat.at {S:Nat->Prop} {w:World}:∀ {xs:List α} {cs:List Value} (i:Nat) (hi:i<xs.length),Flat R k S w xs cs->∃ c1,c1.length=k∧R S w xs[i] c1∧∀ j,j<k->cs[i*k+j]? = c1[j]?
 | x :: xs,cs,0,_,⟨c1,c2,h1,h2,h3,h4⟩=>⟨c1,h2,h3,fun j hj=>by rw [h1,Nat.zero_mul,Nat.zero_add,List.getElem?_append_left (by omega)]⟩
 | x :: xs,cs,i+1,hi,⟨c1,c2,h1,h2,h3,h4⟩=>by
  obtain ⟨d,h5,h6,h7⟩:=Flat.at i (by simpa using hi) h4
  refine ⟨d,h5,by simpa using h6,fun j hj=>?_⟩
  rw [h1,List.getElem?_append_right (by rw [h2,Nat.add_mul];omega),<- h7 j hj]
  congr 1
  rw [h2,Nat.add_mul]
  omega
theorem qex (g n cap:Nat) (T:Nat->Prop):(fun b=>T b∧(Value.slice (some ⟨g,0,none⟩) n cap).ownBlock≠some b)=fun b=>T b∧b≠g:=by
 funext b
 simp [Value.ownBlock,eq_comm]
theorem qc6 {W W1:World} (he:Ext W W1) {a:Addr} (hb:a.block<W.heap.size) (h:W.frozen? a=false):W1.frozen? a=false:=(he.frozen hb).trans h
end
theorem Tm.size_pos (t:Tm):0<t.size:=by cases t;rw [Tm.size];omega
theorem Tm.sizes_len:∀ l:List Tm,l.length<=Tm.sizes l
 | []=>by simp
 | t :: l=>by
  have:=Tm.sizes_len l
  have:=t.size_pos
  rw [Tm.sizes,List.length_cons]
  omega
theorem Tm.sizes_l (t:Tm):Tm.sizes t.l<t.size:=by cases t;rw [Tm.size];exact Nat.lt_succ_self _
def CopyC (l:List Tm):Prop:=∀ (S:Nat->Prop) (B:Nat) (v:Value) (W:World),qam S W l [v]->W.cell? ⟨B,0,none⟩=some (.func (.func 151) #[] #[.pointer (some ⟨B,0,none⟩)]) ->
  Calls Tryz.prog 151 #[v,.pointer (some ⟨B,0,none⟩)] W fun e w'=>∃ A c,e = .returned (.slice A l.length c)∧qam (fun b=>(S b∧b<W.heap.size)∨W.heap.size<=b) w' l [.slice A l.length c]∧Ext W w'
theorem copied1_c:∀ (n:Nat) (l:List Tm),Tm.sizes l<=n->n<=1000000000->CopyC l:=by
 intro n
 induction n using Nat.strongRecOn with
 | _ n ih =>
 intro l hl hn S B v w hx hB
 have hB0:=World.block_lt_of_cell? w _ hB
 have hll:=Tm.sizes_len l
 have hcl:=fun W (hW:Ext w W)=>cloneTm S l v W (qam.good.bel hx hW) (by omega)
 obtain ⟨A,c,rfl,_,_⟩:=hx.val
 obtain ⟨T,hT⟩:∃ T:Nat->Prop,T=fun b=>(S b∧b<w.heap.size)∨w.heap.size<=b:=⟨_,rfl⟩
 have HX:=Hd hx
 clear hx
 rw [<- hT]
 go_enter Tryz.func151,Tryz.ntmps151
 go_wp2_with fail
 refine (cloneTm (fun b=>S b∧b<w.heap.size) l _ _ (qam.good.mono HX.out fun b h1 h2=>⟨h2,h1⟩) (by omega)).mono ?_
 rintro e w1 ⟨v1,rfl,hv1,h1⟩
 obtain ⟨A1,c1,rfl,_,_⟩:=(hv1.sl RTm.good (by decide)).val
 have HV:=Hd (hv1.mono (T':=T) RTm.good fun b _ h=>by rw [hT];exact .inl h)
 clear hv1 HX hcl
 go_wp2_with fail
 go_loopw [9] (fun i wr=>∃ k:Nat,k<=l.length∧i = .int .i64 k∧qab RTm 3 159 w.heap.size T wr l (.slice A1 l.length c1)∧Ext w wr) (fun i _=>l.length-(intOf i).toNat)
 case atStart=>exact ⟨0,Nat.zero_le _,rfl,HV.out,h1⟩
 case round =>
  obtain ⟨k,hk,rfl,hv,hE⟩:=hrel
  by_cases hlt:k<l.length
  ·obtain ⟨news,hrow,hF⟩:=id hv
   obtain ⟨g,cap,he⟩:=Joins.ownsRow_form hrow (by omega)
   injection he with he1 _ he2
   subst he1 he2
   rw [qex] at hF
   obtain ⟨c2,hc2,hr,hat⟩:=hF.at k hlt
   obtain ⟨_,_,v2,rfl,hv2⟩:=(qaz ..).1 hr
   have gc:wr.cell? ⟨g,k*3+2,none⟩=some v2:=by rw [hrow.cellAt _ (by omega),hat 2 (by decide)];rfl
   have gf:=hrow.frozenAt (k*3+2)
   have hgl:g<wr.heap.size:=World.block_lt_of_cell? wr _ gc
   have hrec:=fun W (hW:Ext wr W)=>ih (Tm.sizes l[k].l) (by have:=Tm.sizes_l l[k];have:=Tm.size_mem (List.getElem_mem hlt);omega) l[k].l (Nat.le_refl _) (by have:=Tm.sizes_l l[k];have:=Tm.size_mem (List.getElem_mem hlt);omega) (fun b=>T b∧b≠g) B v2 W (qam.good.bel hv2 hW) (Ext.keep (hE.trans' hW) hB)
   obtain ⟨A2,c2,rfl,_,_⟩:=hv2.val
   have gB:=Ext.keep hE hB
   have hgw:w.heap.size<=g:=(qb1 hrow g rfl).1
   have key:∀ (w3:World) (A3:Option Addr) (c3:Nat),Ext wr.drew w3->qam (fun b=>(T b∧b≠g)∧b<wr.drew.heap.size∨wr.drew.heap.size<=b) w3 l[k].l [.slice A3 l[k].l.length c3] ->
     qab RTm 3 159 w.heap.size T (w3.setCell ⟨g,k*3+2,none⟩ (.slice A3 l[k].l.length c3)) l (.slice (some ⟨g,0,none⟩) l.length c1)∧Ext w (w3.setCell ⟨g,k*3+2,none⟩ (.slice A3 l[k].l.length c3)):=fun w3 A3 c3 hx ho=>by
    have hx':Ext wr w3:=Ext.trans' (Ext.refl wr).drew hx
    have h:=qab.put RTm.good (hv.ext RTm.good hx') k 2 (.slice A3 l[k].l.length c3) l[k] (by decide) hlt fun cs hcs=>by
     obtain ⟨i1,i2,u,rfl,hu⟩:=(qaz ..).1 hcs
     refine (qaz ..).2 ⟨i1,i2,_,rfl,qam.good.mono ho fun b _ hb=>?_⟩
     rcases hb with ⟨h,_⟩ | h
     ·exact h
     ·have h':wr.heap.size<=b:=h
      have:=hE.size
      exact ⟨by rw [hT];exact .inr (by omega),by omega⟩
    rw [List.set_getElem_self] at h
    exact ⟨h,(hE.trans' hx').set hgw _⟩
   have HK:=Hd key
   clear hv hF hr hat hv2 hrow key
   go_wp2_with fail
   go_region_with (first | (go_at_call 151;refine (hrec _ bel).mono ?_;rintro e w3 ⟨A3,c3,rfl,ho3,hx1⟩;have gf3:=qc6 hx1 (by assumption) gf;have gc3:=Ext.keep hx1 gc))
   all_goals go_wp2_with fail
   all_goals go_roundw
   all_goals first
    | exact ⟨k+1,by omega,by go_num,(HK.out _ _ _ hx1 ho3).1,(HK.out _ _ _ hx1 ho3).2⟩
    | (simp [intOf];omega)
  ·have HO:=Hd hv
   clear hv
   go_wp2_with fail
   go_ret
   refine ⟨A1,c1,rfl,qam.good.mono (HO.out.sl RTm.good (by decide)) fun b _ hb=>?_,hE⟩
   rw [hT]
   rcases hb with h | h
   ·rw [hT] at h;exact h
   ·exact .inr h
def Lb.size (x:Lb):Nat:=Tm.sizes x.v
theorem qmc (S:Nat->Prop) (l:List Lb) (v:Value) (w:World) (hx:qaa S w l [v]) (hsz:∀ x∈l,x.size<=1000000000) (hbig:l.length*32<=140737488355328) :
  Calls Tryz.prog 82 #[v] w fun e w'=>∃ A c,e = .returned (.slice A l.length c)∧qaa (fun b=>(S b∧b<w.heap.size)∨w.heap.size<=b) w' l [.slice A l.length c]∧Ext w w':=by
 obtain ⟨A,c,rfl,_,_⟩:=hx.val
 obtain ⟨T,hT⟩:∃ T:Nat->Prop,T=fun b=>(S b∧b<w.heap.size)∨w.heap.size<=b:=⟨_,rfl⟩
 have HX:=Hd hx
 clear hx
 rw [<- hT]
 go_enter Tryz.func82,Tryz.ntmps82
 go_wp2_with fail
 obtain ⟨W0,hW0⟩:∃ W0,w.alloc (.cells #[.func (.func 151) #[] #[.pointer (some ⟨w.heap.size,0,none⟩)]] 194)=W0:=⟨_,rfl⟩
 have hX0:Ext w W0:=by rw [<- hW0];exact (Ext.refl w).alloc _
 have hB:W0.cell? ⟨w.heap.size,0,none⟩=some (.func (.func 151) #[] #[.pointer (some ⟨w.heap.size,0,none⟩)]):=by rw [<- hW0];simp
 have hB0:=World.block_lt_of_cell? W0 _ hB
 rw [hW0]
 clear hW0
 refine (qn3 (fun b=>S b∧b<w.heap.size) l _ _ (qaa.good.bel (qaa.good.mono HX.out fun b h1 h2=>⟨h2,h1⟩) hX0) hbig).mono ?_
 rintro e w1 ⟨v1,rfl,hv1,h1⟩
 obtain ⟨A1,c1,rfl,_,_⟩:=(hv1.sl RLb.good (by decide)).val
 have HV:=Hd (hv1.mono (T':=T) RLb.good fun b _ h=>by rw [hT];exact .inl h)
 have hszW:=hX0.size
 have hX1:Ext w w1:=hX0.trans' h1
 have hB1:=Ext.keep h1 hB
 clear hv1 HX hB
 go_wp2_with fail
 go_loopw [10] (fun i wr=>∃ k:Nat,k<=l.length∧i = .int .i64 k∧qab RLb 2 61 W0.heap.size T wr l (.slice A1 l.length c1)∧Ext w wr∧wr.cell? ⟨w.heap.size,0,none⟩=some (.func (.func 151) #[] #[.pointer (some ⟨w.heap.size,0,none⟩)])) (fun i _=>l.length-(intOf i).toNat)
 case atStart=>exact ⟨0,Nat.zero_le _,rfl,HV.out,hX1,hB1⟩
 case round =>
  obtain ⟨k,hk,rfl,hv,hE,gB⟩:=hrel
  by_cases hlt:k<l.length
  ·obtain ⟨news,hrow,hF⟩:=id hv
   obtain ⟨g,cap,he⟩:=Joins.ownsRow_form hrow (by omega)
   injection he with he1 _ he2
   subst he1 he2
   rw [qex] at hF
   obtain ⟨c2,hc2,hr,hat⟩:=hF.at k hlt
   obtain ⟨hi1,v2,rfl,hv2⟩:=id hr
   have gc:wr.cell? ⟨g,k*2+1,none⟩=some v2:=by rw [hrow.cellAt _ (by omega),hat 1 (by decide)];rfl
   have gf:=hrow.frozenAt (k*2+1)
   have hgl:g<wr.heap.size:=World.block_lt_of_cell? wr _ gc
   have hrec:=fun W (hW:Ext wr W)=>copied1_c (Tm.sizes l[k].v) l[k].v (Nat.le_refl _) (hsz _ (List.getElem_mem hlt)) (fun b=>T b∧b≠g) w.heap.size v2 W (qam.good.bel hv2 hW) (Ext.keep hW gB)
   obtain ⟨A2,c2,rfl,_,_⟩:=hv2.val
   have hgw:W0.heap.size<=g:=(qb1 hrow g rfl).1
   have key:∀ (w3:World) (A3:Option Addr) (c3:Nat),Ext wr.drew w3->qam (fun b=>(T b∧b≠g)∧b<wr.drew.heap.size∨wr.drew.heap.size<=b) w3 l[k].v [.slice A3 l[k].v.length c3] ->
     qab RLb 2 61 W0.heap.size T (w3.setCell ⟨g,k*2+1,none⟩ (.slice A3 l[k].v.length c3)) l (.slice (some ⟨g,0,none⟩) l.length c1)∧Ext w (w3.setCell ⟨g,k*2+1,none⟩ (.slice A3 l[k].v.length c3))∧(w3.setCell ⟨g,k*2+1,none⟩ (.slice A3 l[k].v.length c3)).cell? ⟨w.heap.size,0,none⟩=some (.func (.func 151) #[] #[.pointer (some ⟨w.heap.size,0,none⟩)]):=fun w3 A3 c3 hx ho=>by
    have hx':Ext wr w3:=Ext.trans' (Ext.refl wr).drew hx
    have h:=qab.put RLb.good (hv.ext RLb.good hx') k 1 (.slice A3 l[k].v.length c3) l[k] (by decide) hlt fun cs hcs=>by
     obtain ⟨i1,u,rfl,hu⟩:=hcs
     refine ⟨i1,_,rfl,qam.good.mono ho fun b _ hb=>?_⟩
     rcases hb with ⟨h,_⟩ | h
     ·exact h
     ·have h':wr.heap.size<=b:=h
      have:=hE.size
      exact ⟨by rw [hT];exact .inr (by omega),by omega⟩
    rw [List.set_getElem_self] at h
    exact ⟨h,(hE.trans' hx').set (Nat.le_trans hszW hgw) _,(World.cell?_of_block (a:=⟨w.heap.size,0,none⟩) (Below.heap_setCell w3 _ _ _ (by show w.heap.size≠g;omega))).trans (Ext.keep hx' gB)⟩
   have HK:=Hd key
   clear hv hF hr hat hv2 hrow key
   go_wp2_with fail
   go_region_with (first | (go_at_call 151;refine (hrec _ bel).mono ?_;rintro e w3 ⟨A3,c3,rfl,ho3,hx1⟩;have gf3:=qc6 hx1 (by assumption) gf;have gc3:=Ext.keep hx1 gc))
   all_goals go_wp2_with fail
   all_goals go_roundw
   all_goals first
    | exact ⟨k+1,by omega,by go_num,(HK.out _ _ _ hx1 ho3).1,(HK.out _ _ _ hx1 ho3).2.1,(HK.out _ _ _ hx1 ho3).2.2⟩
    | (simp [intOf];omega)
  ·have HO:=Hd hv
   clear hv
   go_wp2_with fail
   go_ret
   refine ⟨A1,c1,rfl,qaa.good.mono (HO.out.sl RLb.good (by decide)) fun b _ hb=>?_,hE⟩
   rw [hT]
   rcases hb with h | h
   ·rw [hT] at h;exact h
   ·exact .inr (by omega)
end
section
set_option maxHeartbeats 1000000
set_option maxRecDepth 100000
/- suite: binary search,within,common,subset. -/
def bsI (p:Nat->Bool):Nat->Nat->Nat->Nat
 | 0,i,_=>i
 | f+1,i,j=>if i<j then (if p ((i+j) / 2) then bsI p f ((i+j) / 2+1) j else bsI p f i ((i+j) / 2)) else i
theorem qir (p:Nat->Bool):∀ (f i j:Nat),j-i<=f->bsI p f i j=bsI p (j-i) i j
 | 0,i,j,h=>by rw [show j-i=0 from by omega]
 | f+1,i,j,h=>by
  by_cases hij:i<j
  ·obtain ⟨m,hm⟩:∃ m,j-i=m+1:=⟨j-i-1,by omega⟩
   rw [hm,bsI,bsI,if_pos hij,if_pos hij]
   split
   ·rw [qir p f _ _ (by omega),qir p m _ _ (by omega)]
   ·rw [qir p f _ _ (by omega),qir p m _ _ (by omega)]
  ·rw [show j-i=0 from by omega,bsI,bsI,if_neg hij]
theorem qpy (p:Nat->Bool) (i j:Nat) (h:i<j):bsI p (j-i) i j=if p ((i+j) / 2) then bsI p (j-((i+j) / 2+1)) ((i+j) / 2+1) j else bsI p ((i+j) / 2-i) i ((i+j) / 2):=by
 obtain ⟨m,hm⟩:∃ m,j-i=m+1:=⟨j-i-1,by omega⟩
 rw [hm,bsI,if_pos h]
 split
 ·rw [qir p m _ _ (by omega)]
 ·rw [qir p m _ _ (by omega)]
theorem qka (p:Nat->Bool):∀ (f i j:Nat),i<=j->i<=bsI p f i j∧bsI p f i j<=j
 | 0,i,j,h=>by rw [bsI];omega
 | f+1,i,j,h=>by
  rw [bsI]
  split
  ·split
   ·have:=qka p f ((i+j) / 2+1) j (by omega);omega
   ·have:=qka p f i ((i+j) / 2) (by omega);omega
  ·omega
def bsP (l:List Lb) (x:Lb) (h:Nat):Bool:=match l[h]? with | some y=>decide (qan y x<0) | none=>false
def qcg (l:List Lb) (x:Lb):Nat:=bsI (bsP l x) l.length 0 l.length
def isAt (l:List Lb) (x:Lb) (h:Nat):Bool:=match l[h]? with | some y=>decide (qan y x=0) | none=>false
def qc5 (x:Lb) (l:List Lb):Bool:=isAt l x (qcg l x)
theorem qgz {l:List Lb} {x:Lb} {h:Nat} (hh:h<l.length):bsP l x h=decide (qan l[h] x<0):=by simp [bsP,List.getElem?_eq_getElem hh]
theorem qnu {l:List Lb} {x:Lb} {h:Nat} (hh:h<l.length):isAt l x h=decide (qan l[h] x=0):=by simp [isAt,List.getElem?_eq_getElem hh]
theorem qmp {l:List Lb} {x:Lb} {h:Nat} (hh:¬ h<l.length):isAt l x h=false:=by simp [isAt,List.getElem?_eq_none (Nat.le_of_not_lt hh)]
theorem qnj (S:Nat->Prop) (l:List Lb) (x:Lb) (v:Value) (cx:List Value) (w:World) (hl:qaa S w l [v]) (hx:RLb S w x cx) (hn:l.length<=4611686018427387903) :
  Calls Tryz.prog 213 #[v,.agg cx.toArray,.func (.func 166) #[] #[]] w fun e w'=>e = .returned (.tuple #[.int .i64 (qcg l x:Nat),.bool (qc5 x l)])∧qad w w':=by
 obtain ⟨A,c,rfl,hc,hc0⟩:=hl.val
 obtain ⟨_,vx,rfl,hvx⟩:=id hx
 have HL:=Hd hl
 have HX:=Hd hx
 clear hl hx hvx
 go_enter Tryz.func213,Tryz.ntmps213
 go_wp2_with fail
 go_loopw [9,10,11] (fun vi vj _ wr=>∃ i j:Nat,i<=j∧j<=l.length∧vi = .int .i64 i∧vj = .int .i64 j∧qad w wr∧wr.cell? ⟨w.heap.size,0,none⟩=some (.int .i64 x.g)∧wr.cell? ⟨w.heap.size,1,none⟩=some vx∧Hid (qcg l x=bsI (bsP l x) (j-i) i j)) (fun vi vj _ _=>((intOf vj)-(intOf vi)).toNat)
 case atStart=>exact ⟨0,l.length,Nat.zero_le _,Nat.le_refl _,rfl,rfl,qaj,by go_simp,by go_simp,rfl⟩
 case round =>
  obtain ⟨i,j,hij,hj,rfl,rfl,hE,q0,q1,hbs⟩:=hrel
  by_cases hlt:i<j
  ·have hst0:=qpy (bsP l x) i j hlt
   obtain ⟨h,hh⟩:∃ h,(i+j) / 2=h:=⟨_,rfl⟩
   have y1:((i:Int)+(j:Int)) / 2=(h:Int):=by omega
   have hm:h<l.length:=by omega
   have hm1:i<=h:=by omega
   have hm2:h<j:=by omega
   rw [hh] at hst0
   clear hh
   obtain ⟨b,off,cs,rfl,hb,hs,hl,hr,hcell⟩:=(qaa.good.ext HL.out hE).get (h) hm
   obtain ⟨_,v1,rfl,hv1⟩:=id hr
   have g0:=hcell.get 0 _
   have g1:=hcell.get 1 _
   simp only [Nat.add_zero] at g0
   have hcmp:=fun W (hW:qad wr W)=>qhu S _ _ _ _ W (RLb.good.ext hr hW) (RLb.good.ext HX.out (hE.trans hW))
   have z1:(0:Int)<=(h:Int):=by omega
   have z2:(h:Int)<(l.length:Int):=by omega
   have hst:=Hd hst0
   clear hst0
   clear hcell hl hs hv1 hr
   by_cases hc2:qan l[h] x<0
   ·have HC:=Hd (show bsP l x (h)=true from by rw [qgz hm];exact decide_eq_true hc2)
    go_wp2_with fail
    go_region_held3 (fun W=>W.cell? ⟨b,off+h*2,none⟩=some (.int .i64 l[h].g)∧W.cell? ⟨b,off+h*2+1,none⟩=some v1∧W.cell? ⟨w.heap.size,0,none⟩=some (.int .i64 x.g)∧W.cell? ⟨w.heap.size,1,none⟩=some vx)
     (first | (refine ⟨?_,?_,?_,?_⟩ <;> go_simp <;> done) | exact hx1.k4 (by assumption) | exact ((qad.refl _).alloc _).k4 (by assumption))
     (first | (go_at_call 166;refine (hcmp _ qaj).mono ?_;rintro e w1 ⟨rfl,hx1⟩))
    clear y1
    go_wp2_with fail
    go_roundw
    case rel =>
     refine ⟨h+1,j,by omega,hj,by go_num,rfl,qaj,hx1.keep q0,hx1.keep q1,?_⟩
     rw [hbs.out,hst.out,if_pos HC.out]
     exact rfl
    case measure=>simp [intOf];omega
   ·have HC:=Hd (show bsP l x (h)=false from by rw [qgz hm];exact decide_eq_false hc2)
    have hd:0<=qan l[h] x:=by omega
    clear hc2
    go_wp2_with fail
    go_region_held3 (fun W=>W.cell? ⟨b,off+h*2,none⟩=some (.int .i64 l[h].g)∧W.cell? ⟨b,off+h*2+1,none⟩=some v1∧W.cell? ⟨w.heap.size,0,none⟩=some (.int .i64 x.g)∧W.cell? ⟨w.heap.size,1,none⟩=some vx)
     (first | (refine ⟨?_,?_,?_,?_⟩ <;> go_simp <;> done) | exact hx1.k4 (by assumption) | exact ((qad.refl _).alloc _).k4 (by assumption))
     (first | (go_at_call 166;refine (hcmp _ qaj).mono ?_;rintro e w1 ⟨rfl,hx1⟩))
    clear y1
    go_wp2_with fail
    go_roundw
    case rel =>
     refine ⟨i,h,by omega,by omega,rfl,rfl,qaj,hx1.keep q0,hx1.keep q1,?_⟩
     rw [hbs.out,hst.out,if_neg (by rw [HC.out];decide)]
     exact rfl
    case measure=>simp [intOf];omega
  ·obtain rfl:i=j:=by omega
   have hi:qcg l x=i:=by rw [hbs.out,show i-i=0 from by omega,bsI]
   by_cases hm:i<l.length
   ·have HV:=Hd (show qc5 x l=decide (qan l[i] x=0) from by rw [qc5,hi,qnu hm])
    have HI:=Hd hi
    clear hi hlt
    obtain ⟨b,off,cs,rfl,hb,hs,hl,hr,hcell⟩:=(qaa.good.ext HL.out hE).get i hm
    obtain ⟨_,v1,rfl,hv1⟩:=id hr
    have g0:=hcell.get 0 _
    have g1:=hcell.get 1 _
    simp only [Nat.add_zero] at g0
    have hcmp:=fun W (hW:qad wr W)=>qhu S _ _ _ _ W (RLb.good.ext hr hW) (RLb.good.ext HX.out (hE.trans hW))
    have z1:(0:Int)<=(i:Int):=by omega
    have z2:(i:Int)<(l.length:Int):=by omega
    have z3:decide ((i:Int)<(l.length:Int))=true:=decide_eq_true z2
    clear hcell hl hs hv1 hr
    go_wp2_with fail
    go_region_held3 (fun W=>W.cell? ⟨b,off+i*2,none⟩=some (.int .i64 l[i].g)∧W.cell? ⟨b,off+i*2+1,none⟩=some v1∧W.cell? ⟨w.heap.size,0,none⟩=some (.int .i64 x.g)∧W.cell? ⟨w.heap.size,1,none⟩=some vx)
     (first | (refine ⟨?_,?_,?_,?_⟩ <;> go_simp <;> done) | exact hx1.k4 (by assumption) | exact ((qad.refl _).alloc _).k4 (by assumption))
     (first | (go_at_call 166;refine (hcmp _ qaj).mono ?_;rintro e w1 ⟨rfl,hx1⟩))
    go_wp2_with fail
    go_ret2
    exact ⟨by rw [HV.out,HI.out];rfl,qaj⟩
   ·have HV:=Hd (show qc5 x l=false from by rw [qc5,hi,qmp hm])
    have HI:=Hd hi
    have z3:decide ((i:Int)<(l.length:Int))=false:=decide_eq_false (by omega)
    clear hi hlt
    go_wp2_with fail
    go_quiet (fail)
    go_wp2_with fail
    go_ret2
    exact ⟨by rw [HV.out,HI.out];rfl,qaj⟩
theorem qp3 (S:Nat->Prop) (l:List Lb) (x:Lb) (v:Value) (cx:List Value) (w:World) (hl:qaa S w l [v]) (hx:RLb S w x cx) (hn:l.length<=4611686018427387903) :
  Calls Tryz.prog 212 #[.agg cx.toArray,v] w fun e w'=>e = .returned (.bool (qc5 x l))∧qad w w':=by
 have hcon:=fun W (hW:qad w W)=>qnj S l x v cx W (qaa.good.ext hl hW) (RLb.good.ext hx hW) hn
 obtain ⟨A,c,rfl,hc,hc0⟩:=hl.val
 obtain ⟨_,vx,rfl,hvx⟩:=id hx
 clear hl hx hvx
 go_enter Tryz.func212,Tryz.ntmps212
 go_wp2_with fail
 refine (hcon _ qaj).mono ?_
 rintro e w1 ⟨rfl,h1⟩
 go_wp2_with fail
 go_ret
 exact ⟨rfl,qaj⟩
def qek (a b:List Lb):Bool:=a.any fun x=>qc5 x b
theorem eg211:∀ args w,(callFunc 211 args).run Tryz.prog w = .ok (.enter 211 args) w:=enters_of Tryz.func211 (by kernel_rfl) rfl
theorem common1_c (S:Nat->Prop) (l:List Lb) (x:Lb) (v:Value) (B:Nat) (cx:List Value) (w:World) (hl:qaa S w l [v]) (hx:RLb S w x cx) (hn:l.length<=4611686018427387903) (hB:w.cell? ⟨B,0,none⟩=some v) :
  Calls Tryz.prog 211 #[.agg cx.toArray,.pointer (some ⟨B,0,none⟩)] w fun e w'=>e = .returned (.bool (qc5 x l))∧Ext w w':=by
 have hcon:=fun W (hW:qad w W)=>qp3 S l x v cx W (qaa.good.ext hl hW) (RLb.good.ext hx hW) hn
 obtain ⟨A,c,rfl,hc,hc0⟩:=hl.val
 obtain ⟨_,vx,rfl,hvx⟩:=id hx
 have hB0:=World.block_lt_of_cell? w _ hB
 clear hl hx hvx
 go_enter Tryz.func211,Tryz.ntmps211
 go_wp2_with fail
 refine (hcon _ qaj).mono ?_
 rintro e w1 ⟨rfl,h1⟩
 go_wp2_with fail
 go_ret
 exact ⟨rfl,bel⟩
theorem qnv (S:Nat->Prop) (a b:List Lb) (va vb:Value) (w:World) (ha:qaa S w a [va]) (hb:qaa S w b [vb]) (hn:b.length<=4611686018427387903) :
  Calls Tryz.prog 146 #[va,vb] w fun e w'=>e = .returned (.bool (qek a b))∧Ext w w':=by
 have hcon:=fun B W (hW:Ext w W) (hB:W.cell? ⟨B,0,none⟩=some vb)=>conPLb (fun x=>qc5 x b) S W a va (qaa.good.bel ha hW) 211 #[.pointer (some ⟨B,0,none⟩)] eg211
  (fun x hx cs W' hW' hr=>common1_c S b x vb B cs W' (qaa.good.bel hb (hW.trans' hW')) hr hn ((hW'.cell (World.block_lt_of_cell? W _ hB)).trans hB))
 obtain ⟨A,c,rfl,hc,hc0⟩:=ha.val
 obtain ⟨A',c',rfl,hc',hc0'⟩:=hb.val
 clear ha hb
 go_enter Tryz.func146,Tryz.ntmps146
 go_wp2_with fail
 refine (hcon _ _ bel (by go_simp)).mono ?_
 rintro e w1 ⟨rfl,h1⟩
 go_wp2_with fail
 go_ret
 exact ⟨rfl,bel⟩
end
section
set_option maxHeartbeats 1000000
set_option maxRecDepth 100000
/- slices.Index,Contains,Equal at whole numbers and truth values. -/
def qcb {α:Type} [DecidableEq α] (x:α):List α->Int
 | []=>-1
 | y :: ys=>if x=y then 0 else qcb x ys+if qcb x ys<0 then 0 else 1
theorem qk4 {α:Type} [DecidableEq α] (x:α):∀ ys:List α,-1<=qcb x ys
 | []=>by simp [qcb]
 | y :: ys=>by
  have:=qk4 x ys
  rw [qcb]
  split
  ·simp
  ·split <;> omega
theorem leq_eq {α:Type} [DecidableEq α]:∀ xs ys:List α,leq (fun x y=>decide (x=y)) xs ys=decide (xs=ys)
 | [],[]=>by simp [leq]
 | [],_ :: _=>by simp [leq]
 | _ :: _,[]=>by simp [leq]
 | x :: xs,y :: ys=>by rw [leq,leq_eq xs ys];simp
theorem qm4 {α:Type} [DecidableEq α] (x:α):∀ ys:List α,0<=qcb x ys↔x∈ys
 | []=>by simp [qcb]
 | y :: ys=>by
  have h:=qm4 x ys
  have h1:=qk4 x ys
  rw [qcb,List.mem_cons]
  split
  ·rename_i e;simp [e]
  ·rename_i e
   rw [<- h]
   split
   ·rename_i e2;constructor
    ·intro h2;omega
    ·rintro (h2 | h2)
     ·exact absurd h2 e
     ·omega
   ·constructor
    ·intro _;right;omega
    ·intro _;omega
theorem indexInt (S:Nat->Prop) (xs:List Int) (x:Int) (v:Value) (w:World) (hx:RSl qac 1 S w xs [v]):Calls Tryz.prog 104 #[v,.int .i64 x] w fun e w'=>e = .returned (.int .i64 (qcb x xs))∧w'=w:=by
 obtain ⟨A,c,rfl,hc,hc0⟩:=hx.val
 have HX:=Hd hx
 clear hx
 go_enter Tryz.func104,Tryz.ntmps104
 go_wp2
 go_loopw [5,8] (fun _ i wr=>∃ k:Nat,k<=xs.length∧i = .int .i64 k∧wr=w∧Hid (qcb x xs=qcb x (xs.drop k)+(if qcb x (xs.drop k)<0 then 0 else (k:Int)))) (fun _ i _=>xs.length-(intOf i).toNat)
 case atStart=>exact ⟨0,Nat.zero_le _,rfl,rfl,by simp [Hid]⟩
 case round =>
  obtain ⟨k,hk,rfl,rfl,hf⟩:=hrel
  by_cases hlt:k<xs.length
  ·obtain ⟨b,off,cs,rfl,hb,hS,hl,hr,hcell⟩:=HX.out.get k hlt
   obtain rfl:cs=[.int .i64 xs[k]]:=hr.1
   have g0:=(by simpa using hcell.get 0 _:wr.cell? ⟨b,off+k,none⟩=some (.int .i64 xs[k]))
   have hf':=hf.out
   rw [List.drop_eq_getElem_cons hlt,qcb] at hf'
   clear hcell hl hS hr hf
   by_cases hq:x=xs[k]
   ·rw [if_pos hq] at hf'
    have Hf:=Hd hf'
    have hb1:(x == xs[k])=true:=beq_iff_eq.2 hq
    clear hf' hq
    go_wp2_with fail
    go_ret
    rw [Hf.out]
    exact ⟨by simp,rfl⟩
   ·rw [if_neg hq] at hf'
    have Hf:=Hd hf'
    have hb1:(x == xs[k])=false:=beq_eq_false_iff_ne.2 hq
    clear hf' hq
    go_wp2_with fail
    go_roundw
    case rel =>
     refine ⟨k+1,by omega,by go_num,(by first | rfl | trivial),?_⟩
     show qcb x xs=_
     rw [Hf.out]
     have:=qk4 x (xs.drop (k+1))
     split <;> split <;> omega
    case measure=>simp [intOf];omega
  ·have hd:xs.drop k=[]:=List.drop_of_length_le (by omega)
   have hf':=hf.out
   rw [hd,qcb] at hf'
   have Hf:=Hd hf'
   clear hf hf'
   go_wp2
   go_ret
   rw [Hf.out]
   exact ⟨by simp,rfl⟩
theorem qrz (S:Nat->Prop) (xs:List Int) (x:Int) (v:Value) (w:World) (hx:RSl qac 1 S w xs [v]):Calls Tryz.prog 32 #[v,.int .i64 x] w fun e w'=>e = .returned (.bool (decide (x∈xs)))∧w'=w:=by
 obtain ⟨A,c,rfl,hc,hc0⟩:=hx.val
 have HX:=Hd hx
 have hm:=Hd (qm4 x xs)
 clear hx
 go_enter Tryz.func32,Tryz.ntmps32
 go_wp2_with fail
 refine (indexInt S xs x _ w HX.out).mono ?_
 rintro e w' ⟨rfl,rfl⟩
 generalize hi:qcb x xs=i at hm ⊢
 clear hi
 go_wp2_with fail
 all_goals go_ret
 exact ⟨by rw [show decide (0<=i)=decide (x∈xs) from decide_eq_decide.2 hm.out];rfl,rfl⟩
theorem qju (S:Nat->Prop) (xs ys:List Int) (v u:Value) (w:World) (hx:RSl qac 1 S w xs [v]) (hy:RSl qac 1 S w ys [u]):Calls Tryz.prog 47 #[v,u] w fun e w'=>e = .returned (.bool (decide (xs=ys)))∧Ext w w':=by
 obtain ⟨A,c,rfl,hc,hc0⟩:=hx.val
 obtain ⟨A',c',rfl,hc',hc0'⟩:=hy.val
 have HX:=Hd hx
 have HY:=Hd hy
 clear hx hy
 rw [<- leq_eq]
 by_cases hlen:xs.length=ys.length
 case neg =>
  have HL:=Hd (qh2 (fun x y:Int=>decide (x=y)) xs ys hlen)
  have hne:((xs.length:Int) != (ys.length:Int))=true:=bne_iff_ne.2 (by omega)
  clear hlen
  go_enter Tryz.func47,Tryz.ntmps47
  go_wp2_with fail
  go_ret
  exact ⟨by rw [HL.out];rfl,Ext.refl _⟩
 have hne:((xs.length:Int) != (ys.length:Int))=false:=bne_eq_false_iff_eq.2 (by omega)
 have hle1:xs.length<=ys.length:=by omega
 have hle2:ys.length<=xs.length:=by omega
 have HLEN:=Hd hlen
 clear hlen
 go_enter Tryz.func47,Tryz.ntmps47
 go_wp2_with fail
 go_loopw [5,13] (fun _ i wr=>∃ k:Nat,k<=xs.length∧k<=ys.length∧i = .int .i64 k∧Ext w wr∧Hid (leq (fun x y:Int=>decide (x=y)) xs ys=leq (fun x y:Int=>decide (x=y)) (xs.drop k) (ys.drop k))) (fun _ i _=>xs.length-(intOf i).toNat)
 case atStart=>exact ⟨0,Nat.zero_le _,Nat.zero_le _,rfl,Ext.refl _,rfl⟩
 case round =>
  obtain ⟨k,hk,hk2,rfl,hE,hf⟩:=hrel
  by_cases hlt:k<xs.length
  ·obtain ⟨b,off,cs,rfl,hb,hS,hl,hr,hcell⟩:=((RSl.good qac.good).bel HX.out hE).get k hlt
   have hlt2:k<ys.length:=by omega
   obtain ⟨b2,off2,cs2,rfl,hb2,hS2,hl2,hr2,hcell2⟩:=((RSl.good qac.good).bel HY.out hE).get k hlt2
   obtain rfl:cs=[.int .i64 xs[k]]:=hr.1
   obtain rfl:cs2=[.int .i64 ys[k]]:=hr2.1
   have g0:=(by simpa using hcell.get 0 _:wr.cell? ⟨b,off+k,none⟩=some (.int .i64 xs[k]))
   have q0:=(by simpa using hcell2.get 0 _:wr.cell? ⟨b2,off2+k,none⟩=some (.int .i64 ys[k]))
   have hf':=hf.out
   rw [List.drop_eq_getElem_cons hlt,List.drop_eq_getElem_cons hlt2,leq] at hf'
   clear hcell hcell2 hl hl2 hS hS2 hr hr2 hf
   by_cases hq:xs[k]=ys[k]
   ·rw [decide_eq_true hq] at hf'
    have Hf:=Hd hf'
    have hb1:(xs[k] != ys[k])=false:=by simp [hq]
    clear hf' hq
    go_wp2_with fail
    (refine qa1 ?_;(repeat (first | go_big_quiet_step ((fail)) | quiet_step ((fail))));refine wpQuiet_nil ?_)
    intro w1 hx1
    go_wp2_with fail
    go_roundw
    case rel=>exact ⟨k+1,by omega,by omega,by go_num,bel,by show leq _ xs ys=_;rw [Hf.out];exact Bool.true_and _⟩
    case measure=>simp [intOf];omega
   ·rw [decide_eq_false hq] at hf'
    have Hf:=Hd hf'
    have hb1:(xs[k] != ys[k])=true:=by simpa using hq
    clear hf' hq
    go_wp2_with fail
    (refine qa1 ?_;(repeat (first | go_big_quiet_step ((fail)) | quiet_step ((fail))));refine wpQuiet_nil ?_)
    intro w1 hx1
    go_wp2_with fail
    go_ret
    exact ⟨by rw [Hf.out];rfl,bel⟩
  ·have hf':=hf.out
   rw [List.drop_of_length_le (l:=xs) (by omega),List.drop_of_length_le (by omega),leq] at hf'
   have Hf:=Hd hf'
   clear hf hf'
   go_wp2_with fail
   go_ret
   exact ⟨by rw [Hf.out];rfl,hE⟩
theorem indexBool (S:Nat->Prop) (xs:List Bool) (x:Bool) (v:Value) (w:World) (hx:RSl qae 1 S w xs [v]):Calls Tryz.prog 134 #[v,.bool x] w fun e w'=>e = .returned (.int .i64 (qcb x xs))∧w'=w:=by
 obtain ⟨A,c,rfl,hc,hc0⟩:=hx.val
 have HX:=Hd hx
 clear hx
 go_enter Tryz.func134,Tryz.ntmps134
 go_wp2
 go_loopw [5,8] (fun _ i wr=>∃ k:Nat,k<=xs.length∧i = .int .i64 k∧wr=w∧Hid (qcb x xs=qcb x (xs.drop k)+(if qcb x (xs.drop k)<0 then 0 else (k:Int)))) (fun _ i _=>xs.length-(intOf i).toNat)
 case atStart=>exact ⟨0,Nat.zero_le _,rfl,rfl,by simp [Hid]⟩
 case round =>
  obtain ⟨k,hk,rfl,rfl,hf⟩:=hrel
  by_cases hlt:k<xs.length
  ·obtain ⟨b,off,cs,rfl,hb,hS,hl,hr,hcell⟩:=HX.out.get k hlt
   obtain rfl:cs=[.bool xs[k]]:=hr
   have g0:=(by simpa using hcell.get 0 _:wr.cell? ⟨b,off+k,none⟩=some (.bool xs[k]))
   have hf':=hf.out
   rw [List.drop_eq_getElem_cons hlt,qcb] at hf'
   clear hcell hl hS hf
   by_cases hq:x=xs[k]
   ·rw [if_pos hq] at hf'
    have Hf:=Hd hf'
    have hb1:(x == xs[k])=true:=beq_iff_eq.2 hq
    clear hf' hq
    go_wp2_with fail
    go_ret
    rw [Hf.out]
    exact ⟨by simp,rfl⟩
   ·rw [if_neg hq] at hf'
    have Hf:=Hd hf'
    have hb1:(x == xs[k])=false:=beq_eq_false_iff_ne.2 hq
    clear hf' hq
    go_wp2_with fail
    go_roundw
    case rel =>
     refine ⟨k+1,by omega,by go_num,(by first | rfl | trivial),?_⟩
     show qcb x xs=_
     rw [Hf.out]
     have:=qk4 x (xs.drop (k+1))
     split <;> split <;> omega
    case measure=>simp [intOf];omega
  ·have hd:xs.drop k=[]:=List.drop_of_length_le (by omega)
   have hf':=hf.out
   rw [hd,qcb] at hf'
   have Hf:=Hd hf'
   clear hf hf'
   go_wp2
   go_ret
   rw [Hf.out]
   exact ⟨by simp,rfl⟩
theorem qte (S:Nat->Prop) (xs:List Bool) (x:Bool) (v:Value) (w:World) (hx:RSl qae 1 S w xs [v]):Calls Tryz.prog 72 #[v,.bool x] w fun e w'=>e = .returned (.bool (decide (x∈xs)))∧w'=w:=by
 obtain ⟨A,c,rfl,hc,hc0⟩:=hx.val
 have HX:=Hd hx
 have hm:=Hd (qm4 x xs)
 clear hx
 go_enter Tryz.func72,Tryz.ntmps72
 go_wp2_with fail
 refine (indexBool S xs x _ w HX.out).mono ?_
 rintro e w' ⟨rfl,rfl⟩
 generalize hi:qcb x xs=i at hm ⊢
 clear hi
 go_wp2_with fail
 all_goals go_ret
 exact ⟨by rw [show decide (0<=i)=decide (x∈xs) from decide_eq_decide.2 hm.out];rfl,rfl⟩
theorem qr0 (S:Nat->Prop) (xs ys:List Bool) (v u:Value) (w:World) (hx:RSl qae 1 S w xs [v]) (hy:RSl qae 1 S w ys [u]):Calls Tryz.prog 54 #[v,u] w fun e w'=>e = .returned (.bool (decide (xs=ys)))∧Ext w w':=by
 obtain ⟨A,c,rfl,hc,hc0⟩:=hx.val
 obtain ⟨A',c',rfl,hc',hc0'⟩:=hy.val
 have HX:=Hd hx
 have HY:=Hd hy
 clear hx hy
 rw [<- leq_eq]
 by_cases hlen:xs.length=ys.length
 case neg =>
  have HL:=Hd (qh2 (fun x y:Bool=>decide (x=y)) xs ys hlen)
  have hne:((xs.length:Int) != (ys.length:Int))=true:=bne_iff_ne.2 (by omega)
  clear hlen
  go_enter Tryz.func54,Tryz.ntmps54
  go_wp2_with fail
  go_ret
  exact ⟨by rw [HL.out];rfl,Ext.refl _⟩
 have hne:((xs.length:Int) != (ys.length:Int))=false:=bne_eq_false_iff_eq.2 (by omega)
 have hle1:xs.length<=ys.length:=by omega
 have hle2:ys.length<=xs.length:=by omega
 have HLEN:=Hd hlen
 clear hlen
 go_enter Tryz.func54,Tryz.ntmps54
 go_wp2_with fail
 go_loopw [5,13] (fun _ i wr=>∃ k:Nat,k<=xs.length∧k<=ys.length∧i = .int .i64 k∧Ext w wr∧Hid (leq (fun x y:Bool=>decide (x=y)) xs ys=leq (fun x y:Bool=>decide (x=y)) (xs.drop k) (ys.drop k))) (fun _ i _=>xs.length-(intOf i).toNat)
 case atStart=>exact ⟨0,Nat.zero_le _,Nat.zero_le _,rfl,Ext.refl _,rfl⟩
 case round =>
  obtain ⟨k,hk,hk2,rfl,hE,hf⟩:=hrel
  by_cases hlt:k<xs.length
  ·obtain ⟨b,off,cs,rfl,hb,hS,hl,hr,hcell⟩:=((RSl.good qae.good).bel HX.out hE).get k hlt
   have hlt2:k<ys.length:=by omega
   obtain ⟨b2,off2,cs2,rfl,hb2,hS2,hl2,hr2,hcell2⟩:=((RSl.good qae.good).bel HY.out hE).get k hlt2
   obtain rfl:cs=[.bool xs[k]]:=hr
   obtain rfl:cs2=[.bool ys[k]]:=hr2
   have g0:=(by simpa using hcell.get 0 _:wr.cell? ⟨b,off+k,none⟩=some (.bool xs[k]))
   have q0:=(by simpa using hcell2.get 0 _:wr.cell? ⟨b2,off2+k,none⟩=some (.bool ys[k]))
   have hf':=hf.out
   rw [List.drop_eq_getElem_cons hlt,List.drop_eq_getElem_cons hlt2,leq] at hf'
   clear hcell hcell2 hl hl2 hS hS2 hf
   by_cases hq:xs[k]=ys[k]
   ·rw [decide_eq_true hq] at hf'
    have Hf:=Hd hf'
    have hb1:(!(xs[k] == ys[k]))=false:=by simp [hq]
    clear hf' hq
    go_wp2_with fail
    (refine qa1 ?_;(repeat (first | go_big_quiet_step ((fail)) | quiet_step ((fail))));refine wpQuiet_nil ?_)
    intro w1 hx1
    go_wp2_with fail
    go_roundw
    case rel=>exact ⟨k+1,by omega,by omega,by go_num,bel,by show leq _ xs ys=_;rw [Hf.out];exact Bool.true_and _⟩
    case measure=>simp [intOf];omega
   ·rw [decide_eq_false hq] at hf'
    have Hf:=Hd hf'
    have hb1:(!(xs[k] == ys[k]))=true:=by simpa using hq
    clear hf' hq
    go_wp2_with fail
    (refine qa1 ?_;(repeat (first | go_big_quiet_step ((fail)) | quiet_step ((fail))));refine wpQuiet_nil ?_)
    intro w1 hx1
    go_wp2_with fail
    go_ret
    exact ⟨by rw [Hf.out];rfl,bel⟩
  ·have hf':=hf.out
   rw [List.drop_of_length_le (l:=xs) (by omega),List.drop_of_length_le (by omega),leq] at hf'
   have Hf:=Hd hf'
   clear hf hf'
   go_wp2_with fail
   go_ret
   exact ⟨by rw [Hf.out];rfl,hE⟩
end
section
set_option maxHeartbeats 1000000
set_option maxRecDepth 100000
/- suite.steps: the edges of a state,as an iterator. -/
open Go.Shelf
attribute [local go_sem] Oper.semAt_some
def qaw (es:List Ed) (n:Int):List (Fin es.length):=(List.finRange es.length).filter fun i=>decide (es[i].f=n)
theorem qrs (n:Int):∀ (es:List Ed) (i:Nat),qc0 i es n=((List.finRange es.length).filter fun j=>decide (es[j].f=n)).map fun j=>((i+j.1:Nat):Int)
 | [],i=>by simp [qc0]
 | e :: es,i=>by
  rw [qc0,qrs n es (i+1)]
  have:List.finRange (e :: es).length=0 :: (List.finRange es.length).map Fin.succ:=List.finRange_succ (n:=es.length)
  rw [this,List.filter_cons,List.filter_map]
  have hm:∀ l:List (Fin es.length),(l.map Fin.succ).map (fun j:Fin (es.length+1)=>((i+j.1:Nat):Int))=l.map fun j=>((i+1+j.1:Nat):Int):=fun l=>by
   rw [List.map_map]
   apply List.map_congr_left
   intro j _
   simp only [Function.comp,Fin.val_succ]
   congr 1
   omega
  by_cases he:e.f=n
  ·rw [if_pos he,if_pos (by simp [he]),List.map_cons]
   congr 1
   exact (hm _).symm
  ·rw [if_neg he,if_neg (by simp [he])]
   exact (hm _).symm
theorem qpf (es:List Ed) (n:Int):qdc es n=(qaw es n).map fun j=>((j.1:Nat):Int):=by
 rw [qdc,qrs,qaw]
 simp
def qgy (es:List Ed) (i:Fin es.length):Array Value:=#[.int .i64 (i.1:Int),.agg #[.int .i64 es[i].f,.int .i64 es[i].l,.int .i64 es[i].t]]
theorem steps1_in (n:Nat) (hn:1<=n) (Z:Nat->Prop) (s:Sy) (g Bs Bst l:Nat) (state:Int) (hZ:Z Bs) (J Jx:List (Fin s.es.length)->World->Prop)
  (hY:∀ pre x W,J pre W->pre.length<(qaw s.es state).length->YieldAt Fence.wide (n-1) Tryz.prog l (qgy s.es x) W fun e W' =>
   (e = .returned (.bool true)∧J (pre++[x]) W'∧Kp Z W W')∨(e = .returned (.bool false)∧Jx (pre++[x]) W'))
  (W:World) (hJ:∀ W',J [] W->Ext W W'->J [] W') (hS:qav Z W g s) (hBs:W.cell? ⟨Bs,0,none⟩=some (.pointer (some ⟨g,0,none⟩))) (hBst:W.cell? ⟨Bst,0,none⟩=some (.int .i64 state)) (h0:J [] W) :
  CallsIn Fence.wide n Tryz.prog 234 #[.func (.yield l) #[] #[],.pointer (some ⟨Bs,0,none⟩),.pointer (some ⟨Bst,0,none⟩)] W fun e W'=>(∃ v,e = .returned v) ∧
   ((∃ ys,ys=qaw s.es state∧J ys W')∨(∃ pre,pre <+: qaw s.es state∧Jx pre W')):=by
 obtain ⟨v,u,m,f,hg,hL,hE,hZg,hZm,hM,hno,hrow⟩:=hS.ex
 obtain ⟨A',c',rfl,hc',hc0'⟩:=hE.val
 obtain ⟨rv,hlk,hrv⟩:∃ rv,(f state).getD (.slice none 0 0)=rv∧RSl qac 1 Z W (qdc s.es state) [rv]:=by
  cases hf:f state with
  | none=>exact ⟨_,rfl,by rw [hno state hf];exact ⟨none,0,rfl,Nat.le_refl _,by omega,.inl rfl⟩⟩
  | some x=>exact ⟨x,rfl,hrow state x hf⟩
 obtain ⟨Ar,cr,rfl,hcr,hcr0⟩:=hrv.val
 have hlook:=fun W' (hW:W'.heap[m]? = W.heap[m]?)=>(hM.move (W':=W') hW).lookup (P:=Tryz.prog) Tryz.underlying182 qg8 (z:=.slice none 0 0) (by kernel_rfl) state
 simp only [hlk] at hlook
 have g3:W.cell? ⟨g,3,none⟩=some (.map (some m)):=cell_of_row W _ 3 _ _ _ hg
 have HY:=Hd hY
 have HS:=Hd hS
 have HE:=Hd hE
 have HR:=Hd hrv
 have HG:=Hd hg
 have hlx:=fun x=>hlook (qak W x) ((qa5 W x).block m hM.lt)
 have HLK:=Hd hlook
 clear hY hS hE hrv hg hL hM hno hrow hlook hlk
 refine callsIn_of_wp Tryz.func234 rfl trivial ?_ rfl
 simp only [Tryz.ntmps234,List.size_toArray,List.length_cons,List.length_nil,Nat.reduceAdd,Nat.reduceSub,Array.replicate_succ,Array.replicate_zero,List.push_toArray,List.append_toArray,List.nil_append,List.cons_append]
 gi_wp2
 refine wpIn_wide.2 ?_
 (refine qa1 ?_;(repeat (first | go_big_quiet_step ((fail)) | quiet_step ((fail))));refine wpQuiet_nil ?_)
 intro w1 hx1
 have h01:=hJ w1 h0 hx1
 have hlen:Hid ((qdc s.es state).length=(qaw s.es state).length):=by show _=_;rw [qpf,List.length_map]
 have hE1:=Hd (qb5.good.bel HE.out hx1)
 have hR1:=Hd ((RSl.good qac.good).bel HR.out hx1)
 have hS1:=Hd (HS.out.bel hx1)
 have hG1:=Hd ((Ext.kp (S:=fun _=>True) hx1).block g (Array.getElem?_eq_some_iff.1 HG.out).1 trivial |>.trans HG.out)
 have hb1:w1.cell? ⟨Bs,0,none⟩=some (.pointer (some ⟨g,0,none⟩)):=Ext.keep hx1 hBs
 clear hx1 hBs hBst g3 hlx HLK HG HS HE HR h0 hJ
 gi_wp2
 gi_loopw [13] (fun i wr=>∃ k:Nat,k<=(qdc s.es state).length∧i = .int .i64 k∧J ((qaw s.es state).take k) wr∧Kp Z w1 wr) (fun i _=>(qdc s.es state).length-(intOf i).toNat)
 case atStart=>exact ⟨0,Nat.zero_le _,rfl,by simpa using h01,Kp.refl _ _⟩
 case round =>
  obtain ⟨k,hk,rfl,hJs,hK⟩:=hrel
  by_cases hlt:k<(qdc s.es state).length
  ·have hlt2:k<(qaw s.es state).length:=by have:=hlen.out;omega
   obtain ⟨b,off,cs,rfl,hb,hZb,hl,hr,hcell⟩:=((RSl.good qac.good).move hR1.out hK).get k hlt
   obtain rfl:=hr.1
   have hix:(qdc s.es state)[k]=(((qaw s.es state)[k].1:Nat):Int):=by simp only [qpf,List.getElem_map]
   have g0:wr.cell? ⟨b,off+k,none⟩=some (.int .i64 (((qaw s.es state)[k].1:Nat):Int)):=by rw [<- hix];simpa using hcell.get 0 _
   obtain ⟨⟨xi,hxl⟩,hx⟩:∃ x,x=(qaw s.es state)[k]:=⟨_,rfl⟩
   rw [<- hx] at g0
   replace g0:wr.cell? ⟨b,off+k,none⟩=some (.int .i64 (xi:Int)):=g0
   obtain ⟨b2,off2,cs2,rfl,hb2,hZ2,hl2,hr2,hcell2⟩:=(qb5.good.move hE1.out hK).get xi hxl
   obtain ⟨i1,i2,i3,rfl⟩:=id hr2
   have q0:wr.cell? ⟨b2,off2+xi*3,none⟩=some (.int .i64 s.es[xi].f):=by simpa using hcell2.get 0 _
   have q1:=hcell2.get 1 _
   have q2:=hcell2.get 2 _
   have hgw:=hK.block g (Array.getElem?_eq_some_iff.1 hG1.out).1 hZg |>.trans hG1.out
   have p2:wr.cell? ⟨g,2,none⟩=some (.slice (some ⟨b2,off2,none⟩) s.es.length c'):=cell_of_row wr _ 2 _ _ _ hgw
   have pb:wr.cell? ⟨Bs,0,none⟩=some (.pointer (some ⟨g,0,none⟩)):=(World.cell?_of_block (a:=⟨Bs,0,none⟩) (hK.block Bs (World.block_lt_of_cell? w1 _ hb1) hZ)).trans hb1
   obtain ⟨fn,tmps,assign,body,hy,hRd⟩:=HY.out _ ⟨xi,hxl⟩ wr hJs (by rw [List.length_take];omega)
   unfold qgy at hy
   simp only [Fin.getElem_fin] at hy
   have htk:(qaw s.es state).take k++[⟨xi,hxl⟩]=(qaw s.es state).take (k+1):=by rw [hx];exact (List.take_succ_eq_append_getElem hlt2).symm
   rw [htk] at hRd
   clear hcell hcell2 hr hr2 hl hl2 hgw hJs hix htk
   gi_wp2
   refine hRd.mono ?_
   rintro e W3 (⟨rfl,hJ3,hk3⟩ | ⟨rfl,hJx3⟩)
   ·gi_wp2
    go_roundw
    case rel=>exact ⟨k+1,by omega,by go_num,hJ3,hK.trans hk3⟩
    case measure=>simp [intOf];omega
   ·gi_wp2
    refine bodyPost_ret (results_none rfl _ _ _) rfl ?_
    exact ⟨⟨_,rfl⟩,.inr ⟨_,List.take_prefix _ _,hJx3⟩⟩
  ·have hke:Hid (k=(qaw s.es state).length):=by have:=hlen.out;show _=_;omega
   gi_wp2
   go_end0
   refine ⟨⟨_,rfl⟩,.inl ⟨_,rfl,?_⟩⟩
   rwa [hke.out,List.take_length] at hJs
theorem qjg (n:Nat) (p:Option Addr) (state:Int) (w:World) :
  CallsIn Fence.wide n Tryz.prog 175 #[.pointer p,.int .i64 state] w fun e w'=>e = .returned (.func (.func 234) #[] #[.pointer (some ⟨w.heap.size,0,none⟩),.pointer (some ⟨w.heap.size+1,0,none⟩)]) ∧
   w'=(w.alloc (.cells #[.pointer p] 111)).alloc (.cells #[.int .i64 state] 3):=by
 refine callsIn_wide.2 ?_
 go_enter Tryz.func175,Tryz.ntmps175
 go_wp2_with fail
 go_ret
 exact ⟨rfl,rfl⟩
theorem qjh (n:Nat) (hn:1<=n) (Z:Nat->Prop) (s:Sy) (g Bs Bst:Nat) (state:Int) (hZ:Z Bs) (w:World) (hS:qav Z w g s) (hBs:w.cell? ⟨Bs,0,none⟩=some (.pointer (some ⟨g,0,none⟩))) (hBst:w.cell? ⟨Bst,0,none⟩=some (.int .i64 state)) :
  SeqStopsK Fence.wide n Tryz.prog 234 #[.pointer (some ⟨Bs,0,none⟩),.pointer (some ⟨Bst,0,none⟩)] (qgy s.es) (Kp Z) (fun ys=>ys=qaw s.es state) (fun pre=>pre <+: qaw s.es state) (qaw s.es state).length w:=fun l J Jx W hW hJ hJx hY h0 =>
 steps1_in n hn Z s g Bs Bst l state hZ J Jx hY W (fun W' h he=>hJ [] W W' none h ⟨he.os,he.tape,he.output,he.size,fun k hk _=>(Ext.kp (S:=fun _=>True) he).block k hk trivial⟩ (fun r e=>by cases e)) (hS.bel hW) (Ext.keep hW hBs) (Ext.keep hW hBst) h0
theorem kp_t {Z:Nat->Prop} {A B C:World} (h:Kp Z A B) (k:Kp Z B C):Kp Z A C:=h.trans k
theorem kp_b {Z:Nat->Prop} {w:World} (hZ:∀ k,Z k->k<w.heap.size) (W:World) (l:Nat) (o o':Obj) (hl:w.heap.size<=l) (h:W.heap[l]? = some o) (_:o.isCells=false) (_:o.isWalk=false):Kp Z W (W.putObj l o') :=
 ⟨by simp,fun k hk hz=>World.putObj_heap_other (fun e=>by have:=hZ k hz;omega)⟩
end
section
open Go.Shelf
structure Marks (base:Nat) (ds:List Deferred) (w:World):Prop where
 all:∀ d∈ds,∃ r,d={ target:=.collected r,args:=#[] }∧base<=r∧w.heap[r]? = some (.deferred (some []))
 apart:ds.Nodup
theorem Marks.nil (base:Nat) (w:World):Marks base [] w:=⟨by simp,List.nodup_nil⟩
theorem Marks.cons {base:Nat} {ds:List Deferred} {w w':World} (h:Marks base ds w) {D:Nat} (hD:w.heap.size<=D) (hb:base<=D) (hd:w'.heap[D]? = some (.deferred (some [])))
  (hk:∀ r,r<w.heap.size->w.heap[r]? = some (.deferred (some []))->w'.heap[r]? = some (.deferred (some []))):Marks base ({ target:=.collected D,args:=#[] } :: ds) w':={
 all d hm:=by
  rcases List.mem_cons.1 hm with rfl | hm
  ·exact ⟨D,rfl,hb,hd⟩
  ·obtain ⟨r,e,h1,h2⟩:=h.all d hm
   exact ⟨r,e,h1,hk r (Array.getElem?_eq_some_iff.1 h2).1 h2⟩
 apart:=by
  rw [List.nodup_cons]
  refine ⟨fun hm=>?_,h.apart⟩
  obtain ⟨r,e,h1,h2⟩:=h.all _ hm
  have:D=r:=by simpa using e
  have:=(Array.getElem?_eq_some_iff.1 h2).1
  omega }
theorem Marks.keep {base:Nat} {ds:List Deferred} {w w':World} (h:Marks base ds w) (hk:∀ r,base<=r->w.heap[r]? = some (.deferred (some []))->w'.heap[r]? = some (.deferred (some []))):Marks base ds w' :=
 ⟨fun d hm=>by obtain ⟨r,e,h1,h2⟩:=h.all d hm;exact ⟨r,e,h1,hk r h1 h2⟩,h.apart⟩
theorem Marks.leave {F:Fence} {n:Nat} {P:Program} {fn:Func} {tmps:Array Value} {R:Ending->World->Prop} {u:FrameMode} (hu:u≠.run) {base:Nat}:∀ {ds:List Deferred} {w:World},Marks base ds w ->
  (∀ w',Bt (fun k=>base<=k∧w.heap[k]? = some (.deferred (some []))) w w'->LeavesIn F n P fn tmps R [] u w')->LeavesInM F n P fn tmps R ds u w
 | [],w,_,h=>h w (Bt.refl _ _)
 | d :: ds,w,hM,h=>by
  obtain ⟨r,rfl,hb,hr⟩:=hM.all d (by simp)
  refine ⟨hu,.inl ⟨r,_,rfl,run_takeDeferred hr,?_⟩⟩
  have hn:=(List.nodup_cons.1 hM.apart).1
  have hM':Marks base ds (w.putObj r (.deferred none)):=⟨fun d' hm=>by
   obtain ⟨r',e,h1,h2⟩:=hM.all d' (by simp [hm])
   have:r'≠r:=fun e'=>hn (by subst e';rw [<- e];exact hm)
   exact ⟨r',e,h1,(World.putObj_heap_other (fun e=>this (by omega))).trans h2⟩,(List.nodup_cons.1 hM.apart).2⟩
  have hput:Bt (fun k=>base<=k∧w.heap[k]? = some (.deferred (some []))) w (w.putObj r (.deferred none)):=⟨rfl,rfl,rfl,by simp,fun k _ hk=>World.putObj_heap_other (fun e=>hk (by subst e;exact ⟨hb,hr⟩))⟩
  refine Marks.leave hu hM' fun w' hw'=>h w' (hput.trans (hw'.mono fun k _ hk=>?_))
  refine ⟨hk.1,?_⟩
  by_cases e:k=r
  ·rw [e];exact hr
  ·rw [<- World.putObj_heap_other (w:=w) (o:=.deferred none) (r:=r) (k:=k) e]
   exact hk.2
end
section

def qf8 (s:Sy) (l:Int):Int:=((s.ls[l.toNat]?).map (·.g)).getD 0
def qcc (s:Sy) (l:List Int) (e:Ed):List Int:=if qf8 s e.l = -1∧e.t∉l then l++[e.t] else l
def qa6 (s:Sy) (is:List (Fin s.es.length)) (l:List Int):List Int:=is.foldl (fun l i=>qcc s l s.es[i]) l
def qa9 (s:Sy):Nat->Nat->List Int->List Int
 | 0,_,l=>l
 | f+1,i,l=>if h:i<l.length then qa9 s f (i+1) (qa6 s (qaw s.es l[i]) l) else l
def qbq (s:Sy) (l:List Int):Nat:=(s.es.filter fun e=>decide (e.t∉l)).length
theorem qpq {α:Type} (p q:α->Bool) (h:∀ x,p x=true->q x=true):∀ l:List α,(l.filter p).length<=(l.filter q).length
 | []=>by simp
 | x :: l=>by
  have:=qpq p q h l
  rw [List.filter_cons,List.filter_cons]
  by_cases hp:p x=true
  ·rw [if_pos hp,if_pos (h x hp)];simpa using this
  ·rw [if_neg hp]
   split
   ·simp only [List.length_cons];omega
   ·exact this
theorem qk9 {α:Type} (p q:α->Bool) (h:∀ x,p x=true->q x=true):∀ (l:List α) (y:α),y∈l->p y=false->q y=true->(l.filter p).length<(l.filter q).length
 | x :: l,y,hy,hp,hq=>by
  rw [List.filter_cons,List.filter_cons]
  rcases List.mem_cons.1 hy with rfl | hy
  ·rw [if_neg (by simp [hp]),if_pos hq,List.length_cons]
   exact Nat.lt_succ_of_le (qpq p q h l)
  ·have:=qk9 p q h l y hy hp hq
   by_cases hx:p x=true
   ·rw [if_pos hx,if_pos (h x hx)];simpa using this
   ·rw [if_neg hx]
    split
    ·simp only [List.length_cons];omega
    ·exact this
theorem qsl (s:Sy) (l:List Int) (e:Ed) (he:e∈s.es):(qcc s l e).length+qbq s (qcc s l e)<=l.length+qbq s l∧l.length<=(qcc s l e).length:=by
 unfold qcc
 split
 ·rename_i h
  have:=qk9 (fun x:Ed=>decide (x.t∉l++[e.t])) (fun x:Ed=>decide (x.t∉l)) (fun x hx=>by
   simp only [List.mem_append,not_or,decide_eq_true_eq] at hx ⊢;exact hx.1) s.es e he (by simp) (by simpa using h.2)
  simp only [qbq,List.length_append,List.length_cons,List.length_nil] at this ⊢
  omega
 ·exact ⟨Nat.le_refl _,Nat.le_refl _⟩
theorem qgd (s:Sy):∀ (is:List (Fin s.es.length)) (l:List Int),(qa6 s is l).length+qbq s (qa6 s is l)<=l.length+qbq s l∧l.length<=(qa6 s is l).length
 | [],l=>⟨Nat.le_refl _,Nat.le_refl _⟩
 | i :: is,l=>by
  have h1:=qsl s l s.es[i] (List.getElem_mem _)
  have h2:=qgd s is (qcc s l s.es[i])
  exact ⟨Nat.le_trans h2.1 h1.1,Nat.le_trans h1.2 h2.2⟩
def qau (s:Sy) (l:List Int):List Int:=qda (qa9 s (l.length+s.es.length) 0 l)
theorem qf6 (s:Sy) (l:List Int):qbq s l<=s.es.length:=List.length_filter_le _ _
end
section
open Go.Shelf
theorem qr8 {P:Program} {o:Oper} {a:Act} {w:World} {K:Act->World->Prop} {Q:Exit->Act->World->Prop} (l n:Nat) (hd:∀ c,o.op≠.defer c) (h:Oper.wp P o a w K Q):Oper.wpIn (Fence.wide.inRound l) n P o a w K Q:=by
 unfold Oper.wp at h
 unfold Oper.wpIn
 refine ⟨fun _ _=>trivial,?_⟩
 rw [Oper.semAt_eq _ _ _ hd]
 generalize (execOp a.eval o).run P w=r at h
 cases r with
 | ok x w' =>
  cases x with
  | value v=>exact h
  | skip=>exact h
  | defer d=>exact h
  | enter f args=>exact ⟨fun e=>by simp [Fence.wide] at e,CallsIn.inRound l (callsIn_wide.2 h)⟩
  | row row args=>exact ⟨fun e=>by simp [Fence.wide] at e,fun c cs _=>by obtain ⟨v,w'',r,s⟩:=h c cs;exact ⟨v,w'',r,stepsIn_wide.2 s⟩⟩
  | _=>exact h.elim
 | halt e w' =>
  cases e <;> first | exact h | exact h.elim
def qi2 (ops:Array Oper):Bool:=ops.all fun o=>match o.op with
 | .defer _=>false
 | _=>true
theorem qps {ops:Array Oper} (h:qi2 ops=true) {i:Nat} {o:Oper} (hi:ops[i]? = some o):∀ c,o.op≠.defer c:=by
 intro c hc
 obtain ⟨hlt,he⟩:=Array.getElem?_eq_some_iff.1 hi
 have:=Array.all_eq_true.1 h i hlt
 rw [he,hc] at this
 cases this
theorem qln {P:Program} {md:Region.Mode} {ops:Array Oper} {C:World->Prop} {Q:Act->Prop} {Q':Exit->Act->World->Prop} (l n:Nat) (hd:qi2 ops=true) (hQ:∀ a w,C w->Q a->Q' .normal a w):∀ (fuel:Nat) (listed:Array Bool) (a:Act) (w:World),C w ->
  wpAnyQ P md ops C Q fuel listed a->wpAnyIn (Fence.wide.inRound l) n P md ops Q' fuel listed a w
 | 0,_,_,_,hw,h=>⟨h.1,hQ _ _ hw h.2⟩
 | fuel+1,_,a,w,hw,h=>⟨fun h0=>hQ _ _ hw (h.1 h0),fun i hi=>by
  have hh:=h.2 i hi
  unfold qOp at hh
  unfold wpOpIn
  cases ho:ops[i]? with
  | none =>
   simp only [ho] at hh ⊢
   exact qln l n hd hQ fuel _ a w hw hh
  | some o =>
   simp only [ho] at hh ⊢
   split
   ·rename_i hw'
    simp only [hw',if_true] at hh
    exact qr8 l n (qps hd ho) (Oper.wp_of_quiet hw (fun a' w' hw'=>qln l n hd hQ fuel _ a' w' hw') hh)
   ·rename_i hw'
    simp only [hw'] at hh
    exact ⟨fun _ _=>trivial,qln l n hd hQ fuel _ _ w hw hh⟩⟩
theorem qcy {P:Program} {l n:Nat} {id:Nat} {Q:Exit->Act->World->Prop} {a:Act} {w:World} {ls:List Oper} (hm:P.follows .mixedOrders=true) (hd:qi2 ls.toArray=true) (hB:Region.lexB .any ls.toArray=true)
  (h:wpQuiet P ls.toArray (fun w'=>∃ x,w'=qak w x) (fun a'=>∀ w',Ext w w'->Q .normal a' w') ls a):(Code.region id ls.toArray true).wpIn (Fence.wide.inRound l) n P Q a w:=by
 simp only [Region.lexB,Bool.and_eq_true] at hB
 refine wpIn_region_any hm (qln (C:=fun w'=>∃ x,w'=qak w x) (Q:=fun a'=>∀ w',Ext w w'->Q .normal a' w') l n hd (fun a' w' hw' h=>by obtain ⟨x,rfl⟩:=hw';exact h _ (qa5 w x)) _ _ _ _ ⟨_,(qlg (Ext.refl w).drew).symm⟩ ?_)
 have:=wpAnyQ_lex (C:=fun w'=>∃ x,w'=qak w x) (md:=.any) hB.1 ls 0 (Array.replicate ls.toArray.size false) a (by simp) (by simpa using hB.2) h
 simpa using this
theorem qab.int {base:Nat} {e:TypeId} {T T':Nat->Prop} {w:World} {xs:List Int} {v:Value} (h:qab qac 1 e base T w xs v):qab qac 1 e base T' w xs v:=by
 obtain ⟨news,h1,h2⟩:=h
 exact ⟨news,h1,h2.imp fun x _ cs h=>h⟩
theorem qab.i64 {base:Nat} {e:TypeId} {T:Nat->Prop} {w:World} {xs:List Int} {v:Value} (h:qab qac 1 e base T w xs v):∀ x∈xs,I64 x:=by
 obtain ⟨news,h1,h2⟩:=h
 exact h2.ints.2
theorem qab.bt {α:Type} {R:Rdr α} {k base:Nat} {e:TypeId} {T:Nat->Prop} {w w':World} {xs:List α} {v:Value} (h:qab R k e base T w xs v) (hR:Good R k) {Z:Nat->Prop} (hb:Bt Z w w')
  (hZ:∀ b,b<w.heap.size->Z b->¬ T b∧v.ownBlock≠some b):qab R k e base T w' xs v:=by
 obtain ⟨news,h1,h2⟩:=h
 refine ⟨news,?_,h2.imp fun x _ cs hx=>hR.move hx ⟨hb.size,fun b hb1 hb2=>hb.block b hb1 fun hz=>(hZ b hb1 hz).1 hb2.1⟩⟩
 refine ⟨h1.1,h1.2.imp id ?_⟩
 rintro ⟨g,cap,cur,rfl,hg,hh,h⟩
 have hlt:=(Array.getElem?_eq_some_iff.1 hh).1
 exact ⟨g,cap,cur,rfl,hg,(hb.block g hlt fun hz=>(hZ g hlt hz).2 rfl).trans hh,h⟩
theorem qab.base {α:Type} {R:Rdr α} {k base base':Nat} {e:TypeId} {T:Nat->Prop} {w:World} {xs:List α} {v:Value} (h:qab R k e base T w xs v) (hb:base'<=base):qab R k e base' T w xs v:=by
 obtain ⟨news,h1,h2⟩:=h
 refine ⟨news,⟨h1.1,h1.2.imp id ?_⟩,h2⟩
 rintro ⟨g,cap,cur,rfl,hg,h⟩
 exact ⟨g,cap,cur,rfl,Nat.le_trans hb hg,h⟩
theorem qab.not_def {α:Type} {R:Rdr α} {k base:Nat} {e:TypeId} {T:Nat->Prop} {w:World} {xs:List α} {v:Value} (h:qab R k e base T w xs v) {r:Nat} {o:Option (List Deferred)} (hr:w.heap[r]? = some (.deferred o)):v.ownBlock≠some r:=by
 obtain ⟨news,h1,h2⟩:=h
 intro he
 rcases h1.2 with ⟨rfl,_⟩ | ⟨g,cap,cur,rfl,hg,hh,_⟩
 ·simp [Value.ownBlock] at he
 ·have:g=r:=by simpa [Value.ownBlock] using he
  subst this
  rw [hr] at hh
  cases hh
theorem qav.mono {S S':Nat->Prop} {W:World} {g:Nat} {s:Sy} (h:qav S W g s) (hs:∀ b,b<W.heap.size->S b->S' b):qav S' W g s:=by
 obtain ⟨v,u,m,f,h1,h2,h3,h4,h5,h6,h7,h8⟩:=h.ex
 exact ⟨v,u,m,f,h1,qaa.good.mono h2 hs,qb5.good.mono h3 hs,hs g (Array.getElem?_eq_some_iff.1 h1).1 h4,hs m h6.lt h5,h6,h7,fun n x hx=>(RSl.good qac.good).mono (h8 n x hx) hs⟩
theorem qtz {A B:World} (h:Ext A B):A.grownBy B none:=⟨h.os,h.tape,h.output,h.size,fun k hk _=>(Ext.kp (S:=fun _=>True) h).block k hk trivial⟩
theorem qeq {A B:World} (h:Ext A B) (n:Nat):KeepsFrom n A B:=⟨h.size,fun k o _ hk _=>((Ext.kp (S:=fun _=>True) h).block k (Array.getElem?_eq_some_iff.1 hk).1 trivial).trans hk⟩
theorem qoq {F:Fence} {n:Nat} {P:Program} (w:World) {ops:Array Oper} {rest:List Oper} {o:Oper} {a:Act} {Q:Exit->Act->World->Prop}
  (hg:o.guard=none) (s x:Operand) (t:TypeId) (hop:o.op=Op.call { callee:=Callee.builtin Builtin.append,args:=#[s,x],argTypes:=#[t,t] })
  (base:Nat) (e:TypeId) (i:TypeInfo) (z:Value) (size bytes:Nat) (h1:P.underlying t=some (.slice e)) (h2:P.info? e=some i) (h3:i.zero=some z) (h4:i.size=size) (h5:i.bytes=bytes) (h6:z.cells.size=size) (h7:0<size)
  (v:Value) (k:Nat) (xs:List Value) (hs:a.eval s=v) (hown:w.ownsRow base e size v k xs) (ad:Addr) (m c:Nat) (news:List Value) (hx:a.eval x = .slice (some ad) m c) (hn:news.length=m*size)
  (hc:∀ j u,news[j]? = some u->w.cell? (ad.add j)=some u) (h1c:∀ u∈news,u.oneCell'=true) (b1:k+m<=maxLen) (b2:(k+m)*bytes<=140737488355328) (b3:base<=w.heap.size)
  (hK:∀ v' w',w'.ownsRow base e size v' (k+m) (xs++news)->w.grownBy w' v.ownBlock->(v'.ownBlock=v.ownBlock∨v'.ownBlock=some w.heap.size)->wpListIn F n P ops Q rest (a.put o.dst v') w') :
  wpListIn F n P ops Q (o :: rest) a w:=by
 refine wpListIn_plain hg fun K hK'=>?_
 obtain ⟨v',w',hrun,r1,r2,_,r4⟩:=run_append_own_at (P:=P) w base t o.type e i z size bytes h1 h2 h3 h4 h5 h6 h7 v k xs hown ad m c news hn hc h1c b1 b2 b3
 unfold Oper.wpIn
 refine ⟨?_,?_⟩
 ·simp [Oper.about,hop,resolve,Target.leads,Sem.run_pure]
 ·rw [Oper.semAt_plain F _ _ (by rw [hop];intro c hc';cases hc')]
  simp [execOp,hop,resolve,invoke,builtin,hs,hx,hrun,Result.andThen]
  exact hK' _ _ (hK v' w' r1 r2 r4)
theorem qj7 {X w1:World} {base nb:Nat} {xs:List Int} {t:Int} {vk v':Value} (hi:∀ x∈xs,I64 x) (ht:I64 t) (hb:Boxed X nb 53 vk) (hrow:X.ownsRow base 3 1 vk xs.length (xs.map (Value.int .i64)))
  (hown':w1.ownsRow base 3 1 v' (xs.length+1) (xs.map (Value.int .i64)++[.int .i64 t])) (hg:(X.alloc (.cells #[.int .i64 t] 3)).grownBy w1 vk.ownBlock) :
  Boxed w1 nb 53 vk∧Boxed (w1.setCell ⟨nb,0,none⟩ v') nb 53 v'∧qab qac 1 3 base (fun _=>False) (w1.setCell ⟨nb,0,none⟩ v') (xs++[t]) v'∧Bt (fun b=>b=nb∨vk.ownBlock=some b) X (w1.setCell ⟨nb,0,none⟩ v'):=by
 have b1:Boxed w1 nb 53 vk:=(hb.alloc _).kept hg (hb.not_row (by decide) hrow)
 refine ⟨b1,b1.set v',⟨(xs++[t]).map (Value.int .i64),?_,Flat.of_ints fun x hx=>?_⟩,?_⟩
 ·rw [List.length_append,List.map_append]
  exact hown'.kept (grownBy_setCell' w1 nb v') (.inr (b1.not_row (by decide) hown').symm)
 ·rcases List.mem_append.1 hx with h | h
  ·exact hi x h
  ·rw [List.mem_singleton.1 h];exact ht
 ·exact ((Bt.alloc (Bt.refl _ _) _).trans ((Bt.of_grown hg).mono fun k _ h=>.inr h.symm)).set (p:=⟨nb,0,none⟩) (.inr (.inl rfl)) v'
theorem qhr {β:Type} (Z:Nat->Prop) (W0:World):OwnFrom W0.heap.size (fun (_:β) W=>Bt Z W0 W):=by
 intro _ X Y r h hg hr
 exact ⟨hg.os.trans h.os,hg.tape.trans h.tape,hg.output.trans h.output,Nat.le_trans h.size hg.size,fun k hk hz=>(hg.block k (Nat.lt_of_lt_of_le hk h.size) fun e=>by have:=(hr k e.symm).1;omega).trans (h.block k hk hz)⟩
theorem map_own {β κ:Type} [DecidableEq κ] {K:κ->Value} {m B:Nat} (hm:m<B) (f:β->κ->Option Value):OwnFrom B (fun s W=>IsMap K W m (f s)):=by
 intro s X Y r h hg hr
 exact h.move (hg.block m h.lt fun e=>by have:=(hr m e.symm).1;omega)
structure qdr {α:Type} (nb base:Nat) (vk0:Value) (W0:World) (row:List α->List Int) (pre:List α) (W:World):Prop where
 bt:Bt (fun b=>b=nb∨vk0.ownBlock=some b) W0 W
 row:∃ vk,Boxed W nb 53 vk∧qab qac 1 3 base (fun _=>False) W (row pre) vk∧(vk.ownBlock=vk0.ownBlock∨∀ b,vk.ownBlock=some b->W0.heap.size<=b)
section
variable {α:Type} {nb base:Nat} {vk0:Value} {W0:World} {row:List α->List Int} {pre:List α} {W W':World}
theorem qdr.start (hb:Boxed W0 nb 53 vk0) (hown:qab qac 1 3 base (fun _=>False) W0 (row []) vk0):qdr nb base vk0 W0 row [] W0:=⟨Bt.refl _ _,vk0,hb,hown,.inl rfl⟩
theorem qrh (hnb:nb<W0.heap.size):OwnFrom W0.heap.size (qdr nb base vk0 W0 row):=by
 intro pre X Y r h hg hr
 have hlow:∀ q,q<X.heap.size->q<W0.heap.size->Y.heap[q]? = X.heap[q]?:=fun q h1 h2=>hg.block q h1 fun e=>by have:=(hr q e.symm).1;omega
 have hcell:∀ (q:Nat) (o:Obj),X.heap[q]? = some o->o.isCells=true->Y.heap[q]? = some o:=fun q o h1 h2=>(hg.block q (Array.getElem?_eq_some_iff.1 h1).1 fun e=>by
  obtain ⟨_,o',h3,h4⟩:=hr q e.symm
  rw [h1] at h3
  cases h3
  rw [h2] at h4
  cases h4).trans h1
 obtain ⟨vk,h1,⟨news,h2,h3⟩,h4⟩:=h.row
 refine ⟨⟨hg.os.trans h.bt.os,hg.tape.trans h.bt.tape,hg.output.trans h.bt.output,Nat.le_trans h.bt.size hg.size,fun k hk hz=>(hlow k (Nat.lt_of_lt_of_le hk h.bt.size) hk).trans (h.bt.block k hk hz)⟩,vk,hcell _ _ h1 rfl,⟨news,⟨h2.1,h2.2.imp id ?_⟩,h3.imp fun _ _ _ hx=>hx⟩,h4⟩
 ·rintro ⟨gg,cap,cur,rfl,hgg,hh,hrest⟩
  exact ⟨gg,cap,cur,rfl,hgg,hcell _ _ hh rfl,hrest⟩
theorem qdr.move (h:qdr nb base vk0 W0 row pre W) (he:Ext W W'):qdr nb base vk0 W0 row pre W':=by
 obtain ⟨vk,h1,h2,h3⟩:=h.row
 exact ⟨h.bt.ext he,vk,((Ext.kp (S:=fun _=>True) he).block _ h1.lt trivial).trans h1,h2.ext qac.good he,h3⟩
theorem qdr.same (h:qdr nb base vk0 W0 row pre W) (he:Ext W W') {x:α} (hr:row (pre++[x])=row pre):qdr nb base vk0 W0 row (pre++[x]) W':=by
 obtain ⟨vk,h1,h2,h3⟩:=h.row
 refine ⟨h.bt.ext he,vk,((Ext.kp (S:=fun _=>True) he).block _ h1.lt trivial).trans h1,?_,h3⟩
 rw [hr]
 exact h2.ext qac.good he
theorem qdr.push {vk v':Value} {w1:World} {t:Int} (h:qdr nb base vk0 W0 row pre W) (hb:Boxed W nb 53 vk) (hown:qab qac 1 3 base (fun _=>False) W (row pre) vk) (hat0:vk.ownBlock=vk0.ownBlock∨∀ b,vk.ownBlock=some b->W0.heap.size<=b)
  (ht:I64 t) (hown':w1.ownsRow base 3 1 v' ((row pre).length+1) ((row pre).map (Value.int .i64)++[.int .i64 t])) (hg:(W.alloc (.cells #[.int .i64 t] 3)).grownBy w1 vk.ownBlock) (hat:v'.ownBlock=vk.ownBlock∨v'.ownBlock=some (W.heap.size+1))
  {x:α} (hr:row (pre++[x])=row pre++[t]):qdr nb base vk0 W0 row (pre++[x]) (w1.setCell ⟨nb,0,none⟩ v'):=by
 obtain ⟨news,hrow,hF⟩:=hown
 obtain ⟨rfl,hi⟩:=hF.ints
 obtain ⟨p1,p2,p3,p4⟩:=qj7 hi ht hb hrow hown' hg
 have hsz:=h.bt.size
 refine ⟨⟨p4.os.trans h.bt.os,p4.tape.trans h.bt.tape,p4.output.trans h.bt.output,Nat.le_trans hsz p4.size,fun k hk hz=>(p4.block k (Nat.lt_of_lt_of_le hk hsz) fun hz'=>hz ?_).trans (h.bt.block k hk hz)⟩,v',p2,by rw [hr];exact p3,?_⟩
 ·rcases hz' with e | e
  ·exact .inl e
  ·rcases hat0 with h0 | h0
   ·exact .inr (h0 ▸ e)
   ·exact absurd (h0 k e) (by omega)
 ·rcases hat with e | e
  ·rw [e];exact hat0
  ·refine .inr fun b hb'=>?_
   rw [e] at hb'
   cases hb'
   omega
theorem qj1 {A B:World} {Z:Nat->Prop} (h:Bt Z A B) (n:Nat) (hz:∀ k o,n<=k->Z k->A.heap[k]? = some o->o.isCells=true):KeepsFrom n A B :=
 ⟨h.size,fun k o hn hk ho=>(h.block k (Array.getElem?_eq_some_iff.1 hk).1 fun hz'=>by rw [hz k o hn hz' hk] at ho;cases ho).trans hk⟩
theorem qp1 {base size n:Nat} {e:TypeId} {v:Value} {xs:List Value} (h:W.ownsRow base e size v n xs) {k:Nat} {o:Obj} (hk:v.ownBlock=some k) (ho:W.heap[k]? = some o):o.isCells=true:=by
 rcases h.2 with ⟨rfl,_⟩ | ⟨g,cap,cur,rfl,_,hh,_⟩
 ·simp [Value.ownBlock] at hk
 ·obtain rfl:g=k:=by simpa [Value.ownBlock] using hk
  rw [hh] at ho
  cases ho
  rfl
theorem qry {vk v':Value} {w1:World} {t:Int} {xs:List Int} (hb:Boxed W nb 53 vk) (hown:qab qac 1 3 base (fun _=>False) W xs vk)
  (ht:I64 t) (hown':w1.ownsRow base 3 1 v' (xs.length+1) (xs.map (Value.int .i64)++[.int .i64 t])) (hg:(W.alloc (.cells #[.int .i64 t] 3)).grownBy w1 vk.ownBlock)
  (n:Nat) {Z:Nat->Prop} (hZ:∀ k,k<W.heap.size->Z k->¬ (k=nb∨vk.ownBlock=some k)):KeepsFrom n W (w1.setCell ⟨nb,0,none⟩ v')∧Kp Z W (w1.setCell ⟨nb,0,none⟩ v'):=by
 obtain ⟨news,hrow,hF⟩:=hown
 obtain ⟨rfl,hi⟩:=hF.ints
 obtain ⟨p1,p2,p3,p4⟩:=qj7 hi ht hb hrow hown' hg
 refine ⟨qj1 p4 n fun k o _ hk ho=>?_,p4.kp hZ⟩
 rcases hk with rfl | hk
 ·rw [show W.heap[k]? = _ from hb] at ho
  cases ho
  rfl
 ·exact qp1 hrow hk ho
end
end
end Go.Proofs.YtegenalcheooeaaGreat
