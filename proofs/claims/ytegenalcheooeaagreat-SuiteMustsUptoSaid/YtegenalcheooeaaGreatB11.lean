/- Of the proof of a law of the suites: Copied, Su2. -/
import Derived.Test.YtegenalcheooeaaGreatB05
import Derived.Test.YtegenalcheooeaaGreatB06
import Derived.Test.YtegenalcheooeaaGreatB10
import Derived.Deep.RegionWith
import Derived.Laws.OwnMore
import Derived.Lib.SmallJoins
import Derived.RangeFuncBox
set_option linter.unusedSectionVars false
set_option linter.unusedSimpArgs false
set_option linter.unusedVariables false
namespace Go.Proofs.YtegenalcheooeaaGreat
open Go.RowKit
attribute [local go_sem] cell?_exto
section
set_option maxHeartbeats 1000000
set_option maxRecDepth 100000
/- suite.copied: labels in memory of their own. -/
section
variable {α:Type} {R:Rdr α} {k:Nat}
theorem Flat.put {S:Nat→Prop} {w w':World} (hk:∀ {x cs},R S w x cs→cs.length=k):∀ {xs:List α} {cs:List Value} (i c:Nat) (u:Value) (x':α),Flat R k S w xs cs→c<k→(hi:i<xs.length) →
  (∀ x∈xs,∀ cs,R S w x cs→R S w' x cs)→(∀ cs,R S w xs[i] cs→R S w' x' (cs.set c u))→Flat R k S w' (xs.set i x') (cs.set (i*k+c) u)
 | [],_,_,_,_,_,_,_,hi,_,_=>absurd hi (by simp)
 | x :: xs,cs,0,c,u,x',⟨c1,c2,h1,h2,h3,h4⟩,hc,_,hm,hn=>by
  subst h1
  refine ⟨c1.set c u,c2,?_,by simpa using h2,hn c1 h3,h4.imp fun y hy=>hm y (by simp [hy])⟩
  rw [Nat.zero_mul,Nat.zero_add,List.set_append_left _ _ (by omega)]
 | x :: xs,cs,i+1,c,u,x',⟨c1,c2,h1,h2,h3,h4⟩,hc,hi,hm,hn=>by
  subst h1
  refine ⟨c1,c2.set (i*k+c) u,?_,h2,hm x (by simp) _ h3,Flat.put hk i c u x' h4 hc (by simpa using hi) (fun y hy=>hm y (by simp [hy])) (by simpa using hn)⟩
  rw [List.set_append_right _ _ (by rw [h2,Nat.add_mul];omega)]
  congr 2
  rw [h2,Nat.add_mul]
  omega
theorem qab.put {e:TypeId} {base:Nat} {T:Nat→Prop} {w:World} {xs:List α} {g cap:Nat} (hR:Good R k) (h:qab R k e base T w xs (.slice (some ⟨g,0,none⟩) xs.length cap)) (i c:Nat) (u:Value) (x':α) (hc:c<k) (hi:i<xs.length)
  (hn:∀ cs,R (fun b=>T b∧b≠g) w xs[i] cs→R (fun b=>T b∧b≠g) w x' (cs.set c u)):qab R k e base T (w.setCell ⟨g,i*k+c,none⟩ u) (xs.set i x') (.slice (some ⟨g,0,none⟩) xs.length cap):=by
 obtain ⟨news,h1,h2⟩:=h
 have hS:(fun b=>T b∧(Value.slice (some ⟨g,0,none⟩) xs.length cap).ownBlock≠some b)=fun b=>T b∧b≠g:=by
  funext b
  simp [Value.ownBlock,eq_comm]
 rw [hS] at h2
 have hb:=grownBy_setCell' w g u
 have hkp:Kp (fun b=>T b∧b≠g) w (w.setCell ⟨g,i*k+c,none⟩ u):=⟨by simp [World.setCell],fun q _ hq=>Below.heap_setCell w _ u q hq.2⟩
 refine ⟨news.set (i*k+c) u,?_,?_⟩
 ·rw [List.length_set]
  exact (h1.stored _ u).1
 ·rw [hS]
  exact Flat.put (fun h=>hR.len h) i c u x' h2 hc hi (fun x _ cs hx=>hR.move hx hkp) fun cs hx=>hR.move (hn cs hx) hkp
theorem Flat.at {S:Nat→Prop} {w:World}:∀ {xs:List α} {cs:List Value} (i:Nat) (hi:i<xs.length),Flat R k S w xs cs→∃ c1,c1.length=k∧R S w xs[i] c1∧∀ j,j<k→cs[i*k+j]? = c1[j]?
 | x :: xs,cs,0,_,⟨c1,c2,h1,h2,h3,h4⟩=>⟨c1,h2,h3,fun j hj=>by rw [h1,Nat.zero_mul,Nat.zero_add,List.getElem?_append_left (by omega)]⟩
 | x :: xs,cs,i+1,hi,⟨c1,c2,h1,h2,h3,h4⟩=>by
  obtain ⟨d,h5,h6,h7⟩:=Flat.at i (by simpa using hi) h4
  refine ⟨d,h5,by simpa using h6,fun j hj=>?_⟩
  rw [h1,List.getElem?_append_right (by rw [h2,Nat.add_mul];omega),← h7 j hj]
  congr 1
  rw [h2,Nat.add_mul]
  omega
theorem qfs (g n cap:Nat) (T:Nat→Prop):(fun b=>T b∧(Value.slice (some ⟨g,0,none⟩) n cap).ownBlock≠some b)=fun b=>T b∧b≠g:=by
 funext b
 simp [Value.ownBlock,eq_comm]
theorem qa4 {W W1:World} (he:Ext W W1) {a:Addr} (hb:a.block<W.heap.size) (h:W.frozen? a=false):W1.frozen? a=false:=(he.frozen hb).trans h
end
theorem Tm.size_pos (t:Tm):0<t.size:=by cases t;rw [Tm.size];omega
theorem Tm.sizes_len:∀ l:List Tm,l.length≤Tm.sizes l
 | []=>by simp
 | t :: l=>by
  have:=Tm.sizes_len l
  have:=t.size_pos
  rw [Tm.sizes,List.length_cons]
  omega
theorem Tm.sizes_l (t:Tm):Tm.sizes t.l<t.size:=by cases t;rw [Tm.size];exact Nat.lt_succ_self _
def CopyC (l:List Tm):Prop:=∀ (S:Nat→Prop) (B:Nat) (v:Value) (W:World),qal S W l [v]→W.cell? ⟨B,0,none⟩=some (.func (.func 151) #[] #[.pointer (some ⟨B,0,none⟩)]) →
  Calls Tryz.prog 151 #[v,.pointer (some ⟨B,0,none⟩)] W fun e w'=>∃ A c,e = .returned (.slice A l.length c)∧qal (fun b=>(S b∧b<W.heap.size)∨W.heap.size≤b) w' l [.slice A l.length c]∧Ext W w'
theorem copied1_c:∀ (n:Nat) (l:List Tm),Tm.sizes l≤n→n≤1000000000→CopyC l:=by
 intro n
 induction n using Nat.strongRecOn with
 | _ n ih =>
 intro l hl hn S B v w hx hB
 have hB0:=World.block_lt_of_cell? w _ hB
 have hll:=Tm.sizes_len l
 have hcl:=fun W (hW:Ext w W)=>cloneTm S l v W (qal.good.bel hx hW) (by omega)
 obtain ⟨A,c,rfl,_,_⟩:=hx.val
 obtain ⟨T,hT⟩:∃ T:Nat→Prop,T=fun b=>(S b∧b<w.heap.size)∨w.heap.size≤b:=⟨_,rfl⟩
 have HX:=Hd hx
 clear hx
 rw [← hT]
 go_enter Tryz.func151,Tryz.ntmps151
 go_wp2_with fail
 refine (cloneTm (fun b=>S b∧b<w.heap.size) l _ _ (qal.good.mono HX.out fun b h1 h2=>⟨h2,h1⟩) (by omega)).mono ?_
 rintro e w1 ⟨v1,rfl,hv1,h1⟩
 obtain ⟨A1,c1,rfl,_,_⟩:=(hv1.sl RTm.good (by decide)).val
 have HV:=Hd (hv1.mono (T':=T) RTm.good fun b _ h=>by rw [hT];exact .inl h)
 clear hv1 HX hcl
 go_wp2_with fail
 go_loopw [9] (fun i wr=>∃ k:Nat,k≤l.length∧i = .int .i64 k∧qab RTm 3 159 w.heap.size T wr l (.slice A1 l.length c1)∧Ext w wr) (fun i _=>l.length-(intOf i).toNat)
 case atStart=>exact ⟨0,Nat.zero_le _,rfl,HV.out,h1⟩
 case round =>
  obtain ⟨k,hk,rfl,hv,hE⟩:=hrel
  by_cases hlt:k<l.length
  ·obtain ⟨news,hrow,hF⟩:=id hv
   obtain ⟨g,cap,he⟩:=Joins.ownsRow_form hrow (by omega)
   injection he with he1 _ he2
   subst he1 he2
   rw [qfs] at hF
   obtain ⟨c2,hc2,hr,hat⟩:=hF.at k hlt
   obtain ⟨_,_,v2,rfl,hv2⟩:=(qay ..).1 hr
   have gc:wr.cell? ⟨g,k*3+2,none⟩=some v2:=by rw [hrow.cellAt _ (by omega),hat 2 (by decide)];rfl
   have gf:=hrow.frozenAt (k*3+2)
   have hgl:g<wr.heap.size:=World.block_lt_of_cell? wr _ gc
   have hrec:=fun W (hW:Ext wr W)=>ih (Tm.sizes l[k].l) (by have:=Tm.sizes_l l[k];have:=Tm.size_mem (List.getElem_mem hlt);omega) l[k].l (Nat.le_refl _) (by have:=Tm.sizes_l l[k];have:=Tm.size_mem (List.getElem_mem hlt);omega) (fun b=>T b∧b≠g) B v2 W (qal.good.bel hv2 hW) (Ext.keep (hE.trans' hW) hB)
   obtain ⟨A2,c2,rfl,_,_⟩:=hv2.val
   have gB:=Ext.keep hE hB
   have hgw:w.heap.size≤g:=(qbt hrow g rfl).1
   have key:∀ (w3:World) (A3:Option Addr) (c3:Nat),Ext wr.drew w3→qal (fun b=>(T b∧b≠g)∧b<wr.drew.heap.size∨wr.drew.heap.size≤b) w3 l[k].l [.slice A3 l[k].l.length c3] →
     qab RTm 3 159 w.heap.size T (w3.setCell ⟨g,k*3+2,none⟩ (.slice A3 l[k].l.length c3)) l (.slice (some ⟨g,0,none⟩) l.length c1)∧Ext w (w3.setCell ⟨g,k*3+2,none⟩ (.slice A3 l[k].l.length c3)):=fun w3 A3 c3 hx ho=>by
    have hx':Ext wr w3:=Ext.trans' (Ext.refl wr).drew hx
    have h:=qab.put RTm.good (hv.ext RTm.good hx') k 2 (.slice A3 l[k].l.length c3) l[k] (by decide) hlt fun cs hcs=>by
     obtain ⟨i1,i2,u,rfl,hu⟩:=(qay ..).1 hcs
     refine (qay ..).2 ⟨i1,i2,_,rfl,qal.good.mono ho fun b _ hb=>?_⟩
     rcases hb with ⟨h,_⟩ | h
     ·exact h
     ·have h':wr.heap.size≤b:=h
      have:=hE.size
      exact ⟨by rw [hT];exact .inr (by omega),by omega⟩
    rw [List.set_getElem_self] at h
    exact ⟨h,(hE.trans' hx').set hgw _⟩
   have HK:=Hd key
   clear hv hF hr hat hv2 hrow key
   go_wp2_with fail
   go_region_with (first | (go_at_call 151;refine (hrec _ bel).mono ?_;rintro e w3 ⟨A3,c3,rfl,ho3,hx1⟩;have gf3:=qa4 hx1 (by assumption) gf;have gc3:=Ext.keep hx1 gc))
   all_goals go_wp2_with fail
   all_goals go_roundw
   all_goals first
    | exact ⟨k+1,by omega,by go_num,(HK.out _ _ _ hx1 ho3).1,(HK.out _ _ _ hx1 ho3).2⟩
    | (simp [intOf];omega)
  ·have HO:=Hd hv
   clear hv
   go_wp2_with fail
   go_ret
   refine ⟨A1,c1,rfl,qal.good.mono (HO.out.sl RTm.good (by decide)) fun b _ hb=>?_,hE⟩
   rw [hT]
   rcases hb with h | h
   ·rw [hT] at h;exact h
   ·exact .inr h
def Lb.size (x:Lb):Nat:=Tm.sizes x.v
theorem qmj (S:Nat→Prop) (l:List Lb) (v:Value) (w:World) (hx:qaa S w l [v]) (hsz:∀ x∈l,x.size≤1000000000) (hbig:l.length*32≤140737488355328) :
  Calls Tryz.prog 82 #[v] w fun e w'=>∃ A c,e = .returned (.slice A l.length c)∧qaa (fun b=>(S b∧b<w.heap.size)∨w.heap.size≤b) w' l [.slice A l.length c]∧Ext w w':=by
 obtain ⟨A,c,rfl,_,_⟩:=hx.val
 obtain ⟨T,hT⟩:∃ T:Nat→Prop,T=fun b=>(S b∧b<w.heap.size)∨w.heap.size≤b:=⟨_,rfl⟩
 have HX:=Hd hx
 clear hx
 rw [← hT]
 go_enter Tryz.func82,Tryz.ntmps82
 go_wp2_with fail
 obtain ⟨W0,hW0⟩:∃ W0,w.alloc (.cells #[.func (.func 151) #[] #[.pointer (some ⟨w.heap.size,0,none⟩)]] 194)=W0:=⟨_,rfl⟩
 have hX0:Ext w W0:=by rw [← hW0];exact (Ext.refl w).alloc _
 have hB:W0.cell? ⟨w.heap.size,0,none⟩=some (.func (.func 151) #[] #[.pointer (some ⟨w.heap.size,0,none⟩)]):=by rw [← hW0];simp
 have hB0:=World.block_lt_of_cell? W0 _ hB
 rw [hW0]
 clear hW0
 refine (ql4 (fun b=>S b∧b<w.heap.size) l _ _ (qaa.good.bel (qaa.good.mono HX.out fun b h1 h2=>⟨h2,h1⟩) hX0) hbig).mono ?_
 rintro e w1 ⟨v1,rfl,hv1,h1⟩
 obtain ⟨A1,c1,rfl,_,_⟩:=(hv1.sl RLb.good (by decide)).val
 have HV:=Hd (hv1.mono (T':=T) RLb.good fun b _ h=>by rw [hT];exact .inl h)
 have hszW:=hX0.size
 have hX1:Ext w w1:=hX0.trans' h1
 have hB1:=Ext.keep h1 hB
 clear hv1 HX hB
 go_wp2_with fail
 go_loopw [10] (fun i wr=>∃ k:Nat,k≤l.length∧i = .int .i64 k∧qab RLb 2 61 W0.heap.size T wr l (.slice A1 l.length c1)∧Ext w wr∧wr.cell? ⟨w.heap.size,0,none⟩=some (.func (.func 151) #[] #[.pointer (some ⟨w.heap.size,0,none⟩)])) (fun i _=>l.length-(intOf i).toNat)
 case atStart=>exact ⟨0,Nat.zero_le _,rfl,HV.out,hX1,hB1⟩
 case round =>
  obtain ⟨k,hk,rfl,hv,hE,gB⟩:=hrel
  by_cases hlt:k<l.length
  ·obtain ⟨news,hrow,hF⟩:=id hv
   obtain ⟨g,cap,he⟩:=Joins.ownsRow_form hrow (by omega)
   injection he with he1 _ he2
   subst he1 he2
   rw [qfs] at hF
   obtain ⟨c2,hc2,hr,hat⟩:=hF.at k hlt
   obtain ⟨hi1,v2,rfl,hv2⟩:=id hr
   have gc:wr.cell? ⟨g,k*2+1,none⟩=some v2:=by rw [hrow.cellAt _ (by omega),hat 1 (by decide)];rfl
   have gf:=hrow.frozenAt (k*2+1)
   have hgl:g<wr.heap.size:=World.block_lt_of_cell? wr _ gc
   have hrec:=fun W (hW:Ext wr W)=>copied1_c (Tm.sizes l[k].v) l[k].v (Nat.le_refl _) (hsz _ (List.getElem_mem hlt)) (fun b=>T b∧b≠g) w.heap.size v2 W (qal.good.bel hv2 hW) (Ext.keep hW gB)
   obtain ⟨A2,c2,rfl,_,_⟩:=hv2.val
   have hgw:W0.heap.size≤g:=(qbt hrow g rfl).1
   have key:∀ (w3:World) (A3:Option Addr) (c3:Nat),Ext wr.drew w3→qal (fun b=>(T b∧b≠g)∧b<wr.drew.heap.size∨wr.drew.heap.size≤b) w3 l[k].v [.slice A3 l[k].v.length c3] →
     qab RLb 2 61 W0.heap.size T (w3.setCell ⟨g,k*2+1,none⟩ (.slice A3 l[k].v.length c3)) l (.slice (some ⟨g,0,none⟩) l.length c1)∧Ext w (w3.setCell ⟨g,k*2+1,none⟩ (.slice A3 l[k].v.length c3))∧(w3.setCell ⟨g,k*2+1,none⟩ (.slice A3 l[k].v.length c3)).cell? ⟨w.heap.size,0,none⟩=some (.func (.func 151) #[] #[.pointer (some ⟨w.heap.size,0,none⟩)]):=fun w3 A3 c3 hx ho=>by
    have hx':Ext wr w3:=Ext.trans' (Ext.refl wr).drew hx
    have h:=qab.put RLb.good (hv.ext RLb.good hx') k 1 (.slice A3 l[k].v.length c3) l[k] (by decide) hlt fun cs hcs=>by
     obtain ⟨i1,u,rfl,hu⟩:=hcs
     refine ⟨i1,_,rfl,qal.good.mono ho fun b _ hb=>?_⟩
     rcases hb with ⟨h,_⟩ | h
     ·exact h
     ·have h':wr.heap.size≤b:=h
      have:=hE.size
      exact ⟨by rw [hT];exact .inr (by omega),by omega⟩
    rw [List.set_getElem_self] at h
    exact ⟨h,(hE.trans' hx').set (Nat.le_trans hszW hgw) _,(World.cell?_of_block (a:=⟨w.heap.size,0,none⟩) (Below.heap_setCell w3 _ _ _ (by show w.heap.size≠g;omega))).trans (Ext.keep hx' gB)⟩
   have HK:=Hd key
   clear hv hF hr hat hv2 hrow key
   go_wp2_with fail
   go_region_with (first | (go_at_call 151;refine (hrec _ bel).mono ?_;rintro e w3 ⟨A3,c3,rfl,ho3,hx1⟩;have gf3:=qa4 hx1 (by assumption) gf;have gc3:=Ext.keep hx1 gc))
   all_goals go_wp2_with fail
   all_goals go_roundw
   all_goals first
    | exact ⟨k+1,by omega,by go_num,(HK.out _ _ _ hx1 ho3).1,(HK.out _ _ _ hx1 ho3).2.1,(HK.out _ _ _ hx1 ho3).2.2⟩
    | (simp [intOf];omega)
  ·have HO:=Hd hv
   clear hv
   go_wp2_with fail
   go_ret
   refine ⟨A1,c1,rfl,qaa.good.mono (HO.out.sl RLb.good (by decide)) fun b _ hb=>?_,hE⟩
   rw [hT]
   rcases hb with h | h
   ·rw [hT] at h;exact h
   ·exact .inr (by omega)
end
section
set_option maxHeartbeats 1000000
set_option maxRecDepth 100000
/- suite: binary search,within,common,subset. -/
def bsI (p:Nat→Bool):Nat→Nat→Nat→Nat
 | 0,i,_=>i
 | f+1,i,j=>if i<j then (if p ((i+j) / 2) then bsI p f ((i+j) / 2+1) j else bsI p f i ((i+j) / 2)) else i
theorem qin (p:Nat→Bool):∀ (f i j:Nat),j-i≤f→bsI p f i j=bsI p (j-i) i j
 | 0,i,j,h=>by rw [show j-i=0 from by omega]
 | f+1,i,j,h=>by
  by_cases hij:i<j
  ·obtain ⟨m,hm⟩:∃ m,j-i=m+1:=⟨j-i-1,by omega⟩
   rw [hm,bsI,bsI,if_pos hij,if_pos hij]
   split
   ·rw [qin p f _ _ (by omega),qin p m _ _ (by omega)]
   ·rw [qin p f _ _ (by omega),qin p m _ _ (by omega)]
  ·rw [show j-i=0 from by omega,bsI,bsI,if_neg hij]
theorem qnc (p:Nat→Bool) (i j:Nat) (h:i<j):bsI p (j-i) i j=if p ((i+j) / 2) then bsI p (j-((i+j) / 2+1)) ((i+j) / 2+1) j else bsI p ((i+j) / 2-i) i ((i+j) / 2):=by
 obtain ⟨m,hm⟩:∃ m,j-i=m+1:=⟨j-i-1,by omega⟩
 rw [hm,bsI,if_pos h]
 split
 ·rw [qin p m _ _ (by omega)]
 ·rw [qin p m _ _ (by omega)]
theorem qjj (p:Nat→Bool):∀ (f i j:Nat),i≤j→i≤bsI p f i j∧bsI p f i j≤j
 | 0,i,j,h=>by rw [bsI];omega
 | f+1,i,j,h=>by
  rw [bsI]
  split
  ·split
   ·have:=qjj p f ((i+j) / 2+1) j (by omega);omega
   ·have:=qjj p f i ((i+j) / 2) (by omega);omega
  ·omega
def bsP (l:List Lb) (x:Lb) (h:Nat):Bool:=match l[h]? with | some y=>decide (qao y x<0) | none=>false
def qch (l:List Lb) (x:Lb):Nat:=bsI (bsP l x) l.length 0 l.length
def isAt (l:List Lb) (x:Lb) (h:Nat):Bool:=match l[h]? with | some y=>decide (qao y x=0) | none=>false
def qc4 (x:Lb) (l:List Lb):Bool:=isAt l x (qch l x)
theorem qgt {l:List Lb} {x:Lb} {h:Nat} (hh:h<l.length):bsP l x h=decide (qao l[h] x<0):=by simp [bsP,List.getElem?_eq_getElem hh]
theorem qn8 {l:List Lb} {x:Lb} {h:Nat} (hh:h<l.length):isAt l x h=decide (qao l[h] x=0):=by simp [isAt,List.getElem?_eq_getElem hh]
theorem qm7 {l:List Lb} {x:Lb} {h:Nat} (hh:¬ h<l.length):isAt l x h=false:=by simp [isAt,List.getElem?_eq_none (Nat.le_of_not_lt hh)]
theorem qol (S:Nat→Prop) (l:List Lb) (x:Lb) (v:Value) (cx:List Value) (w:World) (hl:qaa S w l [v]) (hx:RLb S w x cx) (hn:l.length≤4611686018427387903) :
  Calls Tryz.prog 213 #[v,.agg cx.toArray,.func (.func 166) #[] #[]] w fun e w'=>e = .returned (.tuple #[.int .i64 (qch l x:Nat),.bool (qc4 x l)])∧qaf w w':=by
 obtain ⟨A,c,rfl,hc,hc0⟩:=hl.val
 obtain ⟨_,vx,rfl,hvx⟩:=id hx
 have HL:=Hd hl
 have HX:=Hd hx
 clear hl hx hvx
 go_enter Tryz.func213,Tryz.ntmps213
 go_wp2_with fail
 go_loopw [9,10,11] (fun vi vj _ wr=>∃ i j:Nat,i≤j∧j≤l.length∧vi = .int .i64 i∧vj = .int .i64 j∧qaf w wr∧wr.cell? ⟨w.heap.size,0,none⟩=some (.int .i64 x.g)∧wr.cell? ⟨w.heap.size,1,none⟩=some vx∧Hid (qch l x=bsI (bsP l x) (j-i) i j)) (fun vi vj _ _=>((intOf vj)-(intOf vi)).toNat)
 case atStart=>exact ⟨0,l.length,Nat.zero_le _,Nat.le_refl _,rfl,rfl,qaj,by go_simp,by go_simp,rfl⟩
 case round =>
  obtain ⟨i,j,hij,hj,rfl,rfl,hE,q0,q1,hbs⟩:=hrel
  by_cases hlt:i<j
  ·have hst0:=qnc (bsP l x) i j hlt
   obtain ⟨h,hh⟩:∃ h,(i+j) / 2=h:=⟨_,rfl⟩
   have y1:((i:Int)+(j:Int)) / 2=(h:Int):=by omega
   have hm:h<l.length:=by omega
   have hm1:i≤h:=by omega
   have hm2:h<j:=by omega
   rw [hh] at hst0
   clear hh
   obtain ⟨b,off,cs,rfl,hb,hs,hl,hr,hcell⟩:=(qaa.good.ext HL.out hE).get (h) hm
   obtain ⟨_,v1,rfl,hv1⟩:=id hr
   have g0:=hcell.get 0 _
   have g1:=hcell.get 1 _
   simp only [Nat.add_zero] at g0
   have hcmp:=fun W (hW:qaf wr W)=>qho S _ _ _ _ W (RLb.good.ext hr hW) (RLb.good.ext HX.out (hE.trans hW))
   have z1:(0:Int)≤(h:Int):=by omega
   have z2:(h:Int)<(l.length:Int):=by omega
   have hst:=Hd hst0
   clear hst0
   clear hcell hl hs hv1 hr
   by_cases hc2:qao l[h] x<0
   ·have HC:=Hd (show bsP l x (h)=true from by rw [qgt hm];exact decide_eq_true hc2)
    go_wp2_with fail
    go_region_held3 (fun W=>W.cell? ⟨b,off+h*2,none⟩=some (.int .i64 l[h].g)∧W.cell? ⟨b,off+h*2+1,none⟩=some v1∧W.cell? ⟨w.heap.size,0,none⟩=some (.int .i64 x.g)∧W.cell? ⟨w.heap.size,1,none⟩=some vx)
     (first | (refine ⟨?_,?_,?_,?_⟩ <;> go_simp <;> done) | exact hx1.k4 (by assumption) | exact ((qaf.refl _).alloc _).k4 (by assumption))
     (first | (go_at_call 166;refine (hcmp _ qaj).mono ?_;rintro e w1 ⟨rfl,hx1⟩))
    clear y1
    go_wp2_with fail
    go_roundw
    case rel =>
     refine ⟨h+1,j,by omega,hj,by go_num,rfl,qaj,hx1.keep q0,hx1.keep q1,?_⟩
     rw [hbs.out,hst.out,if_pos HC.out]
     exact rfl
    case measure=>simp [intOf];omega
   ·have HC:=Hd (show bsP l x (h)=false from by rw [qgt hm];exact decide_eq_false hc2)
    have hd:0≤qao l[h] x:=by omega
    clear hc2
    go_wp2_with fail
    go_region_held3 (fun W=>W.cell? ⟨b,off+h*2,none⟩=some (.int .i64 l[h].g)∧W.cell? ⟨b,off+h*2+1,none⟩=some v1∧W.cell? ⟨w.heap.size,0,none⟩=some (.int .i64 x.g)∧W.cell? ⟨w.heap.size,1,none⟩=some vx)
     (first | (refine ⟨?_,?_,?_,?_⟩ <;> go_simp <;> done) | exact hx1.k4 (by assumption) | exact ((qaf.refl _).alloc _).k4 (by assumption))
     (first | (go_at_call 166;refine (hcmp _ qaj).mono ?_;rintro e w1 ⟨rfl,hx1⟩))
    clear y1
    go_wp2_with fail
    go_roundw
    case rel =>
     refine ⟨i,h,by omega,by omega,rfl,rfl,qaj,hx1.keep q0,hx1.keep q1,?_⟩
     rw [hbs.out,hst.out,if_neg (by rw [HC.out];decide)]
     exact rfl
    case measure=>simp [intOf];omega
  ·obtain rfl:i=j:=by omega
   have hi:qch l x=i:=by rw [hbs.out,show i-i=0 from by omega,bsI]
   by_cases hm:i<l.length
   ·have HV:=Hd (show qc4 x l=decide (qao l[i] x=0) from by rw [qc4,hi,qn8 hm])
    have HI:=Hd hi
    clear hi hlt
    obtain ⟨b,off,cs,rfl,hb,hs,hl,hr,hcell⟩:=(qaa.good.ext HL.out hE).get i hm
    obtain ⟨_,v1,rfl,hv1⟩:=id hr
    have g0:=hcell.get 0 _
    have g1:=hcell.get 1 _
    simp only [Nat.add_zero] at g0
    have hcmp:=fun W (hW:qaf wr W)=>qho S _ _ _ _ W (RLb.good.ext hr hW) (RLb.good.ext HX.out (hE.trans hW))
    have z1:(0:Int)≤(i:Int):=by omega
    have z2:(i:Int)<(l.length:Int):=by omega
    have z3:decide ((i:Int)<(l.length:Int))=true:=decide_eq_true z2
    clear hcell hl hs hv1 hr
    go_wp2_with fail
    go_region_held3 (fun W=>W.cell? ⟨b,off+i*2,none⟩=some (.int .i64 l[i].g)∧W.cell? ⟨b,off+i*2+1,none⟩=some v1∧W.cell? ⟨w.heap.size,0,none⟩=some (.int .i64 x.g)∧W.cell? ⟨w.heap.size,1,none⟩=some vx)
     (first | (refine ⟨?_,?_,?_,?_⟩ <;> go_simp <;> done) | exact hx1.k4 (by assumption) | exact ((qaf.refl _).alloc _).k4 (by assumption))
     (first | (go_at_call 166;refine (hcmp _ qaj).mono ?_;rintro e w1 ⟨rfl,hx1⟩))
    go_wp2_with fail
    go_ret2
    exact ⟨by rw [HV.out,HI.out];rfl,qaj⟩
   ·have HV:=Hd (show qc4 x l=false from by rw [qc4,hi,qm7 hm])
    have HI:=Hd hi
    have z3:decide ((i:Int)<(l.length:Int))=false:=decide_eq_false (by omega)
    clear hi hlt
    go_wp2_with fail
    go_quiet (fail)
    go_wp2_with fail
    go_ret2
    exact ⟨by rw [HV.out,HI.out];rfl,qaj⟩
theorem qsz (S:Nat→Prop) (l:List Lb) (x:Lb) (v:Value) (cx:List Value) (w:World) (hl:qaa S w l [v]) (hx:RLb S w x cx) (hn:l.length≤4611686018427387903) :
  Calls Tryz.prog 212 #[.agg cx.toArray,v] w fun e w'=>e = .returned (.bool (qc4 x l))∧qaf w w':=by
 have hcon:=fun W (hW:qaf w W)=>qol S l x v cx W (qaa.good.ext hl hW) (RLb.good.ext hx hW) hn
 obtain ⟨A,c,rfl,hc,hc0⟩:=hl.val
 obtain ⟨_,vx,rfl,hvx⟩:=id hx
 clear hl hx hvx
 go_enter Tryz.func212,Tryz.ntmps212
 go_wp2_with fail
 refine (hcon _ qaj).mono ?_
 rintro e w1 ⟨rfl,h1⟩
 go_wp2_with fail
 go_ret
 exact ⟨rfl,qaj⟩
def qd3 (a b:List Lb):Bool:=a.any fun x=>qc4 x b
theorem eg211:∀ args w,(callFunc 211 args).run Tryz.prog w = .ok (.enter 211 args) w:=enters_of Tryz.func211 (by kernel_rfl) rfl
theorem common1_c (S:Nat→Prop) (l:List Lb) (x:Lb) (v:Value) (B:Nat) (cx:List Value) (w:World) (hl:qaa S w l [v]) (hx:RLb S w x cx) (hn:l.length≤4611686018427387903) (hB:w.cell? ⟨B,0,none⟩=some v) :
  Calls Tryz.prog 211 #[.agg cx.toArray,.pointer (some ⟨B,0,none⟩)] w fun e w'=>e = .returned (.bool (qc4 x l))∧Ext w w':=by
 have hcon:=fun W (hW:qaf w W)=>qsz S l x v cx W (qaa.good.ext hl hW) (RLb.good.ext hx hW) hn
 obtain ⟨A,c,rfl,hc,hc0⟩:=hl.val
 obtain ⟨_,vx,rfl,hvx⟩:=id hx
 have hB0:=World.block_lt_of_cell? w _ hB
 clear hl hx hvx
 go_enter Tryz.func211,Tryz.ntmps211
 go_wp2_with fail
 refine (hcon _ qaj).mono ?_
 rintro e w1 ⟨rfl,h1⟩
 go_wp2_with fail
 go_ret
 exact ⟨rfl,bel⟩
theorem qmt (S:Nat→Prop) (a b:List Lb) (va vb:Value) (w:World) (ha:qaa S w a [va]) (hb:qaa S w b [vb]) (hn:b.length≤4611686018427387903) :
  Calls Tryz.prog 146 #[va,vb] w fun e w'=>e = .returned (.bool (qd3 a b))∧Ext w w':=by
 have hcon:=fun B W (hW:Ext w W) (hB:W.cell? ⟨B,0,none⟩=some vb)=>conPLb (fun x=>qc4 x b) S W a va (qaa.good.bel ha hW) 211 #[.pointer (some ⟨B,0,none⟩)] eg211
  (fun x hx cs W' hW' hr=>common1_c S b x vb B cs W' (qaa.good.bel hb (hW.trans' hW')) hr hn ((hW'.cell (World.block_lt_of_cell? W _ hB)).trans hB))
 obtain ⟨A,c,rfl,hc,hc0⟩:=ha.val
 obtain ⟨A',c',rfl,hc',hc0'⟩:=hb.val
 clear ha hb
 go_enter Tryz.func146,Tryz.ntmps146
 go_wp2_with fail
 refine (hcon _ _ bel (by go_simp)).mono ?_
 rintro e w1 ⟨rfl,h1⟩
 go_wp2_with fail
 go_ret
 exact ⟨rfl,bel⟩
end
end Go.Proofs.YtegenalcheooeaaGreat
