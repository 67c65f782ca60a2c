/- Of the proof of a law of the suites: Insert1, Insert, Added, Musts, Musts2. -/
import Derived.Test.YtegenalcheooeaaGreatB09
import Derived.Test.YtegenalcheooeaaGreatB10
import Derived.Test.YtegenalcheooeaaGreatB12
import Derived.Test.YtegenalcheooeaaGreatB13
import Derived.Test.YtegenalcheooeaaGreatB15
import Derived.Shelf.Spec.SlicesInsertGrow
set_option linter.unusedSectionVars false
set_option linter.unusedSimpArgs false
set_option linter.unusedVariables false
namespace Go.Proofs.YtegenalcheooeaaGreat
open Go.RowKit
attribute [local go_sem] cell?_exto
section

theorem qk7 {P:Program} (w:World) (dT sT ty elem:TypeId) (k:Nat) (b o dLen dCap:Nat) (a:Addr) (sLen sCap m:Nat) (cs:List Value)
  (hu:P.underlying dT=some (.slice elem)) (hs:(P.info? elem).map (·.size)=some k) (hm:Nat.min sLen dLen=m) (hn:cs.length=m*k)
  (hsrc:∀ j v,cs[j]? = some v->w.cell? (a.add j)=some v) (hc:∀ j,j<cs.length->(w.cell? ⟨b,o+j,none⟩).isSome=true) (hf:∀ j,j<cs.length->w.frozen? ⟨b,o+j,none⟩=false) (h1:∀ v∈cs,v.oneCell'=true) :
  (Builtin.copy_ #[dT,sT] ty #[.slice (some ⟨b,o,none⟩) dLen dCap,.slice (some a) sLen sCap]).run P w = .ok (goInt m) (w.setCells b o cs):=by
 have hl:=run_loadCells_list (P:=P) w a cs hsrc
 have hst:=run_storeCells_cells (P:=P) b o cs 0 w (by simpa using hc) (by simpa using hf) h1
 rw [hn] at hl
 cases hq:P.info? elem with
 | none=>simp [hq] at hs
 | some i =>
  have hi:i.size=k:=by simpa [hq] using hs
  simp [Builtin.copy_,run_underlying hu,Builtin.lenOf,Builtin.firstCells,sizeOf,typeInfo,hq,hi,hm,hl,hst]
def setL:List Value->Nat->List Value->List Value
 | xs,_,[]=>xs
 | xs,o,v :: vs=>setL (xs.set o v) (o+1) vs
theorem qnq:∀ (vs:List Value) (o:Nat) (xs:List Value),(setL xs o vs).length=xs.length
 | [],_,_=>rfl
 | v :: vs,o,xs=>by rw [setL,qnq,List.length_set]
theorem qjf:∀ (vs:List Value) (o:Nat) (xs:List Value) (j:Nat),o+vs.length<=xs.length->(setL xs o vs)[j]? = if o<=j∧j<o+vs.length then vs[j-o]? else xs[j]?
 | [],o,xs,j,_=>by rw [setL,if_neg (by simp only [List.length_nil];omega)]
 | v :: vs,o,xs,j,h=>by
  simp only [List.length_cons] at h
  rw [setL,qjf vs (o+1) _ j (by rw [List.length_set];omega)]
  by_cases e:j=o
  ·subst e
   rw [if_neg (by omega),if_pos (by simp),Nat.sub_self,List.getElem?_set_self (by omega)]
   rfl
  ·by_cases h1:o+1<=j∧j<o+1+vs.length
   ·rw [if_pos h1,if_pos (by simp only [List.length_cons];omega),show j-o=(j-(o+1))+1 from by omega]
    rfl
   ·rw [if_neg h1,if_neg (by simp only [List.length_cons];omega),List.getElem?_set_ne (Ne.symm e)]
theorem qi4 {base size n cap g:Nat} {e:TypeId}:∀ (vs:List Value) (o:Nat) (w:World) (xs:List Value),w.ownsRow base e size (.slice (some ⟨g,0,none⟩) n cap) n xs ->
  (w.setCells g o vs).ownsRow base e size (.slice (some ⟨g,0,none⟩) n cap) n (setL xs o vs)
 | [],o,w,xs,h=>h
 | v :: vs,o,w,xs,h=>qi4 vs (o+1) _ _ (h.stored o v).1
theorem qj4 {g:Nat}:∀ (vs:List Value) (o:Nat) (w:World),Bt (fun b=>b=g) w (w.setCells g o vs)
 | [],_,w=>Bt.refl _ _
 | v :: vs,o,w=>((Bt.refl (fun b=>b=g) w).set (p:=⟨g,o,none⟩) (.inr rfl) v).trans (qj4 vs (o+1) _)
theorem qtv {w:World} {base size n m cap g:Nat} {e:TypeId} {xs:List Value} (h:w.ownsRow base e size (.slice (some ⟨g,0,none⟩) n cap) n xs) (hm:n<=m) (hc:m<=cap) :
  ∃ ys,ys.length=(m-n)*size∧w.ownsRow base e size (.slice (some ⟨g,0,none⟩) m cap) m (xs++ys):=by
 have hmn:n*size<=m*size:=Nat.mul_le_mul_right _ hm
 have hmc:m*size<=cap*size:=Nat.mul_le_mul_right _ hc
 have hsub:(m-n)*size=m*size-n*size:=Nat.sub_mul _ _ _
 rcases h.2 with ⟨h',_⟩ | ⟨g',cap',cur,h',hb,hg,hnc,hcm,hcs,htake⟩
 ·simp at h'
 ·simp only [Value.slice.injEq,Option.some.injEq,Addr.mk.injEq,and_true,true_and] at h'
  obtain ⟨rfl,rfl⟩:=h'
  refine ⟨(cur.toList.take (m*size)).drop (n*size),?_,?_,.inr ⟨g,cap,cur,rfl,hb,hg,hc,hcm,hcs,?_⟩⟩
  ·rw [List.length_drop,List.length_take,Array.length_toList,hcs,Nat.min_eq_left hmc];omega
  ·rw [List.length_append,h.1,List.length_drop,List.length_take,Array.length_toList,hcs,Nat.min_eq_left hmc];omega
  ·rw [<- htake]
   have:=List.take_append_drop (n*size) (cur.toList.take (m*size))
   rw [List.take_take,Nat.min_eq_left hmn] at this
   exact this.symm
theorem ins_shift (xs ys vs:List Value) (p q:Nat) (hp:p<=xs.length) (hv:vs.length=q) (hy:ys.length=q):setL (setL (xs++ys) (p+q) (xs.drop p)) p vs=xs.take p++vs++xs.drop p:=by
 apply List.ext_getElem?
 intro j
 rw [qjf _ _ _ _ (by rw [qnq,List.length_append];omega),qjf _ _ _ _ (by rw [List.length_append,List.length_drop];omega)]
 simp only [List.length_drop]
 by_cases h1:p<=j∧j<p+vs.length
 ·rw [if_pos h1,List.append_assoc,List.getElem?_append_right (by rw [List.length_take];omega),List.length_take,Nat.min_eq_left hp,List.getElem?_append_left (by omega)]
 ·rw [if_neg h1]
  by_cases h2:j<p
  ·rw [if_neg (by omega),List.getElem?_append_left (by omega),List.append_assoc,List.getElem?_append_left (by rw [List.length_take];omega),List.getElem?_take,if_pos h2]
  ·by_cases h3:j<p+q+(xs.length-p)
   ·rw [if_pos (by omega),List.getElem?_append_right (by rw [List.length_append,List.length_take];omega),List.length_append,List.length_take,Nat.min_eq_left hp,hv]
   ·rw [if_neg (by omega),List.getElem?_eq_none (by rw [List.length_append];omega),List.getElem?_eq_none (by simp only [List.length_append,List.length_take,List.length_drop];omega)]
theorem ins_grow (xs zs vs:List Value) (p q:Nat) (hp:p<=xs.length) (hv:vs.length=q) (hz:zs.length=q+(xs.length-p)):setL (setL (xs.take p++zs) p vs) (p+q) (xs.drop p)=xs.take p++vs++xs.drop p:=by
 apply List.ext_getElem?
 intro j
 have hl:(xs.take p++zs).length=xs.length+q:=by rw [List.length_append,List.length_take];omega
 rw [qjf _ _ _ _ (by rw [qnq,hl,List.length_drop];omega),qjf _ _ _ _ (by rw [hl];omega)]
 simp only [List.length_drop]
 by_cases h1:p+q<=j∧j<p+q+(xs.length-p)
 ·rw [if_pos h1,List.getElem?_append_right (by rw [List.length_append,List.length_take];omega),List.length_append,List.length_take,Nat.min_eq_left hp,hv]
 ·rw [if_neg h1]
  by_cases h2:p<=j∧j<p+vs.length
  ·rw [if_pos h2,List.append_assoc,List.getElem?_append_right (by rw [List.length_take];omega),List.length_take,Nat.min_eq_left hp,List.getElem?_append_left (by omega)]
  ·rw [if_neg h2]
   by_cases h3:j<p
   ·rw [List.getElem?_append_left (by rw [List.length_take];omega),List.append_assoc,List.getElem?_append_left (by rw [List.length_take];omega)]
   ·rw [List.getElem?_eq_none (by rw [hl];omega),List.getElem?_eq_none (by simp only [List.length_append,List.length_take,List.length_drop];omega)]
theorem Flat.drop {α:Type} {R:Rdr α} {k:Nat} {S:Nat->Prop} {w:World}:∀ {xs:List α} {cs:List Value} (m:Nat),Flat R k S w xs cs->Flat R k S w (xs.drop m) (cs.drop (m*k))
 | xs,cs,0,h=>by simpa using h
 | [],cs,m+1,h=>by rw [show cs=[] from h];simp [Flat]
 | x :: xs,cs,m+1,⟨c1,c2,h1,h2,h3,h4⟩=>by
  have:=Flat.drop m h4
  rw [List.drop_succ_cons,h1,List.drop_append,List.drop_of_length_le (l:=c1) (by rw [h2,Nat.add_mul];omega),List.nil_append]
  rwa [show (m+1)*k-c1.length=m*k from by rw [h2,Nat.add_mul];omega]
end
section
set_option maxHeartbeats 1000000
set_option maxRecDepth 100000
/- slices.Insert at labels: walked. -/
open Go.Shelf
def qjy (base:Nat) (T:Nat->Prop) (r:List Lb) (v:Value) (w:World) (e:Ending) (w':World):Prop :=
 ∃ A c,e = .returned (.slice A r.length c)∧qab RLb 2 61 base T w' r (.slice A r.length c)∧Bt (fun b=>v.ownBlock=some b) w w'
theorem qud (base:Nat) (T:Nat->Prop) (l:List Lb) (x:Lb) (v vx:Value) (vb:Nat) (w:World) (hown:qab RLb 2 61 base T w l v) (hT:∀ b,T b->b<base) (hbase:base<=w.heap.size)
  (hvb:w.heap[vb]? = some (.cells #[.int .i64 x.g,vx] 61 (0,0))) (hx:RLb T w x [.int .i64 x.g,vx]) (hlen:l.length<=1000000) :
  Calls Tryz.prog 214 #[v,.int .i64 (l.length:Int),.slice (some ⟨vb,0,none⟩) 1 1] w (qjy base T (l++[x]) v w):=by
 obtain ⟨A,c,rfl,hc,hc0⟩:=(hown.sl RLb.good (by decide)).val
 obtain ⟨i3,hi3,hzz⟩:=Option.map_eq_some_iff.1 qhm
 simp only [Prod.mk.injEq] at hzz
 obtain ⟨hz0,hz1,hz2⟩:=hzz
 have hcc:∀ j u,[Value.int .i64 x.g,vx][j]? = some u->w.cell? ((⟨vb,0,none⟩:Addr).add j)=some u:=fun j u h=>by
  rw [Addr.add_lit,Nat.zero_add]
  exact (cell_of_row _ _ j _ _ _ hvb).trans (by simpa using h)
 have h1c:=RLb.good.one hx
 have hne:∀ q,T q->(Value.slice A l.length c).ownBlock≠some q:=fun q hq e=>by
  obtain ⟨news,h1,_⟩:=hown
  have:=(qb1 h1 q e).1
  have:=hT q hq
  omega
 have hG:Flat RLb 2 (fun b=>T b∧(Value.slice A l.length c).ownBlock≠some b) w [x] [.int .i64 x.g,vx]:=Flat.single (RLb.good.mono hx fun q _ hq=>⟨hq,hne q hq⟩) rfl
 obtain ⟨news,hrow,hF⟩:=hown
 have HF:=Hd hF
 have HG:=Hd hG
 clear hF hG hx hne hvb
 by_cases hcl:c=l.length
 ·subst hcl
  go_enter Tryz.func214,Tryz.ntmps214
  go_wp2_with (at_builtin;refine wpList_append_own_at _ rfl _ _ 22 rfl base 61 i3 _ 2 32 Tryz.underlying22 hi3 hz0 hz1 hz2 rfl (by decide) _ _ _ rfl hrow ⟨vb,0,none⟩ 1 1 [.int .i64 x.g,vx] rfl rfl hcc h1c (by unfold maxLen;omega) (by omega) hbase ?_)
  intro v' w1 hown hg hnil hat
  obtain ⟨g5,c5,rfl⟩:=ownsRow_succ hown
  go_wp2
  go_ret
  refine ⟨some ⟨g5,0,none⟩,c5,by rw [List.length_append];rfl,?_,(Bt.of_grown hg).mono fun k _ h=>h.symm⟩
  rw [List.length_append]
  exact qab.push RLb.good HF.out HG.out hown hg hat
 ·skip
  go_enter Tryz.func214,Tryz.ntmps214
  go_wp2_with (at_builtin;refine wpList_append_own_at _ rfl _ _ 22 rfl base 61 i3 _ 2 32 Tryz.underlying22 hi3 hz0 hz1 hz2 rfl (by decide) _ _ _ rfl hrow ⟨vb,0,none⟩ 1 1 [.int .i64 x.g,vx] rfl rfl hcc h1c (by unfold maxLen;omega) (by omega) hbase ?_)
  intro v' w1 hown hg hnil hat
  obtain ⟨g5,c5,rfl⟩:=ownsRow_succ hown
  go_wp2
  go_ret
  refine ⟨some ⟨g5,0,none⟩,c5,by rw [List.length_append];rfl,?_,(Bt.of_grown hg).mono fun k _ h=>h.symm⟩
  rw [List.length_append]
  exact qab.push RLb.good HF.out HG.out hown hg hat
theorem qt2 (base:Nat) (T:Nat->Prop) (l:List Lb) (x:Lb) (v vx:Value) (vb i:Nat) (w:World) (hown:qab RLb 2 61 base T w l v) (hT:∀ b,T b->b<base) (hbase:base<=w.heap.size)
  (hvb:w.heap[vb]? = some (.cells #[.int .i64 x.g,vx] 61 (0,0))) (hvo:v.ownBlock≠some vb) (hx:RLb T w x [.int .i64 x.g,vx]) (hlen:l.length<=1000000) (hi:i<l.length) :
  Calls Tryz.prog 214 #[v,.int .i64 (i:Int),.slice (some ⟨vb,0,none⟩) 1 1] w (qjy base T (l.take i++[x]++l.drop i) v w):=by
 obtain ⟨g,c,rfl⟩:∃ g cap,v = .slice (some ⟨g,0,none⟩) l.length cap:=by
  obtain ⟨news,h1,_⟩:=hown
  exact Joins.ownsRow_form h1 (by omega)
 obtain ⟨news,hrow,hF⟩:=hown
 have hgb:=(qb1 hrow g rfl).1
 have hgl:=(qb1 hrow g rfl).2
 have hvl:vb<w.heap.size:=(Array.getElem?_eq_some_iff.1 hvb).1
 have hvg:vb≠g:=fun e=>hvo (by rw [e];rfl)
 obtain ⟨cur,hcur,hcs,hcc,hcm⟩:∃ cur:Array Value,w.heap[g]? = some (.cells cur 61 (0,0))∧cur.size=c*2∧l.length<=c∧c<=maxLen:=by
  rcases hrow.2 with ⟨h',_⟩ | ⟨g',cap',cur,h',hb,hg,hnc,hcm,hcs,htake⟩
  ·simp at h'
  ·simp only [Value.slice.injEq,Option.some.injEq,Addr.mk.injEq,and_true,true_and] at h'
   obtain ⟨rfl,rfl⟩:=h'
   exact ⟨cur,hg,hcs,hnc,hcm⟩
 have hov:∀ o lb cb,(callFunc 259 #[.slice (some ⟨vb,0,none⟩) 1 1,.slice (some ⟨g,o,none⟩) lb cb]).run Tryz.prog w = .ok (.value (.bool false)) w:=fun o lb cb=>by
  rw [run_callFunc_extern Tryz.func259 (by kernel_rfl) (by kernel_rfl) (by kernel_rfl) (e:=Extern.SlicesOverlaps.overlaps #[22,22] #[4]) (by kernel_rfl),
   Lib.run_overlaps_apart w 22 4 61 Tryz.underlying22 2 (fun _=>by kernel_rfl) ⟨vb,0,none⟩ ⟨g,o,none⟩ 1 1 lb cb hvg 61 61 2 (c*2) (by simp [World.shape?,hvb]) (by simp [World.shape?,hcur,hcs]) (by omega) (frozen_of_row w vb 0 _ _ hvb) (frozen_of_row w vb 2 _ _ hvb)]
  rfl
 have hx2:RLb (fun b=>T b∧b≠g) w x [.int .i64 x.g,vx]:=RLb.good.mono hx fun q _ hq=>⟨hq,fun e=>by have:=hT q hq;omega⟩
 have hz2:¬ ((i:Int)=(l.length:Int)):=by omega
 by_cases hroom:l.length+1<=c
 ·have hz3:¬ ((c:Int)<(l.length:Int)+1):=by omega
  have mixed:Tryz.prog.follows .mixedOrders=true:=by kernel_rfl
  have hb1:(0:Int)<=(i:Int)+1:=by omega
  have htn:((i:Int)+1).toNat=i+1:=by omega
  have hw1:IntKind.i64.wrap ((i:Int)+1)=(i:Int)+1:=by rw [IntKind.wrap_i64];omega
  have hb2:¬ (c=i+1):=by omega
  have hb3:(i:Int)<=(l.length:Int)+1:=by omega
  have hb4:¬ (c=i):=by omega
  have hin:i<=l.length:=by omega
  have hnl:news.length=l.length*2:=hF.len
  have hdl:(news.drop (i*2)).length=(l.length-i)*2:=by rw [List.length_drop,hnl,Nat.sub_mul]
  have hsz:(Tryz.prog.info? 61).map (·.size)=some 2:=by kernel_rfl
  have h1n:=hF.one RLb.good
  have hsp:∀ q,q<(l.length+1)*2->(w.cell? ⟨g,q,none⟩).isSome=true:=fun q hq=>by
   rw [cell_of_row w g q _ _ _ hcur,Array.getElem?_eq_getElem (by omega)]
   rfl
  have hcp1:∀ ty dl dc sl sc,Nat.min sl dl=l.length-i->(Builtin.copy_ #[22,22] ty #[.slice (some ⟨g,(i+1)*2,none⟩) dl dc,.slice (some ⟨g,i*2,none⟩) sl sc]).run Tryz.prog w.drew = .ok (goInt (l.length-i:Nat)) (w.drew.setCells g ((i+1)*2) (news.drop (i*2))):=fun ty dl dc sl sc hm =>
   qk7 w.drew _ _ ty 61 2 g _ dl dc ⟨g,i*2,none⟩ sl sc (l.length-i) (news.drop (i*2)) Tryz.underlying22 hsz hm hdl
    (fun j u hj=>by
     rw [List.getElem?_drop] at hj
     have hjl:=(List.getElem?_eq_some_iff.1 hj).1
     rw [Addr.add_lit]
     exact (hrow.cellAt (i*2+j) (by omega)).trans hj)
    (fun j hj=>hsp _ (by omega)) (fun j hj=>hrow.frozenAt _) (fun u hu=>h1n u (List.mem_of_mem_drop hu))
  have hcp2:∀ W,(∀ a,W.cell? a=(w.drew.setCells g ((i+1)*2) (news.drop (i*2))).cell? a)->(∀ a,W.frozen? a=(w.drew.setCells g ((i+1)*2) (news.drop (i*2))).frozen? a)->∀ ty dl dc,Nat.min 1 dl=1->(Builtin.copy_ #[22,22] ty #[.slice (some ⟨g,i*2,none⟩) dl dc,.slice (some ⟨vb,0,none⟩) 1 1]).run Tryz.prog W = .ok (goInt (1:Nat)) (W.setCells g (i*2) [.int .i64 x.g,vx]):=fun W h1 h2 ty dl dc hm =>
   qk7 W _ _ ty 61 2 g _ dl dc ⟨vb,0,none⟩ 1 1 1 [.int .i64 x.g,vx] Tryz.underlying22 hsz hm rfl
    (fun j u hj=>by
     rw [Addr.add_lit,Nat.zero_add,h1,World.cell?_setCells_out g _ _ _ _ (fun h _=>absurd h hvg)]
     exact (cell_of_row _ _ j _ _ _ hvb).trans (by simpa using hj))
    (fun j hj=>by
     rw [h1]
     exact World.isSome_setCells g _ _ _ _ (hsp _ (by simp at hj;omega)))
    (fun j hj=>by rw [h2,World.frozen?_setCells];exact hrow.frozenAt _) (RLb.good.one hx)
  obtain ⟨ys,hys,hlong⟩:=qtv hrow (Nat.le_add_right _ 1) hroom
  have hfin:=qi4 [.int .i64 x.g,vx] (i*2) _ _ (qi4 (news.drop (i*2)) ((i+1)*2) _ _ (World.ownsRow.drew hlong))
  rw [show (i+1)*2=i*2+2 from by omega,ins_shift news ys [.int .i64 x.g,vx] (i*2) 2 (by omega) rfl (by rw [hys,Nat.add_sub_cancel_left]),<- show (i+1)*2=i*2+2 from by omega] at hfin
  have hmin:Nat.min (l.length+1-i) (l.length-i)=l.length-i:=Nat.min_eq_right (by omega)
  have hmin2:Nat.min 1 (l.length+1-i)=1:=Nat.min_eq_left (by omega)
  go_enter Tryz.func214,Tryz.ntmps214
  go_wp2_with (simp only [hov])
  go_region_law_o (refine step_copy_runI rfl _ _ 22 22 rfl (.slice (some ⟨g,(i+1)*2,none⟩) (l.length-i) (c-(i+1))) (.slice (some ⟨g,i*2,none⟩) (l.length+1-i) (c-i)) (by simp [Act.eval,Act.put]) (by simp [Act.eval,Act.put]) (hcp1 _ _ _ _ _ hmin) ?_)
  go_wp2_with (at_builtin;refine wpList_copy_runI _ rfl _ _ 22 22 rfl _ _ rfl rfl (hcp2 _ (fun _=>rfl) (fun _=>rfl) _ _ _ hmin2) ?_)
  go_ret
  have hrl:(l.take i++[x]++l.drop i).length=l.length+1:=by simp only [List.length_append,List.length_take,List.length_drop,List.length_cons,List.length_nil];omega
  have hbt:Bt (fun b=>b=g) w ((w.drew.setCells g ((i+1)*2) (news.drop (i*2))).setCells g (i*2) [.int .i64 x.g,vx]):=((Bt.refl (fun b=>b=g) w).drew.trans (qj4 _ _ _)).trans (qj4 _ _ _)
  refine ⟨some ⟨g,0,none⟩,c,by rw [hrl];rfl,⟨news.take (i*2)++[.int .i64 x.g,vx]++news.drop (i*2),by rw [hrl];exact hfin,?_⟩,hbt.mono fun b _ h=>by rw [h];rfl⟩
  rw [qex]
  rw [qex] at hF
  exact (((hF.take i).append (Flat.single hx2 rfl)).append (hF.drop i)).imp fun y _ cs hy=>RLb.good.move hy (hbt.kp fun b _ hb=>hb.2)
 ·have hcl:c=l.length:=by omega
  subst hcl
  have hnl:news.length=l.length*2:=hF.len
  obtain ⟨i3,hi3,hzz⟩:=Option.map_eq_some_iff.1 qhm
  simp only [Prod.mk.injEq] at hzz
  obtain ⟨hz0,hzs,hzb⟩:=hzz
  have mixed:Tryz.prog.follows .mixedOrders=true:=by kernel_rfl
  have hw1:IntKind.i64.wrap ((i:Int)+1)=(i:Int)+1:=by rw [IntKind.wrap_i64];omega
  have hb1:(0:Int)<=(i:Int)+1:=by omega
  have htn:((i:Int)+1).toNat=i+1:=by omega
  have hin:i<=l.length:=by omega
  have hin2:(i:Int)<=(l.length:Int):=by omega
  have hci:¬ (l.length=i):=by omega
  have hold:(Builtin.firstCells i3.size i (.slice (some ⟨g,0,none⟩) i l.length)).run Tryz.prog w.drew = .ok (news.take (i*2)).toArray w.drew:=by
   rw [hzs]
   exact run_firstCells_some w.drew 2 i ⟨g,0,none⟩ i l.length (news.take (i*2)) (by rw [List.length_take];omega) (fun j u hj=>by
    rw [Addr.add_lit,Nat.zero_add]
    have hjl:=(List.getElem?_eq_some_iff.1 hj).1
    rw [List.length_take] at hjl
    rw [List.getElem?_take,if_pos (by omega)] at hj
    exact (hrow.cellAt j (by omega)).trans hj)
  have hkk:(l.length:Int)+1-(i:Int)=((l.length+1-i:Nat):Int):=by omega
  have hik:i+(l.length+1-i)=l.length+1:=by omega
  have hrz:∀ ty,(Builtin.append_ #[22,3] ty #[.slice (some ⟨g,0,none⟩) i l.length,.int .i64 ((l.length:Int)+1-(i:Int))]).run Tryz.prog w =
    .ok (.slice (some ⟨w.heap.size,0,none⟩) (l.length+1) (grownCap w (l.length+1) l.length 61)) (w.drew.alloc (.cells ((news.take (i*2)).toArray++Builtin.zeroCells (Value.agg #[.int .i64 0,.slice none 0 0]).cells (l.length+1-i)++Builtin.zeroCells (Value.agg #[.int .i64 0,.slice none 0 0]).cells (grownCap w (l.length+1) l.length 61-(l.length+1))) 61)):=fun ty=>by
   have h:=Lib.run_append_grow_zeros w 22 3 ty 61 i3 _ .i64 .i64 Tryz.underlying22 Tryz.underlying3 hi3 hz0 (some ⟨g,0,none⟩) i l.length (news.take (i*2)) hold (l.length+1-i) (by omega) (by omega) (by omega) (by omega) (by rw [hzb];omega) (by rw [hzb,hik];exact growslice_fits (by omega) (by omega))
   rw [hik] at h
   rw [hkk]
   exact h
  obtain ⟨G,hG⟩:∃ G,G=grownCap w (l.length+1) l.length 61:=⟨_,rfl⟩
  have hGn:l.length+1<=G:=by rw [hG];exact grownCap_ge w _ _ _
  have hGm:G<=maxLen:=by rw [hG];exact grownCap_le_maxLen w _ _ _ (by unfold maxLen;omega)
  obtain ⟨zs,hzs1,hzs2⟩:∃ zs:List Value,zs=(Builtin.zeroCells (Value.agg #[.int .i64 0,.slice none 0 0]).cells (l.length+1-i)).toList∧zs.length=(l.length+1-i)*2:=⟨_,rfl,by simp [Builtin.zeroCells,Value.cells,Nat.mul_comm]⟩
  obtain ⟨ROW,hROW⟩:∃ ROW:Array Value,ROW=(news.take (i*2)).toArray++Builtin.zeroCells (Value.agg #[.int .i64 0,.slice none 0 0]).cells (l.length+1-i)++Builtin.zeroCells (Value.agg #[.int .i64 0,.slice none 0 0]).cells (G-(l.length+1)):=⟨_,rfl⟩
  rw [<- hG,<- hROW] at hrz
  have hRs:ROW.size=G*2:=by
   rw [hROW]
   simp [Builtin.zeroCells,Value.cells,hnl]
   omega
  have hRt:ROW.toList.take ((l.length+1)*2)=news.take (i*2)++zs:=by
   rw [hROW,hzs1]
   simp only [Array.toList_append]
   exact List.take_left' (by rw [<- hzs1,List.length_append,hzs2,List.length_take];omega)
  have hown2:(w.alloc (.cells ROW 61)).ownsRow base 61 2 (.slice (some ⟨w.heap.size,0,none⟩) (l.length+1) G) (l.length+1) (news.take (i*2)++zs) :=
   ⟨by rw [List.length_append,hzs2,List.length_take];omega,.inr ⟨w.heap.size,G,ROW,rfl,hbase,World.alloc_heap_new w _,hGn,hGm,hRs,hRt⟩⟩
  have hfin:=qi4 (news.drop (i*2)) ((i+1)*2) _ _ (World.ownsRow.drew (qi4 [.int .i64 x.g,vx] (i*2) _ _ (World.ownsRow.drew hown2)))
  rw [show (i+1)*2=i*2+2 from by omega,ins_grow news zs [.int .i64 x.g,vx] (i*2) 2 (by omega) rfl (by rw [hzs2];omega),<- show (i+1)*2=i*2+2 from by omega] at hfin
  have h1n:=hF.one RLb.good
  have hsz:(Tryz.prog.info? 61).map (·.size)=some 2:=by kernel_rfl
  have hdl:(news.drop (i*2)).length=(l.length-i)*2:=by rw [List.length_drop,hnl,Nat.sub_mul]
  have hN:∀ q,q<(l.length+1)*2->((w.drew.alloc (.cells ROW 61)).cell? ⟨w.heap.size,q,none⟩).isSome=true:=fun q hq=>by
   rw [World.cell?_alloc_at (w:=w.drew) ROW _ w.heap.size q rfl,Array.getElem?_eq_getElem (by omega)];rfl
  have hNf:∀ q,(w.drew.alloc (.cells ROW 61)).frozen? ⟨w.heap.size,q,none⟩=false:=fun q=>World.frozen?_alloc_at (w:=w.drew) ROW _ w.heap.size q rfl
  have hcpA:∀ W:World,(∀ a,W.cell? a=(w.drew.alloc (.cells ROW 61)).cell? a)->(∀ a,W.frozen? a=(w.drew.alloc (.cells ROW 61)).frozen? a)->∀ ty dc,(Builtin.copy_ #[22,22] ty #[.slice (some ⟨w.heap.size,i*2,none⟩) (l.length+1-i) dc,.slice (some ⟨vb,0,none⟩) 1 1]).run Tryz.prog W = .ok (goInt (1:Nat)) (W.setCells w.heap.size (i*2) [.int .i64 x.g,vx]):=fun W h1 h2 ty dc =>
   qk7 W _ _ ty 61 2 w.heap.size _ _ dc ⟨vb,0,none⟩ 1 1 1 [.int .i64 x.g,vx] Tryz.underlying22 hsz (Nat.min_eq_left (by omega)) rfl
    (fun j u hj=>by
     rw [Addr.add_lit,Nat.zero_add,h1,World.cell?_alloc_past (w:=w.drew) _ vb j hvl]
     exact (cell_of_row w _ j _ _ _ hvb).trans (by simpa using hj))
    (fun j hj=>by rw [h1];exact hN _ (by simp at hj;omega)) (fun j hj=>by rw [h2];exact hNf _) (RLb.good.one hx)
  have hcpB:∀ W:World,(∀ a,W.cell? a=((w.drew.alloc (.cells ROW 61)).setCells w.heap.size (i*2) [.int .i64 x.g,vx]).cell? a)->(∀ a,W.frozen? a=((w.drew.alloc (.cells ROW 61)).setCells w.heap.size (i*2) [.int .i64 x.g,vx]).frozen? a)->∀ ty dc sc,(Builtin.copy_ #[22,22] ty #[.slice (some ⟨w.heap.size,(i+1)*2,none⟩) (l.length-i) dc,.slice (some ⟨g,i*2,none⟩) (l.length-i) sc]).run Tryz.prog W = .ok (goInt (l.length-i:Nat)) (W.setCells w.heap.size ((i+1)*2) (news.drop (i*2))):=fun W h1 h2 ty dc sc =>
   qk7 W _ _ ty 61 2 w.heap.size _ _ dc ⟨g,i*2,none⟩ _ sc (l.length-i) (news.drop (i*2)) Tryz.underlying22 hsz (Nat.min_self _) hdl
    (fun j u hj=>by
     rw [List.getElem?_drop] at hj
     have hjl:=(List.getElem?_eq_some_iff.1 hj).1
     rw [Addr.add_lit,h1,World.cell?_setCells_out _ _ _ _ _ (fun h _=>absurd h (Nat.ne_of_lt hgl)),World.cell?_alloc_past (w:=w.drew) _ g _ hgl]
     exact (hrow.cellAt (i*2+j) (by omega)).trans hj)
    (fun j hj=>by rw [h1];exact World.isSome_setCells _ _ _ _ _ (hN _ (by omega))) (fun j hj=>by rw [h2,World.frozen?_setCells];exact hNf _) (fun u hu=>h1n u (List.mem_of_mem_drop hu))
  have hE1:∀ a,((w.alloc (.cells ROW 61)).drew).cell? a=(w.drew.alloc (.cells ROW 61)).cell? a:=fun _=>rfl
  have hE2:∀ a,((w.alloc (.cells ROW 61)).drew).frozen? a=(w.drew.alloc (.cells ROW 61)).frozen? a:=fun _=>rfl
  have hF1:∀ a,(((w.alloc (.cells ROW 61)).drew.setCells w.heap.size (i*2) [.int .i64 x.g,vx]).drew).cell? a=((w.drew.alloc (.cells ROW 61)).setCells w.heap.size (i*2) [.int .i64 x.g,vx]).cell? a:=fun _=>rfl
  have hF2:∀ a,(((w.alloc (.cells ROW 61)).drew.setCells w.heap.size (i*2) [.int .i64 x.g,vx]).drew).frozen? a=((w.drew.alloc (.cells ROW 61)).setCells w.heap.size (i*2) [.int .i64 x.g,vx]).frozen? a:=fun _=>rfl
  have hGi:¬ (G=i):=by omega
  have hGi1:¬ (G=i+1):=by omega
  have HFIN:=Hd hfin
  have HFL:=Hd hF
  have hrl:(l.take i++[x]++l.drop i).length=l.length+1:=by simp only [List.length_append,List.length_take,List.length_drop,List.length_cons,List.length_nil];omega
  have HRL:=Hd hrl
  have HX2:=Hd hx2
  clear hG hkk hik hold hROW hRs hRt hown2 hfin hF hrl hx2 hN hNf hdl h1n hzs1 hzs2
  go_enter Tryz.func214,Tryz.ntmps214
  go_wp2_with (first
   | (at_builtin;refine Lib.wpList_append_run _ rfl _ _ _ _ rfl _ _ rfl rfl _ _ (hrz _) ?_)
   | (at_builtin;refine wpList_copy_runI _ rfl _ _ 22 22 rfl _ _ rfl rfl (hcpA _ hE1 hE2 _ _) ?_))
  go_region_law_o (refine step_copy_runI rfl _ _ 22 22 rfl (.slice (some ⟨w.heap.size,(i+1)*2,none⟩) (l.length-i) (G-(i+1))) (.slice (some ⟨g,i*2,none⟩) (l.length-i) (l.length-i)) (by simp [Act.eval,Act.put]) (by simp [Act.eval,Act.put]) (hcpB _ hF1 hF2 3 (G-(i+1)) (l.length-i)) ?_)
  go_wp2
  go_ret
  have hX:Ext w ((((w.alloc (.cells ROW 61)).drew.setCells w.heap.size (i*2) [.int .i64 x.g,vx]).drew).setCells w.heap.size ((i+1)*2) (news.drop (i*2))) :=
   Bt.new (Z:=fun b=>b=w.heap.size) ((Ext.refl w).alloc (.cells ROW 61)).drew ((qj4 _ _ _).trans (((Bt.refl (fun b=>b=w.heap.size) _).drew).trans (qj4 _ _ _))) fun q _ hq=>Nat.le_of_eq hq.symm
  refine ⟨some ⟨w.heap.size,0,none⟩,G,by rw [HRL.out];rfl,⟨news.take (i*2)++[.int .i64 x.g,vx]++news.drop (i*2),by rw [HRL.out];exact HFIN.out,?_⟩,hX.bt⟩
  rw [qex]
  have hF:=HFL.out
  rw [qex] at hF
  exact (((hF.take i).append (Flat.single HX2.out rfl)).append (hF.drop i)).imp fun y _ cs hy=>RLb.good.bel (RLb.good.mono hy fun b hb h=>⟨h.1,by omega⟩) hX
end
section
open Go.Shelf
theorem qsu (base:Nat) (T:Nat->Prop) (l:List Lb) (x:Lb) (v vx:Value) (vb i:Nat) (w:World) (hown:qab RLb 2 61 base T w l v) (hT:∀ b,T b->b<base) (hbase:base<=w.heap.size)
  (hvb:w.heap[vb]? = some (.cells #[.int .i64 x.g,vx] 61 (0,0))) (hvo:v.ownBlock≠some vb) (hx:RLb T w x [.int .i64 x.g,vx]) (hlen:l.length<=1000000) (hi:i<=l.length) :
  Calls Tryz.prog 214 #[v,.int .i64 (i:Int),.slice (some ⟨vb,0,none⟩) 1 1] w (qjy base T (l.take i++[x]++l.drop i) v w):=by
 by_cases h:i<l.length
 ·exact qt2 base T l x v vx vb i w hown hT hbase hvb hvo hx hlen h
 ·obtain rfl:i=l.length:=by omega
  rw [List.take_length,List.drop_length,List.append_nil]
  exact qud base T l x v vx vb w hown hT hbase hvb hx hlen
def qck (l:List Lb) (x:Lb):List Lb:=l.take (qcg l x)++[x]++l.drop (qcg l x)
theorem bsLb_le (l:List Lb) (x:Lb):qcg l x<=l.length:=(qka _ _ 0 l.length (Nat.zero_le _)).2
set_option maxHeartbeats 1000000 in
set_option maxRecDepth 100000 in
theorem added_c (S:Nat->Prop) (l:List Lb) (x:Lb) (v vx:Value) (w:World) (hl:qaa S w l [v]) (hx:RLb S w x [.int .i64 x.g,vx]) (hlen:l.length<=1000000) :
  Calls Tryz.prog 147 #[v,.agg #[.int .i64 x.g,vx]] w fun e w'=>∃ A c,e = .returned (.slice A (qck l x).length c)∧qab RLb 2 61 w.heap.size (fun q=>S q∧q<w.heap.size) w' (qck l x) (.slice A (qck l x).length c)∧Ext w w':=by
 obtain ⟨T,hT⟩:∃ T:Nat->Prop,T=fun q=>S q∧q<w.heap.size:=⟨_,rfl⟩
 have hl':qaa T w l [v]:=by rw [hT];exact qaa.good.mono hl fun b h1 h2=>⟨h2,h1⟩
 have hx':RLb T w x [.int .i64 x.g,vx]:=by rw [hT];exact RLb.good.mono hx fun b h1 h2=>⟨h2,h1⟩
 have hT':∀ b,T b->b<w.heap.size+1:=fun b hb=>by rw [hT] at hb;have:=hb.2;omega
 rw [<- hT]
 have hbs:=fun W (hW:qad w W)=>qnj T l x v _ W (qaa.good.ext hl' hW) (RLb.good.ext hx' hW) (by omega)
 obtain ⟨A,c,rfl,_,_⟩:=hl.val
 obtain ⟨_,vx',hvx',hvx⟩:=id hx
 simp only [List.cons.injEq,true_and,and_true] at hvx'
 obtain rfl:=hvx'
 obtain ⟨Ax,cx,rfl,_,_⟩:=hvx.val
 have HL:=Hd hl'
 have HX:=Hd hx'
 have hle:=bsLb_le l x
 clear hl hx hvx hl' hx'
 go_enter Tryz.func147,Tryz.ntmps147
 go_wp2_with fail
 refine (hbs _ qaj).mono ?_
 rintro e w1 ⟨rfl,h1⟩
 have hc1:=h1.ext.cells
 have hX1:Ext w w1:=Ext.trans' ((Ext.refl w).alloc _) h1.ext
 have hz1:w.heap.size+1<=w1.heap.size:=by have:=h1.ext.size;simp at this;omega
 go_wp2_with fail
 have b0:w1.cell? ⟨w.heap.size,0,none⟩=some (.int .i64 x.g):=by rw [h1.ext.cell (by simp)];simp
 have b1:w1.cell? ⟨w.heap.size,1,none⟩=some (.slice Ax x.v.length cx):=by rw [h1.ext.cell (by simp)];simp
 have keyA:∀ (w2:World) (A2:Option Addr) (c2:Nat),qab RLb 2 61 (World.heap w1.drew).size T w2 l (.slice A2 l.length c2)->Ext w1.drew w2->Ext w (w2.alloc (.cells #[.int .i64 x.g,.slice Ax x.v.length cx] 61))∧(Value.slice A2 l.length c2).ownBlock≠some w.heap.size∧(∀ b,(Value.slice A2 l.length c2).ownBlock=some b->w1.heap.size<=b) ∧
   Calls Tryz.prog 214 #[.slice A2 l.length c2,.int .i64 (qcg l x:Int),.slice (some ⟨w2.heap.size,0,none⟩) 1 1] (w2.alloc (.cells #[.int .i64 x.g,.slice Ax x.v.length cx] 61)) (qjy w1.heap.size T (qck l x) (.slice A2 l.length c2) (w2.alloc (.cells #[.int .i64 x.g,.slice Ax x.v.length cx] 61))):=fun w2 A2 c2 ho hx=>by
  have hsz2:w1.heap.size<=w2.heap.size:=by have:=hx.size;exact this
  have hob:∀ b,(Value.slice A2 l.length c2).ownBlock=some b->w1.heap.size<=b∧b<w2.heap.size:=fun b hb=>by
   obtain ⟨news,h9,_⟩:=ho
   have h10:=qb1 h9 b hb
   exact h10
  have hXw2:Ext w w2:=hX1.trans' (Ext.trans' (Ext.refl w1).drew hx)
  exact ⟨hXw2.alloc _,fun e=>by have:=(hob _ e).1;omega,fun b hb=>(hob b hb).1,qsu w1.heap.size T l x (.slice A2 l.length c2) (.slice Ax x.v.length cx) w2.heap.size (qcg l x) _ (ho.ext RLb.good ((Ext.refl _).alloc _)) (fun b hb=>Nat.lt_of_lt_of_le (hT' b hb) hz1) (by simp;omega) (World.alloc_heap_new _ _) (fun e=>by have:=(hob _ e).2;omega) (RLb.good.bel HX.out (hXw2.alloc _)) hlen hle⟩
 have keyB:∀ (w2:World) (A2:Option Addr) (c2:Nat),qab RLb 2 61 (World.heap (w1.alloc (.cells #[.int .i64 x.g,.slice Ax x.v.length cx] 61)).drew).size T w2 l (.slice A2 l.length c2)->Ext (w1.alloc (.cells #[.int .i64 x.g,.slice Ax x.v.length cx] 61)).drew w2->Ext w w2∧(Value.slice A2 l.length c2).ownBlock≠some w.heap.size∧(∀ b,(Value.slice A2 l.length c2).ownBlock=some b->w1.heap.size<=b) ∧
   Calls Tryz.prog 214 #[.slice A2 l.length c2,.int .i64 (qcg l x:Int),.slice (some ⟨w1.heap.size,0,none⟩) 1 1] w2 (qjy w1.heap.size T (qck l x) (.slice A2 l.length c2) w2):=fun w2 A2 c2 ho hx=>by
  have hsz2:w1.heap.size<=w2.heap.size:=by have:=hx.size;have h:(w1.alloc (.cells #[.int .i64 x.g,.slice Ax x.v.length cx] 61)).drew.heap.size=w1.heap.size+1:=(by show (World.heap (w1.alloc _)).size=_;simp);omega
  have hob:∀ b,(Value.slice A2 l.length c2).ownBlock=some b->w1.heap.size<=b∧b<w2.heap.size∧w1.heap.size+1<=b:=fun b hb=>by
   obtain ⟨news,h9,_⟩:=ho
   have h10:=qb1 h9 b hb
   have h:(w1.alloc (.cells #[.int .i64 x.g,.slice Ax x.v.length cx] 61)).drew.heap.size=w1.heap.size+1:=(by show (World.heap (w1.alloc _)).size=_;simp);exact ⟨by omega,h10.2,by omega⟩
  have hXw2:Ext w w2:=hX1.trans' (Ext.trans' ((Ext.refl w1).alloc _).drew hx)
  exact ⟨hXw2,fun e=>by have:=(hob _ e).1;omega,fun b hb=>(hob b hb).1,qsu w1.heap.size T l x (.slice A2 l.length c2) (.slice Ax x.v.length cx) w1.heap.size (qcg l x) _ (ho.base (by show w1.heap.size<=(World.heap (w1.alloc _)).size;simp)) (fun b hb=>Nat.lt_of_lt_of_le (hT' b hb) hz1) hsz2 ((Ext.kp (S:=fun _=>True) hx).block _ (by show _<(World.heap (w1.alloc _)).size;simp) trivial |>.trans (World.alloc_heap_new _ _)) (fun e=>by have:=(hob _ e).2;omega) (RLb.good.bel HX.out hXw2) hlen hle⟩
 have HA:=Hd keyA
 have HB:=Hd keyB
 clear keyA keyB
 have hcl:=fun W (hW:Ext w W)=>qn3 T l _ W (qaa.good.bel HL.out hW) (by omega)
 go_region_held3 (fun W=>W.cell? ⟨w.heap.size,0,none⟩=some (.int .i64 x.g)∧W.cell? ⟨w.heap.size,1,none⟩=some (.slice Ax x.v.length cx))
  (first | (refine ⟨?_,?_⟩ <;> go_simp <;> done) | exact Ext.k2 hx1 (by assumption) | exact Ext.k2 ((Ext.refl _).alloc _) (by assumption) | (have hq:=hb3;have hq2:=hno;refine And.imp (fun h=>Bt.cell hq h hq2) (fun h=>Bt.cell hq h hq2) ?_;assumption))
  (first
  | (go_at_call 39;refine (hcl _ bel).mono ?_;rintro e w2 ⟨v2,rfl,ho2,hx1⟩;obtain ⟨A2,c2,rfl,hc2,hc20⟩:=(ho2.sl RLb.good (by decide)).val;first | (have hx2:Ext w1.drew w2:=hx1;obtain ⟨h71,hno,h73,h74⟩:=HA.out w2 A2 c2 ho2 hx2) | (have hx2:Ext (w1.alloc (.cells #[.int .i64 x.g,.slice Ax x.v.length cx] 61)).drew w2:=hx1;obtain ⟨h71,hno,h73,h74⟩:=HB.out w2 A2 c2 ho2 hx2))
  | (go_at_call 214;refine h74.mono ?_;rintro e w3 ⟨A3,c3,rfl,ho3,hb3⟩))
 all_goals
  go_wp2_with fail
  go_ret
  have hXX:Ext w w3:=Bt.new h71 hb3 fun b _ hb=>by have:=h73 b hb;omega
  exact ⟨A3,c3,rfl,ho3.base (by omega),hXX⟩
end
section
set_option maxHeartbeats 1000000
set_option maxRecDepth 100000
/- suite.musts: walked. -/
open Go.Shelf
def qfe (a m:List Lb):List (List Lb):=if qek m a then [m] else a.map (qck m)
def qcm (ls:List (List Lb)) (a:List Lb):List (List Lb):=ls.flatMap (qfe a)
def qdv (ls:List (List Lb)) (a:List Lb):List (List Lb):=qcj (qb9 (qcm ls a))
def qha (n:List (List Lb)):Bool:=decide (2000<n.length) || n.any fun m=>decide (64<m.length)
def qc4:List (List Lb)->List (List Lb)->Option (List (List Lb))
 | [],ls=>some ls
 | a :: bs,ls=>if qha (qdv ls a) then none else qc4 bs (qez (qdv ls a))
def qbk (s:Sy) (sts:List Int):Option (List (List Lb)):=if sts=[] then some [] else qc4 (qcj (qb9 (sts.map (qa7 s)))) [[]]
def errO {α:Type}:Option α->Int
 | none=>2
 | some _=>0
def qbs {α:Type}:Option (List α)->List α
 | none=>[]
 | some l=>l
def MustPost (P:Nat->Prop) (r:Option (List (List Lb))) (w:World) (e:Ending) (w':World):Prop :=
 ∃ A c,e = .returned (.tuple #[.slice A (qbs r).length c,.int .i64 (errO r)])∧qab qaa 1 22 w.heap.size P w' (qbs r) (.slice A (qbs r).length c)∧Ext w w'
theorem qts (a m:List Lb) (ha:a.length<=4000):(qfe a m).length<=4000:=by
 unfold qfe
 split
 ·simp
 ·rw [List.length_map];exact ha
theorem qma (a:List Lb) (ha:a.length<=4000):∀ ls:List (List Lb),(qcm ls a).length<=ls.length*4000
 | []=>by simp [qcm]
 | m :: ls=>by
  have h1:=qma a ha ls
  have h2:=qts a m ha
  unfold qcm at *
  rw [List.flatMap_cons,List.length_append,List.length_cons]
  omega
theorem qtu (ls:List (List Lb)) (a:List Lb) (i:Nat) (h:i<ls.length):qcm (ls.take (i+1)) a=qcm (ls.take i) a++qfe a ls[i]:=by
 rw [List.take_succ_eq_append_getElem h,qcm,List.flatMap_append]
 simp [qcm]
theorem qnx (l:List (List Lb)) (x:List Lb) (h:x∈qez l):x∈l:=(qgk l x).1 (qi6 qch _ x (List.mem_filter.1 h).1)
theorem qs4 (l:List (List Lb)):(qez l).length<=l.length:=by
 have h1:=List.length_filter_le (fun a=>!((qcj (qb9 l)).any (qfg a))) (qcj (qb9 l))
 have h2:=qmt (qb9 l)
 rw [qi8] at h2
 exact Nat.le_trans h1 h2
theorem qpe {n:List (List Lb)} (h:qha n=false):n.length<=2000∧∀ m∈n,m.length<=64:=by
 simp only [qha,Bool.or_eq_false_iff,decide_eq_false_iff_not,List.any_eq_false,decide_eq_true_eq] at h
 exact ⟨by omega,fun m hm=>by have:=h.2 m hm;omega⟩
theorem eg148:∀ args w,(callFunc 148 args).run Tryz.prog w = .ok (.enter 148 args) w:=enters_of Tryz.func148 (by kernel_rfl) rfl
theorem musts1_c (S:Nat->Prop) (m:List Lb) (u:Value) (w:World) (hm:qaa S w m [u]):Calls Tryz.prog 148 #[u] w fun e w'=>e = .returned (.bool (decide (64<m.length)))∧Ext w w':=by
 obtain ⟨A,c,rfl,_,_⟩:=hm.val
 clear hm
 go_enter Tryz.func148,Tryz.ntmps148
 go_wp2_with fail
 go_ret
 refine ⟨?_,Ext.refl _⟩
 have:decide ((64:Int)<(m.length:Int))=decide (64<m.length):=decide_eq_decide.2 (by omega)
 rw [<- this]
 rfl
theorem qnl {P:Nat->Prop} {base:Nat} {w w':World} {xs:List (List Lb)} {y:List Lb} {v v' u:Value} {news:List Value} (hF:Flat qaa 1 (fun b=>P b∧v.ownBlock≠some b) w xs news) (hy:qaa (fun b=>P b∧v.ownBlock≠some b) w y [u])
  (hown:w'.ownsRow base 22 1 v' (xs.length+1) (news++[u])) (hg:w.grownBy w' v.ownBlock) (hat:v'.ownBlock=v.ownBlock∨v'.ownBlock=some w.heap.size):qab qaa 1 22 base P w' (xs++[y]) v' :=
 qab.push qaa.good hF (Flat.single hy rfl) hown hg hat
theorem musts_c (P S:Nat->Prop) (s:Sy) (hok:qag s) (g:Nat) (sts:List Int) (v:Value) (w:World) (hS:qav P w g s) (hP:∀ b,w.heap.size<=b->P b) (hl:RSl qac 1 S w sts [v]) (hlen:sts.length<=1000000) :
  Calls Tryz.prog 80 #[.pointer (some ⟨g,0,none⟩),v] w (MustPost P (qbk s sts) w):=by
 obtain ⟨A0,c0,rfl,_,_⟩:=hl.val
 have HS:Hid (qav (fun b=>P b∧b<w.heap.size) w g s):=hS.mono fun b hb h=>⟨h,hb⟩
 have HL:=Hd hl
 clear hS hl
 by_cases h0:sts=[]
 ·subst h0
  have HV:Hid (qbk s []=some []):=rfl
  go_enter Tryz.func80,Tryz.ntmps80
  go_wp2_with fail
  go_ret2
  rw [HV.out]
  exact ⟨none,0,rfl,qab.nil ..,Ext.refl _⟩
 have hne:((sts.length:Int) == 0)=false:=beq_eq_false_iff_ne.2 fun e=>h0 (List.length_eq_zero_iff.1 (by omega))
 have HV:Hid (qbk s sts=qc4 (qcj (qb9 (sts.map (qa7 s)))) [[]]):=if_neg h0
 have hlb:=qq7
 obtain ⟨i3,hi3,hzz⟩:=Option.map_eq_some_iff.1 hlb
 simp only [Prod.mk.injEq] at hzz
 obtain ⟨hz0,hz1,hz2⟩:=hzz
 clear h0 hlb
 go_enter Tryz.func80,Tryz.ntmps80
 go_wp2_with fail
 go_loopw [6,22] (fun vo vi wr=>∃ (k:Nat) (A:Option Addr) (c:Nat),k<=sts.length∧vi = .int .i64 k∧vo = .slice A k c∧qab qaa 1 22 w.heap.size P wr ((sts.take k).map (qa7 s)) (.slice A k c)∧Ext w wr) (fun _ vi _=>sts.length-(intOf vi).toNat)
 case atStart=>exact ⟨0,none,0,Nat.zero_le _,rfl,rfl,qab.nil ..,Ext.refl _⟩
 case round =>
  obtain ⟨k,A,c,hk,rfl,rfl,hown,hE⟩:=hrel
  by_cases hlt:k<sts.length
  ·obtain ⟨b,off,cs,rfl,hb,hT,hl,hr,hcell⟩:=((RSl.good qac.good).bel HL.out hE).get k hlt
   obtain ⟨rfl,hi⟩:=hr
   have g0:=(by simpa using hcell.get 0 _:wr.cell? ⟨b,off+k,none⟩=some (.int .i64 sts[k]))
   have hac:=qnp (fun b=>P b∧b<w.heap.size) s hok g sts[k] wr hi (HS.out.bel hE)
   have hkl:Hid ((sts.take k).length=k):=by show _=_;rw [List.length_take];omega
   have hst:Hid ((sts.take (k+1)).map (qa7 s)=(sts.take k).map (qa7 s)++[qa7 s sts[k]]):=by show _=_;rw [List.take_succ_eq_append_getElem hlt,List.map_append];rfl
   have HO:=Hd hown
   have hob:=fun q hq=>hown.own_lt (b:=q) hq
   clear hcell hl hT hown
   go_wp2_with fail
   refine hac.mono ?_
   rintro e w3 ⟨A3,c3,rfl,ho3,hx3⟩
   have ho4:=HO.out.ext qaa.good (hx3.alloc (.cells #[.slice A3 (qa7 s sts[k]).length c3] 22))
   obtain ⟨news,hrow,hF⟩:=ho4
   have hcc:=qew w3 #[.slice A3 (qa7 s sts[k]).length c3] 22
   have hy:qaa (fun b=>P b∧(Value.slice A k c).ownBlock≠some b) (w3.alloc (.cells #[.slice A3 (qa7 s sts[k]).length c3] 22)) (qa7 s sts[k]) [.slice A3 (qa7 s sts[k]).length c3] :=
    qaa.good.bel (qaa.good.mono (ho3.sl RLb.good (by decide)) fun q _ hq=>⟨hq.elim (fun h=>h.1.1) fun h=>hP q (by have:=hE.size;omega),fun e=>by
     have:=hob q e
     rcases hq with h | h
     ·have h':q<w.heap.size:=h.1.2;omega
     ·omega⟩) ((Ext.refl _).alloc _)
   have HF:=Hd hF
   have HY:=Hd hy
   have hsz3:=hx3.size
   have hszE:=hE.size
   rw [List.length_map,hkl.out] at hrow
   clear hF hy ho3 hac
   go_wp2_with (at_builtin;refine wpList_append_own_at _ rfl _ _ 30 rfl w.heap.size 22 i3 _ 1 24 Tryz.underlying30 hi3 hz0 hz1 hz2 rfl (by decide) _ _ _ rfl hrow ⟨w3.heap.size,0,none⟩ 1 1 [.slice A3 (qa7 s sts[k]).length c3] rfl rfl hcc (by simp [Value.oneCell']) (by unfold maxLen;omega) (by omega) (by simp;omega) ?_;intro v5 w5 hown5 hgrow5 hnil5 hat5;obtain ⟨g5,c5,rfl⟩:=ownsRow_succ hown5)
   have hp5:=Hd (qnl HF.out HY.out (by rw [List.length_map,hkl.out];exact hown5) hgrow5 hat5)
   have hX5:Ext w w5:=Below.grown ((hE.trans' hx3).alloc _) hgrow5 (by simp;omega) fun q hq=>(hob q hq).1
   clear hown5 hgrow5 hat5 hnil5 hrow hcc
   go_wp2_with fail
   go_roundw
   case rel=>exact ⟨k+1,some ⟨g5,0,none⟩,c5,by omega,by go_num,rfl,by rw [hst.out];exact hp5.out,hX5⟩
   case measure=>simp [intOf];omega
  ·obtain rfl:k=sts.length:=by omega
   rw [List.take_length] at hown
   obtain ⟨wa,rfl⟩:∃ wa,wa=wr:=⟨_,rfl⟩
   obtain ⟨ac,hac⟩:∃ ac,sts.map (qa7 s)=ac:=⟨_,rfl⟩
   have hacl:ac.length=sts.length:=by rw [<- hac,List.length_map]
   have hace:∀ a∈ac,a.length<=4000:=fun a ha=>by
    rw [<- hac] at ha
    obtain ⟨t,_,rfl⟩:=List.mem_map.1 ha
    have:=accL_len s t
    have:=hok.2.2.1
    omega
   have HV2:Hid (qbk s sts=qc4 (qcj (qb9 ac)) [[]]):=by show _=_;rw [HV.out,hac]
   rw [hac] at hown
   have hob:=fun q hq=>hown.own_lt (b:=q) hq
   have hs:=qn4 w.heap.size _ ac _ wa hown (by omega)
   have hc1:=fun W (hW:qab qaa 1 22 w.heap.size P W (qb9 ac) (.slice A sts.length c))=>qoo w.heap.size _ (qb9 ac) _ W hW (by rw [qi8];omega)
   have HACL:=Hd hacl
   clear hacl hac hown HV
   go_wp2_with fail
   refine hs.mono ?_
   rintro e w1 ⟨rfl,ho1,hb1⟩
   have ho1':=ho1.ext qaa.good ((Ext.refl w1).alloc (.cells #[.slice none 0 0] 22))
   go_wp2_with fail
   refine (hc1 _ ho1').mono ?_
   rintro e w2 ⟨A2,c2,rfl,ho2,hb2⟩
   have hz1:=hb1.size
   have hz2:=hb2.size
   simp only [World.size_alloc] at hz2
   have hlit:qab qaa 1 22 w.heap.size P w2 [[]] (.slice (some ⟨w1.heap.size,0,none⟩) 1 1):=by
    have h1:=World.ownsRow_lit (base:=w.heap.size) (e:=22) (size:=1) w1 #[.slice none 0 0] 1 (by have:=hE.size;omega) (by decide) rfl
    have h2:qab qaa 1 22 w.heap.size (fun _=>False) (w1.alloc (.cells #[.slice none 0 0] 22)) [[]] (.slice (some ⟨w1.heap.size,0,none⟩) 1 1):=⟨[.slice none 0 0],h1,[.slice none 0 0],[],rfl,rfl,⟨none,0,rfl,Nat.le_refl _,by decide,.inl rfl⟩,rfl⟩
    refine (h2.bt qaa.good hb2 fun b _ hz=>⟨fun h=>h,fun e=>?_⟩).mono qaa.good fun _ _ h=>h.elim
    have h3:=(hob b hz).2
    have h4:w1.heap.size=b:=by simpa [Value.ownBlock] using e
    omega
   obtain ⟨acs,hacs⟩:∃ acs,qcj (qb9 ac)=acs:=⟨_,rfl⟩
   have hacn:acs.length<=1000000:=by rw [<- hacs];have:=qmt (qb9 ac);rw [qi8,HACL.out] at this;omega
   have hace2:∀ a∈acs,a.length<=4000:=fun a ha=>hace a ((qgk ac a).1 (qi6 qch _ a (by rw [<- hacs] at ha;exact ha)))
   have hX2:Ext w w2:=Bt.new (Z:=fun b=>w.heap.size<=b) hE (((hb1.mono fun b _ h=>(hob b h).1).trans ((Bt.refl _ _).alloc _)).trans (hb2.mono fun b _ h=>(hob b h).1)) fun _ _ h=>h
   rw [hacs] at ho2 HV2 ⊢
   have HO2:=Hd ho2
   have HLIT:=Hd hlit
   clear hacs hlit ho2 ho1 ho1' hs hc1 hb1 hb2 HACL hace hob hz1 hz2
   go_wp2_with fail
   go_loopw [9,39] (fun vl vi wr=>∃ (k:Nat) (A:Option Addr) (c:Nat) (ls:List (List Lb)),k<=acs.length∧vi = .int .i64 k∧vl = .slice A ls.length c∧qab qaa 1 22 w.heap.size P wr ls (.slice A ls.length c)∧ls.length<=2000∧(∀ m∈ls,m.length<=64)∧Hid (qc4 (acs.drop k) ls=qc4 acs [[]])∧Ext w2 wr) (fun _ vi _=>acs.length-(intOf vi).toNat)
   case atStart=>exact ⟨0,some ⟨w1.heap.size,0,none⟩,1,[[]],Nat.zero_le _,rfl,rfl,HLIT.out,by decide,by simp,rfl,Ext.refl _⟩
   case round =>
    obtain ⟨k,A,c,ls,hk,rfl,rfl,hown,hln,hlm,hgo,hE2⟩:=hrel
    by_cases hlt:k<acs.length
    ·obtain ⟨b,off,cs,rfl,hb,hT,hl,hr,hcell⟩:=((RSl.good qaa.good).bel ((RSl.good qaa.good).mono (S':=fun b=>P b∧b<w2.heap.size) (HO2.out.sl qaa.good (by decide)) fun b hb h=>⟨h.elim id (hP b),hb⟩) hE2).get k hlt
     obtain ⟨Aa,ca,rfl,hra0,hra1,_⟩:=id hr
     have g0:=(by simpa using hcell.get 0 _:wr.cell? ⟨b,off+k,none⟩=some (.slice Aa acs[k].length ca))
     have ha:=hace2 _ (List.getElem_mem hlt)
     obtain ⟨a,haa⟩:∃ a,acs[k]=a:=⟨_,rfl⟩
     have hstep:qc4 (acs.drop k) ls=if qha (qdv ls a) then none else qc4 (acs.drop (k+1)) (qez (qdv ls a)):=by rw [List.drop_eq_getElem_cons hlt,qc4,haa]
     rw [haa] at ha hr g0
     have HST:=Hd hstep
     have HRA:=Hd hr
     have HLS:=Hd hown
     have hob:=fun q hq=>hown.own_lt (b:=q) hq
     obtain ⟨wb,rfl⟩:∃ wb,wb=wr:=⟨_,rfl⟩
     have hwb:w.heap.size<=wb.heap.size:=by have:=hX2.size;have:=hE2.size;omega
     clear hstep hr hown hcell hl hT haa
     go_wp2_with fail
     go_loopw [12,45] (fun vn vi wr=>∃ (i:Nat) (A':Option Addr) (c':Nat),i<=ls.length∧vi = .int .i64 i∧vn = .slice A' (qcm (ls.take i) a).length c'∧qab qaa 1 22 wb.heap.size P wr (qcm (ls.take i) a) (.slice A' (qcm (ls.take i) a).length c')∧Ext wb wr) (fun _ vi _=>ls.length-(intOf vi).toNat)
     case atStart=>exact ⟨0,none,0,Nat.zero_le _,rfl,rfl,qab.nil ..,Ext.refl _⟩
     case round =>
      obtain ⟨i,A',c',hi,rfl,rfl,hown,hE3⟩:=hrel
      by_cases hlt3:i<ls.length
      ·have hls2:=(RSl.good qaa.good).mono (HLS.out.sl qaa.good (by decide)) (S':=fun b=>P b∧b<wb.heap.size) fun b hb h=>⟨h.elim id (hP b),hb⟩
       obtain ⟨b2,off2,cs2,rfl,hb2,hT2,hl2,hr2,hcell2⟩:=hls2.get i hlt3
       obtain ⟨Am,cm,rfl,hm0,hm1,_⟩:=id hr2
       have g2:=Ext.keep hE3 (by simpa using hcell2.get 0 _:wb.cell? ⟨b2,off2+i,none⟩=some (.slice Am ls[i].length cm))
       have hml:=hlm _ (List.getElem_mem hlt3)
       have hnt:=qtu ls a i hlt3
       obtain ⟨m,hmm⟩:∃ m,ls[i]=m:=⟨_,rfl⟩
       rw [hmm] at hml hr2 g2 hnt
       have hrl:=qma a ha (ls.take i)
       rw [List.length_take,Nat.min_eq_left (by omega)] at hrl
       have HR2:=Hd hr2
       have HNT:=Hd hnt
       have HOW:=Hd hown
       have hob3:=fun q hq=>hown.own_lt (b:=q) hq
       have hcom:=qnv (fun _=>True) m a _ _ wr (qaa.good.mono (qaa.good.bel hr2 hE3) fun _ _ _=>trivial) (qaa.good.mono (qaa.good.bel HRA.out hE3) fun _ _ _=>trivial) (by omega)
       have hnr:(qcm (ls.take i) a).length<=8000000:=by omega
       clear hr2 hnt hown hcell2 hl2 hT2 hls2 hmm hrl
       by_cases hco:qek m a=true
       ·rw [hco] at hcom
        have hst:Hid (qcm (ls.take (i+1)) a=qcm (ls.take i) a++[m]):=by show _=_;rw [HNT.out,qfe,if_pos hco]
        clear hco
        go_wp2_with fail
        refine hcom.mono ?_
        rintro e w3 ⟨rfl,hx3⟩
        have ho4:=HOW.out.ext qaa.good (hx3.alloc (.cells #[.slice Am m.length cm] 22))
        obtain ⟨news,hrow,hF⟩:=ho4
        have hcc:=qew w3 #[.slice Am m.length cm] 22
        have hy:qaa (fun b=>P b∧(Value.slice A' (qcm (ls.take i) a).length c').ownBlock≠some b) (w3.alloc (.cells #[.slice Am m.length cm] 22)) m [.slice Am m.length cm] :=
         qaa.good.bel (qaa.good.mono HR2.out fun q _ hq=>⟨hq.1,fun e=>by have:=(hob3 q e).1;have h':q<wb.heap.size:=hq.2;omega⟩) ((hE3.trans' hx3).alloc _)
        have HF:=Hd hF
        have HY:=Hd hy
        have hsz3:=hx3.size
        have hszE:=hE3.size
        clear hF hy hcom
        go_wp2_with (at_builtin;refine wpList_append_own_at _ rfl _ _ 30 rfl wb.heap.size 22 i3 _ 1 24 Tryz.underlying30 hi3 hz0 hz1 hz2 rfl (by decide) _ _ _ rfl hrow ⟨w3.heap.size,0,none⟩ 1 1 [.slice Am m.length cm] rfl rfl hcc (by simp [Value.oneCell']) (by unfold maxLen;omega) (by omega) (by simp;omega) ?_;intro v5 w5 hown5 hgrow5 hnil5 hat5;obtain ⟨g5,c5,rfl⟩:=ownsRow_succ hown5)
        have hp5:=Hd (qnl HF.out HY.out hown5 hgrow5 hat5)
        have hX5:Ext wb w5:=Below.grown ((hE3.trans' hx3).alloc _) hgrow5 (by simp;omega) fun q hq=>(hob3 q hq).1
        clear hown5 hgrow5 hat5 hnil5 hrow hcc
        go_wp2_with fail
        go_roundw
        case rel=>exact ⟨i+1,some ⟨g5,0,none⟩,c5,by omega,by go_num,by rw [hst.out,List.length_append];rfl,by rw [hst.out,List.length_append];exact hp5.out,hX5⟩
        case measure=>simp [intOf];omega
       ·rw [eq_false_of_ne_true hco] at hcom
        have hst:Hid (qcm (ls.take (i+1)) a=qcm (ls.take i) a++a.map (qck m)):=by show _=_;rw [HNT.out,qfe,if_neg hco]
        clear hco
        obtain ⟨wc,rfl⟩:∃ wc,wc=wr:=⟨_,rfl⟩
        go_wp2_with fail
        refine hcom.mono ?_
        rintro e w3 ⟨rfl,hx3⟩
        have hX3:=hE3.trans' hx3
        clear hcom
        obtain ⟨rj,hrj⟩:∃ rj:Nat->List (List Lb),rj=fun j=>qcm (ls.take i) a++(a.take j).map (qck m):=⟨_,rfl⟩
        have hr0:Hid (rj 0=qcm (ls.take i) a):=by show _=_;rw [hrj];simp
        have hr1:Hid (∀ j,(h:j<a.length)->rj (j+1)=rj j++[qck m a[j]]):=by
         intro j h
         rw [hrj]
         simp only
         rw [List.take_succ_eq_append_getElem h,List.map_append,List.append_assoc]
         rfl
        have hr2:Hid (rj a.length=qcm (ls.take (i+1)) a):=by show _=_;rw [hst.out,hrj];simp only [List.take_length]
        have hr3:Hid (∀ j,(rj j).length<=8000000+4000):=by
         intro j
         rw [hrj]
         simp only [List.length_append,List.length_map,List.length_take]
         omega
        clear hrj
        go_wp2_with fail
        go_loopw [12,58] (fun vn vi wr=>∃ (j:Nat) (A4:Option Addr) (c4:Nat),j<=a.length∧vi = .int .i64 j∧vn = .slice A4 (rj j).length c4∧qab qaa 1 22 wb.heap.size P wr (rj j) (.slice A4 (rj j).length c4)∧Ext wb wr) (fun _ vi _=>a.length-(intOf vi).toNat)
        case atStart=>exact ⟨0,A',c',Nat.zero_le _,rfl,by rw [hr0.out],by rw [hr0.out];exact HOW.out.ext qaa.good hx3,hX3⟩
        case round =>
         obtain ⟨j,A4,c4,hj,rfl,rfl,hown4,hE4⟩:=hrel
         have hlj:=hr3.out j
         by_cases hlt4:j<a.length
         ·obtain ⟨b5,off5,cs5,rfl,hb5,hT5,hl5,hr5,hcell5⟩:=(qaa.good.bel HRA.out hE4).get j hlt4
          obtain ⟨hxi,vx,rfl,hvx⟩:=id hr5
          have a0:=hcell5.get 0 _
          have a1:=hcell5.get 1 _
          simp only [Nat.add_zero] at a0
          obtain ⟨Ax,cx,rfl,_,_⟩:=hvx.val
          have hst4:=Hd (hr1.out j hlt4)
          obtain ⟨x,hxx⟩:∃ x,a[j]=x:=⟨_,rfl⟩
          rw [hxx] at hr5 a0 a1
          have HST4:Hid (rj (j+1)=rj j++[qck m x]):=by show _=_;rw [hst4.out,hxx]
          have hw2b:w2.heap.size<=wb.heap.size:=hE2.size
          have had:=added_c (fun b=>P b∧b<wb.heap.size) m x (.slice Am m.length cm) (.slice Ax x.v.length cx) (wr.alloc (.cells #[.int .i64 x.g,.slice Ax x.v.length cx] 61))
           (qaa.good.bel HR2.out (hE4.alloc _)) (RLb.good.bel (RLb.good.mono hr5 fun q _ hq=>⟨hq.1,Nat.lt_of_lt_of_le hq.2 hw2b⟩) ((Ext.refl _).alloc _)) (by omega)
          have hob4:=fun q hq=>hown4.own_lt (b:=q) hq
          have HOW4:=Hd hown4
          clear hcell5 hl5 hT5 hr5 hvx hst4 hown4
          clear hxx
          go_wp2_with fail
          refine had.mono ?_
          rintro e w6 ⟨A6,c6,rfl,ho6,hx6⟩
          have hx6':=Ext.trans' ((Ext.refl wr).alloc _) hx6
          have ho7:=HOW4.out.ext qaa.good (hx6'.alloc (.cells #[.slice A6 (qck m x).length c6] 22))
          obtain ⟨news,hrow,hF⟩:=ho7
          have hcc:=qew w6 #[.slice A6 (qck m x).length c6] 22
          have hsz6:=hx6'.size
          have hszE:=hE4.size
          have hszE3:=hE3.size
          have hy:qaa (fun b=>P b∧(Value.slice A4 (rj j).length c4).ownBlock≠some b) (w6.alloc (.cells #[.slice A6 (qck m x).length c6] 22)) (qck m x) [.slice A6 (qck m x).length c6] :=
           qaa.good.bel (qaa.good.mono (ho6.sl RLb.good (by decide)) fun q _ hq=>⟨hq.elim (fun h=>h.1.1) fun h=>hP q (by simp at h;omega),fun e=>by
            have:=hob4 q e
            rcases hq with h | h
            ·have h':q<wb.heap.size:=h.1.2;omega
            ·simp at h;omega⟩) ((Ext.refl _).alloc _)
          have HF:=Hd hF
          have HY:=Hd hy
          clear hF hy had ho6
          go_wp2_with (at_builtin;refine wpList_append_own_at _ rfl _ _ 30 rfl wb.heap.size 22 i3 _ 1 24 Tryz.underlying30 hi3 hz0 hz1 hz2 rfl (by decide) _ _ _ rfl hrow ⟨w6.heap.size,0,none⟩ 1 1 [.slice A6 (qck m x).length c6] rfl rfl hcc (by simp [Value.oneCell']) (by unfold maxLen;omega) (by omega) (by simp;omega) ?_;intro v8 w8 hown8 hgrow8 hnil8 hat8;obtain ⟨g8,c8,rfl⟩:=ownsRow_succ hown8)
          have hp8:=Hd (qnl HF.out HY.out hown8 hgrow8 hat8)
          have hX8:Ext wb w8:=Below.grown ((hE4.trans' hx6').alloc _) hgrow8 (by simp;omega) fun q hq=>(hob4 q hq).1
          clear hown8 hgrow8 hat8 hnil8 hrow hcc
          go_wp2_with fail
          go_roundw
          case rel=>exact ⟨j+1,some ⟨g8,0,none⟩,c8,by omega,by go_num,by rw [HST4.out,List.length_append];rfl,by rw [HST4.out,List.length_append];exact hp8.out,hX8⟩
          case measure=>simp [intOf];omega
         ·obtain rfl:j=a.length:=by omega
          rw [hr2.out] at hown4
          have hr4:=Hd hr2
          have HOW4:=Hd hown4
          clear hown4
          go_wp2_with fail
          go_roundw
          case rel=>exact ⟨i+1,A4,c4,by omega,by go_num,by rw [hr4.out.out],HOW4.out,hE4⟩
          case measure=>simp [intOf];omega
      ·obtain rfl:i=ls.length:=by omega
       rw [List.take_length] at hown ⊢
       have hob3:=fun q hq=>hown.own_lt (b:=q) hq
       have hrl:=qma a ha ls
       have hnr:(qcm ls a).length<=8000000:=by omega
       obtain ⟨nr,hnre⟩:∃ nr,qcm ls a=nr:=⟨_,rfl⟩
       have hns:Hid (qdv ls a=qcj (qb9 nr)):=by show _=_;rw [qdv,hnre]
       rw [hnre] at hown hob3 hnr ⊢
       clear hrl hnre
       have hs:=qn4 wb.heap.size _ nr _ wr hown (by omega)
       have hc1:=fun W (hW:qab qaa 1 22 wb.heap.size P W (qb9 nr) (.slice A' nr.length c'))=>qoo wb.heap.size _ (qb9 nr) _ W hW (by rw [qi8];omega)
       obtain ⟨n,hn⟩:∃ n,qcj (qb9 nr)=n:=⟨_,rfl⟩
       rw [hn] at hc1
       have HN:Hid (qdv ls a=n):=by show _=_;rw [hns.out,hn]
       clear hn hown hns
       go_wp2_with fail
       refine hs.mono ?_
       rintro e w3 ⟨rfl,ho3,hb3⟩
       go_wp2_with fail
       refine (hc1 _ ho3).mono ?_
       rintro e w4 ⟨A4,c4,rfl,ho4,hb4⟩
       have hX4:Ext wb w4:=Bt.new (Z:=fun b=>wb.heap.size<=b) hE3 ((hb3.mono fun b _ h=>(hob3 b h).1).trans (hb4.mono fun b _ h=>(hob3 b h).1)) fun _ _ h=>h
       have hXw4:Ext w w4:=hX2.trans' (hE2.trans' hX4)
       have hcon:=conPLbs (fun m=>decide (64<m.length)) (fun _=>True) w4 n _ ((RSl.good qaa.good).mono (ho4.sl qaa.good (by decide)) fun _ _ _=>trivial) 148 #[] eg148 (fun m hm cs W hW hr=>by
        obtain ⟨Am,cm,rfl,_⟩:=id hr
        exact musts1_c _ m _ W hr)
       have HO4:=Hd ho4
       clear ho4 ho3 hb3 hb4 hs hc1
       by_cases hbig:2000<n.length
       ·have hz:=decide_eq_true (show (2000:Int)<(n.length:Int) by omega)
        have HF:Hid (qbk s sts=none):=by show _=_;rw [HV2.out,<- hgo.out,HST.out,HN.out,if_pos (by simp [qha,hbig])]
        clear hcon
        go_wp2_with fail
        go_ret2
        rw [HF.out]
        exact ⟨none,0,rfl,qab.nil ..,hXw4⟩
       have hz:=decide_eq_false (show ¬ (2000:Int)<(n.length:Int) by omega)
       by_cases hany:(n.any fun m=>decide (64<m.length))=true
       ·have HF:Hid (qbk s sts=none):=by show _=_;rw [HV2.out,<- hgo.out,HST.out,HN.out,if_pos (by simp only [qha,hany,Bool.or_true])]
        rw [hany] at hcon
        clear hany
        go_wp2_with fail
        refine hcon.mono ?_
        rintro e w5 ⟨rfl,hx5⟩
        go_wp2_with fail
        go_ret2
        rw [HF.out]
        exact ⟨none,0,rfl,qab.nil ..,hXw4.trans' hx5⟩
       ·have htm:qha n=false:=by simp only [qha,eq_false_of_ne_true hany,decide_eq_false hbig,Bool.or_false]
        have hok2:=qpe htm
        have hgo2:Hid (qc4 (acs.drop (k+1)) (qez n)=qc4 acs [[]]):=by show _=_;rw [<- hgo.out,HST.out,HN.out,if_neg (by rw [htm];decide)]
        rw [eq_false_of_ne_true hany] at hcon
        clear hany htm
        go_wp2_with fail
        refine hcon.mono ?_
        rintro e w5 ⟨rfl,hx5⟩
        have ho5:=HO4.out.ext qaa.good hx5
        have hob5:=fun q hq=>ho5.own_lt (b:=q) hq
        have hle:=least_c P wb.heap.size (fun b hb=>hP b (by omega)) n _ w5 ho5 (by have:=hX4.size;have:=hx5.size;omega) (by omega) (fun m hm=>Nat.le_trans (hok2.2 m hm) (by decide))
        clear ho5 hcon
        go_wp2_with fail
        refine hle.mono ?_
        rintro e w6 ⟨A6,c6,rfl,ho6,hb6⟩
        have hX6:Ext wb w6:=Bt.new (hX4.trans' hx5) hb6 fun b _ h=>(hob5 b h).1
        have HO6:=Hd ho6
        have hll:=qs4 n
        have hz5:w.heap.size<=w5.heap.size:=by have:=hXw4.size;have:=hx5.size;omega
        clear ho6 hle hb6
        go_wp2_with fail
        go_roundw
        case rel=>exact ⟨k+1,A6,c6,qez n,by omega,by go_num,rfl,HO6.out.base hz5,by omega,fun m hm=>hok2.2 m (qnx n m hm),hgo2.out,hE2.trans' hX6⟩
        case measure=>simp [intOf];omega
    ·obtain rfl:k=acs.length:=by omega
     have hfin:Hid (qbk s sts=some ls):=by show _=_;rw [HV2.out,<- hgo.out,List.drop_length,qc4]
     have HO:=Hd hown
     clear hown
     go_wp2_with fail
     go_ret2
     rw [hfin.out]
     exact ⟨A,c,rfl,HO.out,hX2.trans' hE2⟩
end
section
open Go.Shelf
theorem qmk (p:Int->Bool):∀ (i:Nat) (xs:List Lb) (x:Lb),x∈qbf p i xs->x∈xs
 | _,[],x,h=>h
 | i,y :: ys,x,h=>by
  rw [qbf] at h
  split at h
  ·rcases List.mem_cons.1 h with rfl | h
   ·simp
   ·exact List.mem_cons_of_mem _ (qmk p (i+1) ys x h)
  ·exact List.mem_cons_of_mem _ (qmk p (i+1) ys x h)
theorem qs7 (l:List Lb) (x y:Lb) (h:y∈qck l x):y∈l∨y=x:=by
 simp only [qck,List.mem_append,List.mem_singleton] at h
 rcases h with (h | h) | h
 ·exact .inl (List.mem_of_mem_take h)
 ·exact .inr h
 ·exact .inl (List.mem_of_mem_drop h)
def Sub (s:Sy) (ls:List (List Lb)):Prop:=∀ m∈ls,∀ x∈m,x∈s.ls
theorem nextS_sub {s:Sy} {ls:List (List Lb)} {a:List Lb} (h:Sub s ls) (ha:∀ x∈a,x∈s.ls):Sub s (qdv ls a):=fun m hm x hx=>by
 have h1:=(qgk (qcm ls a) m).1 (qi6 qch _ m hm)
 obtain ⟨m',hm',hmm⟩:=List.mem_flatMap.1 h1
 unfold qfe at hmm
 split at hmm
 ·rw [List.mem_singleton.1 hmm] at hx
  exact h m' hm' x hx
 ·obtain ⟨y,hy,rfl⟩:=List.mem_map.1 hmm
  rcases qs7 m' y x hx with h2 | rfl
  ·exact h m' hm' x h2
  ·exact ha _ hy
theorem qp2 {s:Sy}:∀ {bs ls:List (List Lb)} {r:List (List Lb)},Sub s bs->Sub s ls->qc4 bs ls=some r->Sub s r
 | [],ls,r,_,h,e=>by rw [qc4] at e;injection e with e;rw [<- e];exact h
 | a :: bs,ls,r,hb,h,e=>by
  rw [qc4] at e
  split at e
  ·cases e
  ·exact qp2 (fun m hm=>hb m (List.mem_cons_of_mem _ hm)) (fun m hm=>nextS_sub h (hb a (List.mem_cons_self ..)) m (qnx _ m hm)) e
theorem qnk (s:Sy) (sts:List Int):Sub s (qbs (qbk s sts)):=by
 cases h:qbk s sts with
 | none=>intro m hm;simp [qbs] at hm
 | some r =>
  unfold qbk at h
  split at h
  ·injection h with h
   subst h
   intro m hm
   simp [qbs] at hm
  ·refine qp2 (fun m hm x hx=>?_) (fun m hm x hx=>?_) h
   ·obtain ⟨t,_,rfl⟩:=List.mem_map.1 ((qgk _ m).1 (qi6 qch _ m hm))
    exact qmk _ _ _ x hx
   ·rw [List.mem_singleton.1 hm] at hx
    simp at hx
theorem qk3 (s:Sy) (sts:List Int):(qbs (qbk s sts)).length<=2000∧∀ m∈qbs (qbk s sts),m.length<=64:=by
 have go:∀ (bs ls r:List (List Lb)),ls.length<=2000->(∀ m∈ls,m.length<=64)->qc4 bs ls=some r->r.length<=2000∧∀ m∈r,m.length<=64:=by
  intro bs
  induction bs with
  | nil=>intro ls r h1 h2 e;rw [qc4] at e;injection e with e;rw [<- e];exact ⟨h1,h2⟩
  | cons a bs ih =>
   intro ls r h1 h2 e
   rw [qc4] at e
   split at e
   ·cases e
   ·rename_i ht
    have h3:=qpe (eq_false_of_ne_true ht)
    exact ih _ r (Nat.le_trans (qs4 _) h3.1) (fun m hm=>h3.2 m (qnx _ m hm)) e
 cases h:qbk s sts with
 | none=>simp [qbs]
 | some r =>
  unfold qbk at h
  split at h
  ·injection h with h
   subst h
   simp [qbs]
  ·exact go _ _ r (by decide) (by simp) h
def qer (s:Sy):Prop:=∀ x∈s.ls,x.size<=1000000000
open Classical in
noncomputable def qe1 (s:Sy) (tr:List Lb):Int:=if qag s then (if qbl tr then errO (qbk s (qal s tr)) else 1) else 8
open Classical in
noncomputable def qd1 (s:Sy) (tr:List Lb):List (List Lb):=if qag s∧qbl tr=true then qbs (qbk s (qal s tr)) else []
def qmi {α:Type} (R:Rdr α) (k:Nat) (t:TypeId) (r:List α) (err:Int) (w:World) (e:Ending) (w':World):Prop :=
 ∃ A c,e = .returned (.tuple #[.slice A r.length c,.int .i64 err])∧qab R k t w.heap.size (fun _=>True) w' r (.slice A r.length c)∧Ext w w'
set_option maxHeartbeats 1000000 in
set_option maxRecDepth 100000 in
theorem Musts_c (S:Nat->Prop) (s:Sy) (hsm:qer s) (cs:List Value) (tr:List Lb) (v:Value) (w:World) (hx:RSy S w s cs) (ht:qaa S w tr [v]) :
  Calls Tryz.prog 18 #[.agg cs.toArray,v] w (qmi qaa 1 22 (qd1 s tr) (qe1 s tr) w):=by
 have htc:=fun W (hW:Ext w W)=>ql1 S tr v W (qaa.good.bel ht hW)
 obtain ⟨_,vl,ve,rfl,hvl,hve⟩:=id hx
 obtain ⟨Al,cl,rfl,_,_⟩:=hvl.val
 obtain ⟨Ae,ce,rfl,_,_⟩:=hve.val
 obtain ⟨A,c,rfl,hc,hc0⟩:=ht.val
 have HX:=Hd hx
 have HT:=Hd ht
 clear hx ht hvl hve
 by_cases hok:qag s
 case neg =>
  have hcon:=fun W (hW:Ext w W)=>qht S s _ W (RSy.good.bel HX.out hW) hok
  have HV:=Hd (And.intro (show qe1 s tr=8 from if_neg hok) (show qd1 s tr=[] from if_neg fun h=>hok h.1))
  go_enter Tryz.func18,Tryz.ntmps18
  go_wp2_with fail
  refine (hcon _ bel).mono ?_
  rintro e w1 ⟨rfl,h1⟩
  go_wp2_with fail
  go_ret2
  rw [HV.out.1,HV.out.2]
  exact ⟨none,0,rfl,qab.nil ..,bel⟩
 have hcon:=fun W (hW:Ext w W)=>qge S s _ W (RSy.good.bel HX.out hW) hok
 by_cases htr:qbl tr=true
 case neg =>
  rw [eq_false_of_ne_true htr] at htc
  have HV:=Hd (And.intro (show qe1 s tr=1 from by rw [qe1,if_pos hok,if_neg htr]) (show qd1 s tr=[] from if_neg fun h=>htr h.2))
  go_enter Tryz.func18,Tryz.ntmps18
  go_wp2_with fail
  refine (hcon _ bel).mono ?_
  rintro e w1 ⟨g,rfl,h1,hg,hS⟩
  go_wp2_with fail
  refine (htc _ bel).mono ?_
  rintro e w2 ⟨rfl,h2⟩
  go_wp2_with fail
  go_ret2
  rw [HV.out.1,HV.out.2]
  exact ⟨none,0,rfl,qab.nil ..,bel⟩
 rw [htr] at htc
 have HV:=Hd (And.intro (show qe1 s tr=errO (qbk s (qal s tr)) from by rw [qe1,if_pos hok,if_pos htr]) (show qd1 s tr=qbs (qbk s (qal s tr)) from if_pos ⟨hok,htr⟩))
 have hlen:tr.length<=4611686018427387903:=by simp [qbl] at htr;omega
 have hac:=fun W g (hg:qav (fun _=>True) W g s) (hW:Ext w W)=>qji (fun _=>True) s hok g tr _ W hg (qaa.good.bel (qaa.good.mono HT.out fun _ _ _=>trivial) hW) hlen
 have hal:(qal s tr).length<=1000000:=by have:=qny s tr;have:=hok.2.2.2.1;omega
 have hmc:=fun W g vs (hg:qav (fun _=>True) W g s) (hv:RSl qac 1 (fun _=>True) W (qal s tr) [vs])=>musts_c (fun _=>True) (fun _=>True) s hok g (qal s tr) vs W hg (fun _ _=>trivial) hv hal
 obtain ⟨r,hr⟩:∃ r,qbk s (qal s tr)=r:=⟨_,rfl⟩
 have hsub:=qnk s (qal s tr)
 have hml:=qk3 s (qal s tr)
 rw [hr] at HV hmc hsub hml
 clear hlen htr hal hr
 go_enter Tryz.func18,Tryz.ntmps18
 go_wp2_with fail
 refine (hcon _ bel).mono ?_
 rintro e w1 ⟨g,rfl,h1,hg,hS⟩
 have HS:=Hd hS
 clear hS
 go_wp2_with fail
 refine (htc _ bel).mono ?_
 rintro e w2 ⟨rfl,h2⟩
 go_wp2_with fail
 refine (hac _ g ((HS.out.mono fun _ _ _=>trivial).bel bel) bel).mono ?_
 rintro e w3 h3'
 obtain ⟨A3,c3,rfl,ho3,h3⟩:=h3'.at (b':=w.heap.size) (by have:=h1.size;have:=h2.size;simp at *;omega)
 have HO:=Hd ho3
 clear ho3 h3'
 go_wp2_with fail
 refine (hmc _ g _ ((HS.out.mono fun _ _ _=>trivial).bel bel) ((RSl.good qac.good).mono ((RSl.good qac.good).bel (HO.out.sl qac.good (by decide)) bel) fun _ _ _=>trivial)).mono ?_
 rintro e w4 ⟨A4,c4,rfl,ho4,h4⟩
 have hX4:Ext w w4:=bel
 have hz3:w.heap.size<=w3.heap.size:=by have:=h1.size;have:=h2.size;have:=h3.size;simp at *;omega
 have HO4:=Hd (ho4.base hz3)
 obtain ⟨l,hl⟩:∃ l,qbs r=l:=⟨_,rfl⟩
 rw [hl] at hsub hml HO4 HV ⊢
 clear ho4 hl HS HO h1 h2 h3 h4 hg hz3
 go_wp2_with fail
 go_loopw [31] (fun vi wr=>∃ k:Nat,k<=l.length∧vi = .int .i64 k∧qab qaa 1 22 w.heap.size (fun _=>True) wr l (.slice A4 l.length c4)∧Ext w wr) (fun vi _=>l.length-(intOf vi).toNat)
 case atStart=>exact ⟨0,Nat.zero_le _,rfl,HO4.out,hX4⟩
 case round =>
  obtain ⟨k,hk,rfl,hown,hE⟩:=hrel
  by_cases hlt:k<l.length
  ·obtain ⟨news,hrow,_⟩:=id hown
   obtain ⟨g2,cap,he⟩:=Joins.ownsRow_form hrow (by omega)
   injection he with he1 _ he2
   subst he1 he2
   have hgb:=qb1 hrow g2 rfl
   obtain ⟨u,gc,hr1,gf⟩:=hown.get1 k hlt
   have hcp:=qmc (fun b=>True∧b≠g2) l[k] u wr hr1 (fun x hx=>hsm x (hsub _ (List.getElem_mem hlt) x hx)) (by have:=hml.2 _ (List.getElem_mem hlt);omega)
   obtain ⟨Au,cu,rfl,_,_⟩:=hr1.val
   have HOW:=Hd hown
   clear hrow hr1 hown
   go_wp2_with fail
   refine hcp.mono ?_
   rintro e w5 ⟨A5,c5,rfl,hr5,hx5⟩
   have gc5:=Ext.keep hx5 gc
   have gf5:=qc6 hx5 (World.block_lt_of_cell? wr _ gc) gf
   have hsz5:=hx5.size
   have hput:=qab.put1 qaa.good (HOW.out.ext qaa.good hx5) rfl k (.slice A5 l[k].length c5) l[k] hlt (qaa.good.mono hr5 fun b _ hb=>⟨trivial,by
    rcases hb with h | h
    ·exact h.1.2
    ·omega⟩)
   rw [List.set_getElem_self] at hput
   have HP:=Hd hput
   clear hput hr5 hcp gc
   go_wp2_with fail
   go_roundw
   case rel=>exact ⟨k+1,by omega,by go_num,HP.out,(hE.trans' hx5).set hgb.1 _⟩
   case measure=>simp [intOf];omega
  ·have HOW:=Hd hown
   clear hown
   go_wp2_with fail
   go_ret2
   rw [HV.out.1,HV.out.2]
   exact ⟨A4,c4,rfl,HOW.out,hE⟩
end
end Go.Proofs.YtegenalcheooeaaGreat
