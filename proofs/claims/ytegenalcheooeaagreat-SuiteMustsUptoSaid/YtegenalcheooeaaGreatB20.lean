/- Of the proof of a law of the suites: Insert1, Insert, Added. -/
import Derived.Test.YtegenalcheooeaaGreatB10
import Derived.Test.YtegenalcheooeaaGreatB11
import Derived.Test.YtegenalcheooeaaGreatB12
import Derived.Test.YtegenalcheooeaaGreatB13
import Derived.Shelf.Spec.SlicesInsertGrow
set_option linter.unusedSectionVars false
set_option linter.unusedSimpArgs false
set_option linter.unusedVariables false
namespace Go.Proofs.YtegenalcheooeaaGreat
open Go.RowKit
attribute [local go_sem] cell?_exto
section

theorem qlk {P:Program} (w:World) (dT sT ty elem:TypeId) (k:Nat) (b o dLen dCap:Nat) (a:Addr) (sLen sCap m:Nat) (cs:List Value)
  (hu:P.underlying dT=some (.slice elem)) (hs:(P.info? elem).map (·.size)=some k) (hm:Nat.min sLen dLen=m) (hn:cs.length=m*k)
  (hsrc:∀ j v,cs[j]? = some v→w.cell? (a.add j)=some v) (hc:∀ j,j<cs.length→(w.cell? ⟨b,o+j,none⟩).isSome=true) (hf:∀ j,j<cs.length→w.frozen? ⟨b,o+j,none⟩=false) (h1:∀ v∈cs,v.oneCell'=true) :
  (Builtin.copy_ #[dT,sT] ty #[.slice (some ⟨b,o,none⟩) dLen dCap,.slice (some a) sLen sCap]).run P w = .ok (goInt m) (w.setCells b o cs):=by
 have hl:=run_loadCells_list (P:=P) w a cs hsrc
 have hst:=run_storeCells_cells (P:=P) b o cs 0 w (by simpa using hc) (by simpa using hf) h1
 rw [hn] at hl
 cases hq:P.info? elem with
 | none=>simp [hq] at hs
 | some i =>
  have hi:i.size=k:=by simpa [hq] using hs
  simp [Builtin.copy_,run_underlying hu,Builtin.lenOf,Builtin.firstCells,sizeOf,typeInfo,hq,hi,hm,hl,hst]
def setL:List Value→Nat→List Value→List Value
 | xs,_,[]=>xs
 | xs,o,v :: vs=>setL (xs.set o v) (o+1) vs
theorem qls:∀ (vs:List Value) (o:Nat) (xs:List Value),(setL xs o vs).length=xs.length
 | [],_,_=>rfl
 | v :: vs,o,xs=>by rw [setL,qls,List.length_set]
theorem qiz:∀ (vs:List Value) (o:Nat) (xs:List Value) (j:Nat),o+vs.length≤xs.length→(setL xs o vs)[j]? = if o≤j∧j<o+vs.length then vs[j-o]? else xs[j]?
 | [],o,xs,j,_=>by rw [setL,if_neg (by simp only [List.length_nil];omega)]
 | v :: vs,o,xs,j,h=>by
  simp only [List.length_cons] at h
  rw [setL,qiz vs (o+1) _ j (by rw [List.length_set];omega)]
  by_cases e:j=o
  ·subst e
   rw [if_neg (by omega),if_pos (by simp),Nat.sub_self,List.getElem?_set_self (by omega)]
   rfl
  ·by_cases h1:o+1≤j∧j<o+1+vs.length
   ·rw [if_pos h1,if_pos (by simp only [List.length_cons];omega),show j-o=(j-(o+1))+1 from by omega]
    rfl
   ·rw [if_neg h1,if_neg (by simp only [List.length_cons];omega),List.getElem?_set_ne (Ne.symm e)]
theorem qje {base size n cap g:Nat} {e:TypeId}:∀ (vs:List Value) (o:Nat) (w:World) (xs:List Value),w.ownsRow base e size (.slice (some ⟨g,0,none⟩) n cap) n xs →
  (w.setCells g o vs).ownsRow base e size (.slice (some ⟨g,0,none⟩) n cap) n (setL xs o vs)
 | [],o,w,xs,h=>h
 | v :: vs,o,w,xs,h=>qje vs (o+1) _ _ (h.stored o v).1
theorem qjb {g:Nat}:∀ (vs:List Value) (o:Nat) (w:World),Bt (fun b=>b=g) w (w.setCells g o vs)
 | [],_,w=>Bt.refl _ _
 | v :: vs,o,w=>((Bt.refl (fun b=>b=g) w).set (p:=⟨g,o,none⟩) (.inr rfl) v).trans (qjb vs (o+1) _)
theorem quc {w:World} {base size n m cap g:Nat} {e:TypeId} {xs:List Value} (h:w.ownsRow base e size (.slice (some ⟨g,0,none⟩) n cap) n xs) (hm:n≤m) (hc:m≤cap) :
  ∃ ys,ys.length=(m-n)*size∧w.ownsRow base e size (.slice (some ⟨g,0,none⟩) m cap) m (xs++ys):=by
 have hmn:n*size≤m*size:=Nat.mul_le_mul_right _ hm
 have hmc:m*size≤cap*size:=Nat.mul_le_mul_right _ hc
 have hsub:(m-n)*size=m*size-n*size:=Nat.sub_mul _ _ _
 rcases h.2 with ⟨h',_⟩ | ⟨g',cap',cur,h',hb,hg,hnc,hcm,hcs,htake⟩
 ·simp at h'
 ·simp only [Value.slice.injEq,Option.some.injEq,Addr.mk.injEq,and_true,true_and] at h'
  obtain ⟨rfl,rfl⟩:=h'
  refine ⟨(cur.toList.take (m*size)).drop (n*size),?_,?_,.inr ⟨g,cap,cur,rfl,hb,hg,hc,hcm,hcs,?_⟩⟩
  ·rw [List.length_drop,List.length_take,Array.length_toList,hcs,Nat.min_eq_left hmc];omega
  ·rw [List.length_append,h.1,List.length_drop,List.length_take,Array.length_toList,hcs,Nat.min_eq_left hmc];omega
  ·rw [← htake]
   have:=List.take_append_drop (n*size) (cur.toList.take (m*size))
   rw [List.take_take,Nat.min_eq_left hmn] at this
   exact this.symm
theorem ins_shift (xs ys vs:List Value) (p q:Nat) (hp:p≤xs.length) (hv:vs.length=q) (hy:ys.length=q):setL (setL (xs++ys) (p+q) (xs.drop p)) p vs=xs.take p++vs++xs.drop p:=by
 apply List.ext_getElem?
 intro j
 rw [qiz _ _ _ _ (by rw [qls,List.length_append];omega),qiz _ _ _ _ (by rw [List.length_append,List.length_drop];omega)]
 simp only [List.length_drop]
 by_cases h1:p≤j∧j<p+vs.length
 ·rw [if_pos h1,List.append_assoc,List.getElem?_append_right (by rw [List.length_take];omega),List.length_take,Nat.min_eq_left hp,List.getElem?_append_left (by omega)]
 ·rw [if_neg h1]
  by_cases h2:j<p
  ·rw [if_neg (by omega),List.getElem?_append_left (by omega),List.append_assoc,List.getElem?_append_left (by rw [List.length_take];omega),List.getElem?_take,if_pos h2]
  ·by_cases h3:j<p+q+(xs.length-p)
   ·rw [if_pos (by omega),List.getElem?_append_right (by rw [List.length_append,List.length_take];omega),List.length_append,List.length_take,Nat.min_eq_left hp,hv]
   ·rw [if_neg (by omega),List.getElem?_eq_none (by rw [List.length_append];omega),List.getElem?_eq_none (by simp only [List.length_append,List.length_take,List.length_drop];omega)]
theorem ins_grow (xs zs vs:List Value) (p q:Nat) (hp:p≤xs.length) (hv:vs.length=q) (hz:zs.length=q+(xs.length-p)):setL (setL (xs.take p++zs) p vs) (p+q) (xs.drop p)=xs.take p++vs++xs.drop p:=by
 apply List.ext_getElem?
 intro j
 have hl:(xs.take p++zs).length=xs.length+q:=by rw [List.length_append,List.length_take];omega
 rw [qiz _ _ _ _ (by rw [qls,hl,List.length_drop];omega),qiz _ _ _ _ (by rw [hl];omega)]
 simp only [List.length_drop]
 by_cases h1:p+q≤j∧j<p+q+(xs.length-p)
 ·rw [if_pos h1,List.getElem?_append_right (by rw [List.length_append,List.length_take];omega),List.length_append,List.length_take,Nat.min_eq_left hp,hv]
 ·rw [if_neg h1]
  by_cases h2:p≤j∧j<p+vs.length
  ·rw [if_pos h2,List.append_assoc,List.getElem?_append_right (by rw [List.length_take];omega),List.length_take,Nat.min_eq_left hp,List.getElem?_append_left (by omega)]
  ·rw [if_neg h2]
   by_cases h3:j<p
   ·rw [List.getElem?_append_left (by rw [List.length_take];omega),List.append_assoc,List.getElem?_append_left (by rw [List.length_take];omega)]
   ·rw [List.getElem?_eq_none (by rw [hl];omega),List.getElem?_eq_none (by simp only [List.length_append,List.length_take,List.length_drop];omega)]
theorem Flat.drop {α:Type} {R:Rdr α} {k:Nat} {S:Nat→Prop} {w:World}:∀ {xs:List α} {cs:List Value} (m:Nat),Flat R k S w xs cs→Flat R k S w (xs.drop m) (cs.drop (m*k))
 | xs,cs,0,h=>by simpa using h
 | [],cs,m+1,h=>by rw [show cs=[] from h];simp [Flat]
 | x :: xs,cs,m+1,⟨c1,c2,h1,h2,h3,h4⟩=>by
  have:=Flat.drop m h4
  rw [List.drop_succ_cons,h1,List.drop_append,List.drop_of_length_le (l:=c1) (by rw [h2,Nat.add_mul];omega),List.nil_append]
  rwa [show (m+1)*k-c1.length=m*k from by rw [h2,Nat.add_mul];omega]
end
section
set_option maxHeartbeats 1000000
set_option maxRecDepth 100000
/- slices.Insert at labels: walked. -/
open Go.Shelf
def qi3 (base:Nat) (T:Nat→Prop) (r:List Lb) (v:Value) (w:World) (e:Ending) (w':World):Prop :=
 ∃ A c,e = .returned (.slice A r.length c)∧qab RLb 2 61 base T w' r (.slice A r.length c)∧Bt (fun b=>v.ownBlock=some b) w w'
theorem qt8 (base:Nat) (T:Nat→Prop) (l:List Lb) (x:Lb) (v vx:Value) (vb:Nat) (w:World) (hown:qab RLb 2 61 base T w l v) (hT:∀ b,T b→b<base) (hbase:base≤w.heap.size)
  (hvb:w.heap[vb]? = some (.cells #[.int .i64 x.g,vx] 61 (0,0))) (hx:RLb T w x [.int .i64 x.g,vx]) (hlen:l.length≤1000000) :
  Calls Tryz.prog 214 #[v,.int .i64 (l.length:Int),.slice (some ⟨vb,0,none⟩) 1 1] w (qi3 base T (l++[x]) v w):=by
 obtain ⟨A,c,rfl,hc,hc0⟩:=(hown.sl RLb.good (by decide)).val
 obtain ⟨i3,hi3,hzz⟩:=Option.map_eq_some_iff.1 qi4
 simp only [Prod.mk.injEq] at hzz
 obtain ⟨hz0,hz1,hz2⟩:=hzz
 have hcc:∀ j u,[Value.int .i64 x.g,vx][j]? = some u→w.cell? ((⟨vb,0,none⟩:Addr).add j)=some u:=fun j u h=>by
  rw [Addr.add_lit,Nat.zero_add]
  exact (cell_of_row _ _ j _ _ _ hvb).trans (by simpa using h)
 have h1c:=RLb.good.one hx
 have hne:∀ q,T q→(Value.slice A l.length c).ownBlock≠some q:=fun q hq e=>by
  obtain ⟨news,h1,_⟩:=hown
  have:=(qbt h1 q e).1
  have:=hT q hq
  omega
 have hG:Flat RLb 2 (fun b=>T b∧(Value.slice A l.length c).ownBlock≠some b) w [x] [.int .i64 x.g,vx]:=Flat.single (RLb.good.mono hx fun q _ hq=>⟨hq,hne q hq⟩) rfl
 obtain ⟨news,hrow,hF⟩:=hown
 have HF:=Hd hF
 have HG:=Hd hG
 clear hF hG hx hne hvb
 by_cases hcl:c=l.length
 ·subst hcl
  go_enter Tryz.func214,Tryz.ntmps214
  go_wp2_with (at_builtin;refine wpList_append_own_at _ rfl _ _ 22 rfl base 61 i3 _ 2 32 Tryz.underlying22 hi3 hz0 hz1 hz2 rfl (by decide) _ _ _ rfl hrow ⟨vb,0,none⟩ 1 1 [.int .i64 x.g,vx] rfl rfl hcc h1c (by unfold maxLen;omega) (by omega) hbase ?_)
  intro v' w1 hown hg hnil hat
  obtain ⟨g5,c5,rfl⟩:=ownsRow_succ hown
  go_wp2
  go_ret
  refine ⟨some ⟨g5,0,none⟩,c5,by rw [List.length_append];rfl,?_,(Bt.of_grown hg).mono fun k _ h=>h.symm⟩
  rw [List.length_append]
  exact qab.push RLb.good HF.out HG.out hown hg hat
 ·skip
  go_enter Tryz.func214,Tryz.ntmps214
  go_wp2_with (at_builtin;refine wpList_append_own_at _ rfl _ _ 22 rfl base 61 i3 _ 2 32 Tryz.underlying22 hi3 hz0 hz1 hz2 rfl (by decide) _ _ _ rfl hrow ⟨vb,0,none⟩ 1 1 [.int .i64 x.g,vx] rfl rfl hcc h1c (by unfold maxLen;omega) (by omega) hbase ?_)
  intro v' w1 hown hg hnil hat
  obtain ⟨g5,c5,rfl⟩:=ownsRow_succ hown
  go_wp2
  go_ret
  refine ⟨some ⟨g5,0,none⟩,c5,by rw [List.length_append];rfl,?_,(Bt.of_grown hg).mono fun k _ h=>h.symm⟩
  rw [List.length_append]
  exact qab.push RLb.good HF.out HG.out hown hg hat
theorem qvi (base:Nat) (T:Nat→Prop) (l:List Lb) (x:Lb) (v vx:Value) (vb i:Nat) (w:World) (hown:qab RLb 2 61 base T w l v) (hT:∀ b,T b→b<base) (hbase:base≤w.heap.size)
  (hvb:w.heap[vb]? = some (.cells #[.int .i64 x.g,vx] 61 (0,0))) (hvo:v.ownBlock≠some vb) (hx:RLb T w x [.int .i64 x.g,vx]) (hlen:l.length≤1000000) (hi:i<l.length) :
  Calls Tryz.prog 214 #[v,.int .i64 (i:Int),.slice (some ⟨vb,0,none⟩) 1 1] w (qi3 base T (l.take i++[x]++l.drop i) v w):=by
 obtain ⟨g,c,rfl⟩:∃ g cap,v = .slice (some ⟨g,0,none⟩) l.length cap:=by
  obtain ⟨news,h1,_⟩:=hown
  exact Joins.ownsRow_form h1 (by omega)
 obtain ⟨news,hrow,hF⟩:=hown
 have hgb:=(qbt hrow g rfl).1
 have hgl:=(qbt hrow g rfl).2
 have hvl:vb<w.heap.size:=(Array.getElem?_eq_some_iff.1 hvb).1
 have hvg:vb≠g:=fun e=>hvo (by rw [e];rfl)
 obtain ⟨cur,hcur,hcs,hcc,hcm⟩:∃ cur:Array Value,w.heap[g]? = some (.cells cur 61 (0,0))∧cur.size=c*2∧l.length≤c∧c≤maxLen:=by
  rcases hrow.2 with ⟨h',_⟩ | ⟨g',cap',cur,h',hb,hg,hnc,hcm,hcs,htake⟩
  ·simp at h'
  ·simp only [Value.slice.injEq,Option.some.injEq,Addr.mk.injEq,and_true,true_and] at h'
   obtain ⟨rfl,rfl⟩:=h'
   exact ⟨cur,hg,hcs,hnc,hcm⟩
 have hov:∀ o lb cb,(callFunc 259 #[.slice (some ⟨vb,0,none⟩) 1 1,.slice (some ⟨g,o,none⟩) lb cb]).run Tryz.prog w = .ok (.value (.bool false)) w:=fun o lb cb=>by
  rw [run_callFunc_extern Tryz.func259 (by kernel_rfl) (by kernel_rfl) (by kernel_rfl) (e:=Extern.SlicesOverlaps.overlaps #[22,22] #[4]) (by kernel_rfl),
   Lib.run_overlaps_apart w 22 4 61 Tryz.underlying22 2 (fun _=>by kernel_rfl) ⟨vb,0,none⟩ ⟨g,o,none⟩ 1 1 lb cb hvg 61 61 2 (c*2) (by simp [World.shape?,hvb]) (by simp [World.shape?,hcur,hcs]) (by omega) (frozen_of_row w vb 0 _ _ hvb) (frozen_of_row w vb 2 _ _ hvb)]
  rfl
 have hx2:RLb (fun b=>T b∧b≠g) w x [.int .i64 x.g,vx]:=RLb.good.mono hx fun q _ hq=>⟨hq,fun e=>by have:=hT q hq;omega⟩
 have hz2:¬ ((i:Int)=(l.length:Int)):=by omega
 by_cases hroom:l.length+1≤c
 ·have hz3:¬ ((c:Int)<(l.length:Int)+1):=by omega
  have mixed:Tryz.prog.follows .mixedOrders=true:=by kernel_rfl
  have hb1:(0:Int)≤(i:Int)+1:=by omega
  have htn:((i:Int)+1).toNat=i+1:=by omega
  have hw1:IntKind.i64.wrap ((i:Int)+1)=(i:Int)+1:=by rw [IntKind.wrap_i64];omega
  have hb2:¬ (c=i+1):=by omega
  have hb3:(i:Int)≤(l.length:Int)+1:=by omega
  have hb4:¬ (c=i):=by omega
  have hin:i≤l.length:=by omega
  have hnl:news.length=l.length*2:=hF.len
  have hdl:(news.drop (i*2)).length=(l.length-i)*2:=by rw [List.length_drop,hnl,Nat.sub_mul]
  have hsz:(Tryz.prog.info? 61).map (·.size)=some 2:=by kernel_rfl
  have h1n:=hF.one RLb.good
  have hsp:∀ q,q<(l.length+1)*2→(w.cell? ⟨g,q,none⟩).isSome=true:=fun q hq=>by
   rw [cell_of_row w g q _ _ _ hcur,Array.getElem?_eq_getElem (by omega)]
   rfl
  have hcp1:∀ ty dl dc sl sc,Nat.min sl dl=l.length-i→(Builtin.copy_ #[22,22] ty #[.slice (some ⟨g,(i+1)*2,none⟩) dl dc,.slice (some ⟨g,i*2,none⟩) sl sc]).run Tryz.prog w.drew = .ok (goInt (l.length-i:Nat)) (w.drew.setCells g ((i+1)*2) (news.drop (i*2))):=fun ty dl dc sl sc hm =>
   qlk w.drew _ _ ty 61 2 g _ dl dc ⟨g,i*2,none⟩ sl sc (l.length-i) (news.drop (i*2)) Tryz.underlying22 hsz hm hdl
    (fun j u hj=>by
     rw [List.getElem?_drop] at hj
     have hjl:=(List.getElem?_eq_some_iff.1 hj).1
     rw [Addr.add_lit]
     exact (hrow.cellAt (i*2+j) (by omega)).trans hj)
    (fun j hj=>hsp _ (by omega)) (fun j hj=>hrow.frozenAt _) (fun u hu=>h1n u (List.mem_of_mem_drop hu))
  have hcp2:∀ W,(∀ a,W.cell? a=(w.drew.setCells g ((i+1)*2) (news.drop (i*2))).cell? a)→(∀ a,W.frozen? a=(w.drew.setCells g ((i+1)*2) (news.drop (i*2))).frozen? a)→∀ ty dl dc,Nat.min 1 dl=1→(Builtin.copy_ #[22,22] ty #[.slice (some ⟨g,i*2,none⟩) dl dc,.slice (some ⟨vb,0,none⟩) 1 1]).run Tryz.prog W = .ok (goInt (1:Nat)) (W.setCells g (i*2) [.int .i64 x.g,vx]):=fun W h1 h2 ty dl dc hm =>
   qlk W _ _ ty 61 2 g _ dl dc ⟨vb,0,none⟩ 1 1 1 [.int .i64 x.g,vx] Tryz.underlying22 hsz hm rfl
    (fun j u hj=>by
     rw [Addr.add_lit,Nat.zero_add,h1,World.cell?_setCells_out g _ _ _ _ (fun h _=>absurd h hvg)]
     exact (cell_of_row _ _ j _ _ _ hvb).trans (by simpa using hj))
    (fun j hj=>by
     rw [h1]
     exact World.isSome_setCells g _ _ _ _ (hsp _ (by simp at hj;omega)))
    (fun j hj=>by rw [h2,World.frozen?_setCells];exact hrow.frozenAt _) (RLb.good.one hx)
  obtain ⟨ys,hys,hlong⟩:=quc hrow (Nat.le_add_right _ 1) hroom
  have hfin:=qje [.int .i64 x.g,vx] (i*2) _ _ (qje (news.drop (i*2)) ((i+1)*2) _ _ (World.ownsRow.drew hlong))
  rw [show (i+1)*2=i*2+2 from by omega,ins_shift news ys [.int .i64 x.g,vx] (i*2) 2 (by omega) rfl (by rw [hys,Nat.add_sub_cancel_left]),← show (i+1)*2=i*2+2 from by omega] at hfin
  have hmin:Nat.min (l.length+1-i) (l.length-i)=l.length-i:=Nat.min_eq_right (by omega)
  have hmin2:Nat.min 1 (l.length+1-i)=1:=Nat.min_eq_left (by omega)
  go_enter Tryz.func214,Tryz.ntmps214
  go_wp2_with (simp only [hov])
  go_region_law_o (refine step_copy_runI rfl _ _ 22 22 rfl (.slice (some ⟨g,(i+1)*2,none⟩) (l.length-i) (c-(i+1))) (.slice (some ⟨g,i*2,none⟩) (l.length+1-i) (c-i)) (by simp [Act.eval,Act.put]) (by simp [Act.eval,Act.put]) (hcp1 _ _ _ _ _ hmin) ?_)
  go_wp2_with (at_builtin;refine wpList_copy_runI _ rfl _ _ 22 22 rfl _ _ rfl rfl (hcp2 _ (fun _=>rfl) (fun _=>rfl) _ _ _ hmin2) ?_)
  go_ret
  have hrl:(l.take i++[x]++l.drop i).length=l.length+1:=by simp only [List.length_append,List.length_take,List.length_drop,List.length_cons,List.length_nil];omega
  have hbt:Bt (fun b=>b=g) w ((w.drew.setCells g ((i+1)*2) (news.drop (i*2))).setCells g (i*2) [.int .i64 x.g,vx]):=((Bt.refl (fun b=>b=g) w).drew.trans (qjb _ _ _)).trans (qjb _ _ _)
  refine ⟨some ⟨g,0,none⟩,c,by rw [hrl];rfl,⟨news.take (i*2)++[.int .i64 x.g,vx]++news.drop (i*2),by rw [hrl];exact hfin,?_⟩,hbt.mono fun b _ h=>by rw [h];rfl⟩
  rw [qfs]
  rw [qfs] at hF
  exact (((hF.take i).append (Flat.single hx2 rfl)).append (hF.drop i)).imp fun y _ cs hy=>RLb.good.move hy (hbt.kp fun b _ hb=>hb.2)
 ·have hcl:c=l.length:=by omega
  subst hcl
  have hnl:news.length=l.length*2:=hF.len
  obtain ⟨i3,hi3,hzz⟩:=Option.map_eq_some_iff.1 qi4
  simp only [Prod.mk.injEq] at hzz
  obtain ⟨hz0,hzs,hzb⟩:=hzz
  have mixed:Tryz.prog.follows .mixedOrders=true:=by kernel_rfl
  have hw1:IntKind.i64.wrap ((i:Int)+1)=(i:Int)+1:=by rw [IntKind.wrap_i64];omega
  have hb1:(0:Int)≤(i:Int)+1:=by omega
  have htn:((i:Int)+1).toNat=i+1:=by omega
  have hin:i≤l.length:=by omega
  have hin2:(i:Int)≤(l.length:Int):=by omega
  have hci:¬ (l.length=i):=by omega
  have hold:(Builtin.firstCells i3.size i (.slice (some ⟨g,0,none⟩) i l.length)).run Tryz.prog w.drew = .ok (news.take (i*2)).toArray w.drew:=by
   rw [hzs]
   exact run_firstCells_some w.drew 2 i ⟨g,0,none⟩ i l.length (news.take (i*2)) (by rw [List.length_take];omega) (fun j u hj=>by
    rw [Addr.add_lit,Nat.zero_add]
    have hjl:=(List.getElem?_eq_some_iff.1 hj).1
    rw [List.length_take] at hjl
    rw [List.getElem?_take,if_pos (by omega)] at hj
    exact (hrow.cellAt j (by omega)).trans hj)
  have hkk:(l.length:Int)+1-(i:Int)=((l.length+1-i:Nat):Int):=by omega
  have hik:i+(l.length+1-i)=l.length+1:=by omega
  have hrz:∀ ty,(Builtin.append_ #[22,3] ty #[.slice (some ⟨g,0,none⟩) i l.length,.int .i64 ((l.length:Int)+1-(i:Int))]).run Tryz.prog w =
    .ok (.slice (some ⟨w.heap.size,0,none⟩) (l.length+1) (grownCap w (l.length+1) l.length 61)) (w.drew.alloc (.cells ((news.take (i*2)).toArray++Builtin.zeroCells (Value.agg #[.int .i64 0,.slice none 0 0]).cells (l.length+1-i)++Builtin.zeroCells (Value.agg #[.int .i64 0,.slice none 0 0]).cells (grownCap w (l.length+1) l.length 61-(l.length+1))) 61)):=fun ty=>by
   have h:=Lib.run_append_grow_zeros w 22 3 ty 61 i3 _ .i64 .i64 Tryz.underlying22 Tryz.underlying3 hi3 hz0 (some ⟨g,0,none⟩) i l.length (news.take (i*2)) hold (l.length+1-i) (by omega) (by omega) (by omega) (by omega) (by rw [hzb];omega) (by rw [hzb,hik];exact growslice_fits (by omega) (by omega))
   rw [hik] at h
   rw [hkk]
   exact h
  obtain ⟨G,hG⟩:∃ G,G=grownCap w (l.length+1) l.length 61:=⟨_,rfl⟩
  have hGn:l.length+1≤G:=by rw [hG];exact grownCap_ge w _ _ _
  have hGm:G≤maxLen:=by rw [hG];exact grownCap_le_maxLen w _ _ _ (by unfold maxLen;omega)
  obtain ⟨zs,hzs1,hzs2⟩:∃ zs:List Value,zs=(Builtin.zeroCells (Value.agg #[.int .i64 0,.slice none 0 0]).cells (l.length+1-i)).toList∧zs.length=(l.length+1-i)*2:=⟨_,rfl,by simp [Builtin.zeroCells,Value.cells,Nat.mul_comm]⟩
  obtain ⟨ROW,hROW⟩:∃ ROW:Array Value,ROW=(news.take (i*2)).toArray++Builtin.zeroCells (Value.agg #[.int .i64 0,.slice none 0 0]).cells (l.length+1-i)++Builtin.zeroCells (Value.agg #[.int .i64 0,.slice none 0 0]).cells (G-(l.length+1)):=⟨_,rfl⟩
  rw [← hG,← hROW] at hrz
  have hRs:ROW.size=G*2:=by
   rw [hROW]
   simp [Builtin.zeroCells,Value.cells,hnl]
   omega
  have hRt:ROW.toList.take ((l.length+1)*2)=news.take (i*2)++zs:=by
   rw [hROW,hzs1]
   simp only [Array.toList_append]
   exact List.take_left' (by rw [← hzs1,List.length_append,hzs2,List.length_take];omega)
  have hown2:(w.alloc (.cells ROW 61)).ownsRow base 61 2 (.slice (some ⟨w.heap.size,0,none⟩) (l.length+1) G) (l.length+1) (news.take (i*2)++zs) :=
   ⟨by rw [List.length_append,hzs2,List.length_take];omega,.inr ⟨w.heap.size,G,ROW,rfl,hbase,World.alloc_heap_new w _,hGn,hGm,hRs,hRt⟩⟩
  have hfin:=qje (news.drop (i*2)) ((i+1)*2) _ _ (World.ownsRow.drew (qje [.int .i64 x.g,vx] (i*2) _ _ (World.ownsRow.drew hown2)))
  rw [show (i+1)*2=i*2+2 from by omega,ins_grow news zs [.int .i64 x.g,vx] (i*2) 2 (by omega) rfl (by rw [hzs2];omega),← show (i+1)*2=i*2+2 from by omega] at hfin
  have h1n:=hF.one RLb.good
  have hsz:(Tryz.prog.info? 61).map (·.size)=some 2:=by kernel_rfl
  have hdl:(news.drop (i*2)).length=(l.length-i)*2:=by rw [List.length_drop,hnl,Nat.sub_mul]
  have hN:∀ q,q<(l.length+1)*2→((w.drew.alloc (.cells ROW 61)).cell? ⟨w.heap.size,q,none⟩).isSome=true:=fun q hq=>by
   rw [World.cell?_alloc_at (w:=w.drew) ROW _ w.heap.size q rfl,Array.getElem?_eq_getElem (by omega)];rfl
  have hNf:∀ q,(w.drew.alloc (.cells ROW 61)).frozen? ⟨w.heap.size,q,none⟩=false:=fun q=>World.frozen?_alloc_at (w:=w.drew) ROW _ w.heap.size q rfl
  have hcpA:∀ W:World,(∀ a,W.cell? a=(w.drew.alloc (.cells ROW 61)).cell? a)→(∀ a,W.frozen? a=(w.drew.alloc (.cells ROW 61)).frozen? a)→∀ ty dc,(Builtin.copy_ #[22,22] ty #[.slice (some ⟨w.heap.size,i*2,none⟩) (l.length+1-i) dc,.slice (some ⟨vb,0,none⟩) 1 1]).run Tryz.prog W = .ok (goInt (1:Nat)) (W.setCells w.heap.size (i*2) [.int .i64 x.g,vx]):=fun W h1 h2 ty dc =>
   qlk W _ _ ty 61 2 w.heap.size _ _ dc ⟨vb,0,none⟩ 1 1 1 [.int .i64 x.g,vx] Tryz.underlying22 hsz (Nat.min_eq_left (by omega)) rfl
    (fun j u hj=>by
     rw [Addr.add_lit,Nat.zero_add,h1,World.cell?_alloc_past (w:=w.drew) _ vb j hvl]
     exact (cell_of_row w _ j _ _ _ hvb).trans (by simpa using hj))
    (fun j hj=>by rw [h1];exact hN _ (by simp at hj;omega)) (fun j hj=>by rw [h2];exact hNf _) (RLb.good.one hx)
  have hcpB:∀ W:World,(∀ a,W.cell? a=((w.drew.alloc (.cells ROW 61)).setCells w.heap.size (i*2) [.int .i64 x.g,vx]).cell? a)→(∀ a,W.frozen? a=((w.drew.alloc (.cells ROW 61)).setCells w.heap.size (i*2) [.int .i64 x.g,vx]).frozen? a)→∀ ty dc sc,(Builtin.copy_ #[22,22] ty #[.slice (some ⟨w.heap.size,(i+1)*2,none⟩) (l.length-i) dc,.slice (some ⟨g,i*2,none⟩) (l.length-i) sc]).run Tryz.prog W = .ok (goInt (l.length-i:Nat)) (W.setCells w.heap.size ((i+1)*2) (news.drop (i*2))):=fun W h1 h2 ty dc sc =>
   qlk W _ _ ty 61 2 w.heap.size _ _ dc ⟨g,i*2,none⟩ _ sc (l.length-i) (news.drop (i*2)) Tryz.underlying22 hsz (Nat.min_self _) hdl
    (fun j u hj=>by
     rw [List.getElem?_drop] at hj
     have hjl:=(List.getElem?_eq_some_iff.1 hj).1
     rw [Addr.add_lit,h1,World.cell?_setCells_out _ _ _ _ _ (fun h _=>absurd h (Nat.ne_of_lt hgl)),World.cell?_alloc_past (w:=w.drew) _ g _ hgl]
     exact (hrow.cellAt (i*2+j) (by omega)).trans hj)
    (fun j hj=>by rw [h1];exact World.isSome_setCells _ _ _ _ _ (hN _ (by omega))) (fun j hj=>by rw [h2,World.frozen?_setCells];exact hNf _) (fun u hu=>h1n u (List.mem_of_mem_drop hu))
  have hE1:∀ a,((w.alloc (.cells ROW 61)).drew).cell? a=(w.drew.alloc (.cells ROW 61)).cell? a:=fun _=>rfl
  have hE2:∀ a,((w.alloc (.cells ROW 61)).drew).frozen? a=(w.drew.alloc (.cells ROW 61)).frozen? a:=fun _=>rfl
  have hF1:∀ a,(((w.alloc (.cells ROW 61)).drew.setCells w.heap.size (i*2) [.int .i64 x.g,vx]).drew).cell? a=((w.drew.alloc (.cells ROW 61)).setCells w.heap.size (i*2) [.int .i64 x.g,vx]).cell? a:=fun _=>rfl
  have hF2:∀ a,(((w.alloc (.cells ROW 61)).drew.setCells w.heap.size (i*2) [.int .i64 x.g,vx]).drew).frozen? a=((w.drew.alloc (.cells ROW 61)).setCells w.heap.size (i*2) [.int .i64 x.g,vx]).frozen? a:=fun _=>rfl
  have hGi:¬ (G=i):=by omega
  have hGi1:¬ (G=i+1):=by omega
  have HFIN:=Hd hfin
  have HFL:=Hd hF
  have hrl:(l.take i++[x]++l.drop i).length=l.length+1:=by simp only [List.length_append,List.length_take,List.length_drop,List.length_cons,List.length_nil];omega
  have HRL:=Hd hrl
  have HX2:=Hd hx2
  clear hG hkk hik hold hROW hRs hRt hown2 hfin hF hrl hx2 hN hNf hdl h1n hzs1 hzs2
  go_enter Tryz.func214,Tryz.ntmps214
  go_wp2_with (first
   | (at_builtin;refine Lib.wpList_append_run _ rfl _ _ _ _ rfl _ _ rfl rfl _ _ (hrz _) ?_)
   | (at_builtin;refine wpList_copy_runI _ rfl _ _ 22 22 rfl _ _ rfl rfl (hcpA _ hE1 hE2 _ _) ?_))
  go_region_law_o (refine step_copy_runI rfl _ _ 22 22 rfl (.slice (some ⟨w.heap.size,(i+1)*2,none⟩) (l.length-i) (G-(i+1))) (.slice (some ⟨g,i*2,none⟩) (l.length-i) (l.length-i)) (by simp [Act.eval,Act.put]) (by simp [Act.eval,Act.put]) (hcpB _ hF1 hF2 3 (G-(i+1)) (l.length-i)) ?_)
  go_wp2
  go_ret
  have hX:Ext w ((((w.alloc (.cells ROW 61)).drew.setCells w.heap.size (i*2) [.int .i64 x.g,vx]).drew).setCells w.heap.size ((i+1)*2) (news.drop (i*2))) :=
   Bt.new (Z:=fun b=>b=w.heap.size) ((Ext.refl w).alloc (.cells ROW 61)).drew ((qjb _ _ _).trans (((Bt.refl (fun b=>b=w.heap.size) _).drew).trans (qjb _ _ _))) fun q _ hq=>Nat.le_of_eq hq.symm
  refine ⟨some ⟨w.heap.size,0,none⟩,G,by rw [HRL.out];rfl,⟨news.take (i*2)++[.int .i64 x.g,vx]++news.drop (i*2),by rw [HRL.out];exact HFIN.out,?_⟩,hX.bt⟩
  rw [qfs]
  have hF:=HFL.out
  rw [qfs] at hF
  exact (((hF.take i).append (Flat.single HX2.out rfl)).append (hF.drop i)).imp fun y _ cs hy=>RLb.good.bel (RLb.good.mono hy fun b hb h=>⟨h.1,by omega⟩) hX
end
section
open Go.Shelf
theorem qqo (base:Nat) (T:Nat→Prop) (l:List Lb) (x:Lb) (v vx:Value) (vb i:Nat) (w:World) (hown:qab RLb 2 61 base T w l v) (hT:∀ b,T b→b<base) (hbase:base≤w.heap.size)
  (hvb:w.heap[vb]? = some (.cells #[.int .i64 x.g,vx] 61 (0,0))) (hvo:v.ownBlock≠some vb) (hx:RLb T w x [.int .i64 x.g,vx]) (hlen:l.length≤1000000) (hi:i≤l.length) :
  Calls Tryz.prog 214 #[v,.int .i64 (i:Int),.slice (some ⟨vb,0,none⟩) 1 1] w (qi3 base T (l.take i++[x]++l.drop i) v w):=by
 by_cases h:i<l.length
 ·exact qvi base T l x v vx vb i w hown hT hbase hvb hvo hx hlen h
 ·obtain rfl:i=l.length:=by omega
  rw [List.take_length,List.drop_length,List.append_nil]
  exact qt8 base T l x v vx vb w hown hT hbase hvb hx hlen
def qci (l:List Lb) (x:Lb):List Lb:=l.take (qch l x)++[x]++l.drop (qch l x)
theorem bsLb_le (l:List Lb) (x:Lb):qch l x≤l.length:=(qjj _ _ 0 l.length (Nat.zero_le _)).2
set_option maxHeartbeats 1000000 in
set_option maxRecDepth 100000 in
theorem added_c (S:Nat→Prop) (l:List Lb) (x:Lb) (v vx:Value) (w:World) (hl:qaa S w l [v]) (hx:RLb S w x [.int .i64 x.g,vx]) (hlen:l.length≤1000000) :
  Calls Tryz.prog 147 #[v,.agg #[.int .i64 x.g,vx]] w fun e w'=>∃ A c,e = .returned (.slice A (qci l x).length c)∧qab RLb 2 61 w.heap.size (fun q=>S q∧q<w.heap.size) w' (qci l x) (.slice A (qci l x).length c)∧Ext w w':=by
 obtain ⟨T,hT⟩:∃ T:Nat→Prop,T=fun q=>S q∧q<w.heap.size:=⟨_,rfl⟩
 have hl':qaa T w l [v]:=by rw [hT];exact qaa.good.mono hl fun b h1 h2=>⟨h2,h1⟩
 have hx':RLb T w x [.int .i64 x.g,vx]:=by rw [hT];exact RLb.good.mono hx fun b h1 h2=>⟨h2,h1⟩
 have hT':∀ b,T b→b<w.heap.size+1:=fun b hb=>by rw [hT] at hb;have:=hb.2;omega
 rw [← hT]
 have hbs:=fun W (hW:qaf w W)=>qol T l x v _ W (qaa.good.ext hl' hW) (RLb.good.ext hx' hW) (by omega)
 obtain ⟨A,c,rfl,_,_⟩:=hl.val
 obtain ⟨_,vx',hvx',hvx⟩:=id hx
 simp only [List.cons.injEq,true_and,and_true] at hvx'
 obtain rfl:=hvx'
 obtain ⟨Ax,cx,rfl,_,_⟩:=hvx.val
 have HL:=Hd hl'
 have HX:=Hd hx'
 have hle:=bsLb_le l x
 clear hl hx hvx hl' hx'
 go_enter Tryz.func147,Tryz.ntmps147
 go_wp2_with fail
 refine (hbs _ qaj).mono ?_
 rintro e w1 ⟨rfl,h1⟩
 have hc1:=h1.ext.cells
 have hX1:Ext w w1:=Ext.trans' ((Ext.refl w).alloc _) h1.ext
 have hz1:w.heap.size+1≤w1.heap.size:=by have:=h1.ext.size;simp at this;omega
 go_wp2_with fail
 have b0:w1.cell? ⟨w.heap.size,0,none⟩=some (.int .i64 x.g):=by rw [h1.ext.cell (by simp)];simp
 have b1:w1.cell? ⟨w.heap.size,1,none⟩=some (.slice Ax x.v.length cx):=by rw [h1.ext.cell (by simp)];simp
 have keyA:∀ (w2:World) (A2:Option Addr) (c2:Nat),qab RLb 2 61 (World.heap w1.drew).size T w2 l (.slice A2 l.length c2)→Ext w1.drew w2→Ext w (w2.alloc (.cells #[.int .i64 x.g,.slice Ax x.v.length cx] 61))∧(Value.slice A2 l.length c2).ownBlock≠some w.heap.size∧(∀ b,(Value.slice A2 l.length c2).ownBlock=some b→w1.heap.size≤b) ∧
   Calls Tryz.prog 214 #[.slice A2 l.length c2,.int .i64 (qch l x:Int),.slice (some ⟨w2.heap.size,0,none⟩) 1 1] (w2.alloc (.cells #[.int .i64 x.g,.slice Ax x.v.length cx] 61)) (qi3 w1.heap.size T (qci l x) (.slice A2 l.length c2) (w2.alloc (.cells #[.int .i64 x.g,.slice Ax x.v.length cx] 61))):=fun w2 A2 c2 ho hx=>by
  have hsz2:w1.heap.size≤w2.heap.size:=by have:=hx.size;exact this
  have hob:∀ b,(Value.slice A2 l.length c2).ownBlock=some b→w1.heap.size≤b∧b<w2.heap.size:=fun b hb=>by
   obtain ⟨news,h9,_⟩:=ho
   have h10:=qbt h9 b hb
   exact h10
  have hXw2:Ext w w2:=hX1.trans' (Ext.trans' (Ext.refl w1).drew hx)
  exact ⟨hXw2.alloc _,fun e=>by have:=(hob _ e).1;omega,fun b hb=>(hob b hb).1,qqo w1.heap.size T l x (.slice A2 l.length c2) (.slice Ax x.v.length cx) w2.heap.size (qch l x) _ (ho.ext RLb.good ((Ext.refl _).alloc _)) (fun b hb=>Nat.lt_of_lt_of_le (hT' b hb) hz1) (by simp;omega) (World.alloc_heap_new _ _) (fun e=>by have:=(hob _ e).2;omega) (RLb.good.bel HX.out (hXw2.alloc _)) hlen hle⟩
 have keyB:∀ (w2:World) (A2:Option Addr) (c2:Nat),qab RLb 2 61 (World.heap (w1.alloc (.cells #[.int .i64 x.g,.slice Ax x.v.length cx] 61)).drew).size T w2 l (.slice A2 l.length c2)→Ext (w1.alloc (.cells #[.int .i64 x.g,.slice Ax x.v.length cx] 61)).drew w2→Ext w w2∧(Value.slice A2 l.length c2).ownBlock≠some w.heap.size∧(∀ b,(Value.slice A2 l.length c2).ownBlock=some b→w1.heap.size≤b) ∧
   Calls Tryz.prog 214 #[.slice A2 l.length c2,.int .i64 (qch l x:Int),.slice (some ⟨w1.heap.size,0,none⟩) 1 1] w2 (qi3 w1.heap.size T (qci l x) (.slice A2 l.length c2) w2):=fun w2 A2 c2 ho hx=>by
  have hsz2:w1.heap.size≤w2.heap.size:=by have:=hx.size;have h:(w1.alloc (.cells #[.int .i64 x.g,.slice Ax x.v.length cx] 61)).drew.heap.size=w1.heap.size+1:=(by show (World.heap (w1.alloc _)).size=_;simp);omega
  have hob:∀ b,(Value.slice A2 l.length c2).ownBlock=some b→w1.heap.size≤b∧b<w2.heap.size∧w1.heap.size+1≤b:=fun b hb=>by
   obtain ⟨news,h9,_⟩:=ho
   have h10:=qbt h9 b hb
   have h:(w1.alloc (.cells #[.int .i64 x.g,.slice Ax x.v.length cx] 61)).drew.heap.size=w1.heap.size+1:=(by show (World.heap (w1.alloc _)).size=_;simp);exact ⟨by omega,h10.2,by omega⟩
  have hXw2:Ext w w2:=hX1.trans' (Ext.trans' ((Ext.refl w1).alloc _).drew hx)
  exact ⟨hXw2,fun e=>by have:=(hob _ e).1;omega,fun b hb=>(hob b hb).1,qqo w1.heap.size T l x (.slice A2 l.length c2) (.slice Ax x.v.length cx) w1.heap.size (qch l x) _ (ho.base (by show w1.heap.size≤(World.heap (w1.alloc _)).size;simp)) (fun b hb=>Nat.lt_of_lt_of_le (hT' b hb) hz1) hsz2 ((Ext.kp (S:=fun _=>True) hx).block _ (by show _<(World.heap (w1.alloc _)).size;simp) trivial |>.trans (World.alloc_heap_new _ _)) (fun e=>by have:=(hob _ e).2;omega) (RLb.good.bel HX.out hXw2) hlen hle⟩
 have HA:=Hd keyA
 have HB:=Hd keyB
 clear keyA keyB
 have hcl:=fun W (hW:Ext w W)=>ql4 T l _ W (qaa.good.bel HL.out hW) (by omega)
 go_region_held3 (fun W=>W.cell? ⟨w.heap.size,0,none⟩=some (.int .i64 x.g)∧W.cell? ⟨w.heap.size,1,none⟩=some (.slice Ax x.v.length cx))
  (first | (refine ⟨?_,?_⟩ <;> go_simp <;> done) | exact Ext.k2 hx1 (by assumption) | exact Ext.k2 ((Ext.refl _).alloc _) (by assumption) | (have hq:=hb3;have hq2:=hno;refine And.imp (fun h=>Bt.cell hq h hq2) (fun h=>Bt.cell hq h hq2) ?_;assumption))
  (first
  | (go_at_call 39;refine (hcl _ bel).mono ?_;rintro e w2 ⟨v2,rfl,ho2,hx1⟩;obtain ⟨A2,c2,rfl,hc2,hc20⟩:=(ho2.sl RLb.good (by decide)).val;first | (have hx2:Ext w1.drew w2:=hx1;obtain ⟨h71,hno,h73,h74⟩:=HA.out w2 A2 c2 ho2 hx2) | (have hx2:Ext (w1.alloc (.cells #[.int .i64 x.g,.slice Ax x.v.length cx] 61)).drew w2:=hx1;obtain ⟨h71,hno,h73,h74⟩:=HB.out w2 A2 c2 ho2 hx2))
  | (go_at_call 214;refine h74.mono ?_;rintro e w3 ⟨A3,c3,rfl,ho3,hb3⟩))
 all_goals
  go_wp2_with fail
  go_ret
  have hXX:Ext w w3:=Bt.new h71 hb3 fun b _ hb=>by have:=h73 b hb;omega
  exact ⟨A3,c3,rfl,ho3.base (by omega),hXX⟩
end
end Go.Proofs.YtegenalcheooeaaGreat
