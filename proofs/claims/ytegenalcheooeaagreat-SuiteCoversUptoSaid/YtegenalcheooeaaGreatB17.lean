/- Of the proof of a law of the suites: Insert1, Insert, Added, Musts, Musts2. -/
import Derived.Test.YtegenalcheooeaaGreatB04
import Derived.Test.YtegenalcheooeaaGreatB05
import Derived.Test.YtegenalcheooeaaGreatB07
import Derived.Test.YtegenalcheooeaaGreatB08
import Derived.Test.YtegenalcheooeaaGreatB10
import Derived.Shelf.Spec.SlicesInsertGrow
set_option linter.unusedSectionVars false
set_option linter.unusedSimpArgs false
set_option linter.unusedVariables false
namespace Go.Proofs.YtegenalcheooeaaGreat
open Go.RowKit
attribute [local go_sem] cell?_exto
set_option maxHeartbeats 16000000
set_option maxRecDepth 100000
section

theorem qmr {P:Program} (w:World) (dT sT ty elem:TypeId) (k:Nat) (b o dLen dCap:Nat) (a:Addr) (sLen sCap m:Nat) (cs:List Value)
  (hu:P.underlying dT=some (.slice elem)) (hs:(P.info? elem).map (·.size)=some k) (hm:Nat.min sLen dLen=m) (hn:cs.length=m*k)
  (hsrc:∀j v,cs[j]? = some v->w.cell? (a.add j)=some v) (hc:∀j,j<cs.length->(w.cell? ⟨b,o+j,none⟩).isSome=true) (hf:∀j,j<cs.length->w.frozen? ⟨b,o+j,none⟩=false) (h1:∀v∈cs,v.oneCell'=true) :
  (Builtin.copy_ #[dT,sT] ty #[.slice (some ⟨b,o,none⟩) dLen dCap,.slice (some a) sLen sCap]).run P w = .ok (goInt m) (w.setCells b o cs):=by
 have hl:=run_loadCells_list (P:=P) w a cs hsrc;have hst:=run_storeCells_cells (P:=P) b o cs 0 w (by simpa using hc) (by simpa using hf) h1;rw[hn]at hl
 cases hq:P.info? elem with
 | none=>simp[hq]at hs
 | some i =>
  have hi:i.size=k:=by simpa[hq]using hs
  simp[Builtin.copy_,run_underlying hu,Builtin.lenOf,Builtin.firstCells,sizeOf,typeInfo,hq,hi,hm,hl,hst]
def setL:List Value->Nat->List Value->List Value
 | xs,_,[]=>xs
 | xs,o,v :: vs=>setL (xs.set o v) (o+1) vs
theorem qqq:∀(c:List Value) (o:Nat) (xs:List Value),(setL xs o c).length=xs.length
 | [],_,_=>rfl
 | v :: c,o,xs=>by rw[setL,qqq,List.length_set]
theorem qll:∀(c:List Value) (o:Nat) (xs:List Value) (j:Nat),o+c.length<=xs.length->(setL xs o c)[j]? = if o<=j/\j<o+c.length then c[j-o]? else xs[j]?
 | [],o,xs,j,_=>by rw[setL,if_neg (by simp only[List.length_nil];omega)]
 | v :: c,o,xs,j,h=>by
  simp only[List.length_cons]at h;rw[setL,qll c (o+1) _ j (by rw[List.length_set];omega)]
  by_cases e:j=o
  .subst e;rw[if_neg (by omega),if_pos (by simp),Nat.sub_self,List.getElem?_set_self (by omega)];rfl
  by_cases d:o+1<=j/\j<o+1+c.length
  .rw [if_pos d,if_pos (by simp only[List.length_cons];omega),show j-o=(j-(o+1))+1 from by omega];rfl
  rw[if_neg d,if_neg (by simp only[List.length_cons];omega),List.getElem?_set_ne (Ne.symm e)]
theorem qlr {base size n c g:Nat} {e:TypeId}:∀(d:List Value) (o:Nat) (w:World) (xs:List Value),w.ownsRow base e size (.slice (some ⟨g,0,none⟩) n c) n xs ->
  (w.setCells g o d).ownsRow base e size (.slice (some ⟨g,0,none⟩) n c) n (setL xs o d)
 | [],o,w,xs,h=>h
 | v :: d,o,w,xs,h=>qlr d (o+1) _ _ (h.stored o v).1
theorem qko {g:Nat}:∀(c:List Value) (o:Nat) (w:World),Bt (λb=>b=g) w (w.setCells g o c)
 | [],_,w=>Bt.refl _ _
 | v :: c,o,w=>((Bt.refl (λb=>b=g) w).set (p:=⟨g,o,none⟩) (.inr rfl) v).trans (qko c (o+1) _)
theorem qya {w:World} {base size n m c g:Nat} {e:TypeId} {xs:List Value} (h:w.ownsRow base e size (.slice (some ⟨g,0,none⟩) n c) n xs) (O:n<=m) (J:m<=c) :
  ∃ys,ys.length=(m-n)*size/\w.ownsRow base e size (.slice (some ⟨g,0,none⟩) m c) m (xs++ys):=by
 have G:n*size<=m*size:=Nat.mul_le_mul_right _ O;have D:m*size<=c*size:=Nat.mul_le_mul_right _ J;have L:(m-n)*size=m*size-n*size:=Nat.sub_mul _ _ _
 rcases h.2 with⟨E,_⟩ | ⟨V,I,d,E,M,N,U,F,u,A⟩
 .simp at E
 simp only[Value.slice.injEq,Option.some.injEq,Addr.mk.injEq,and_true,true_and]at E;obtain⟨rfl,rfl⟩:=E;refine⟨(d.toList.take (m*size)).drop (n*size),?_,?_,.inr ⟨g,c,d,rfl,M,N,J,F,u,?_⟩⟩
 .rw [List.length_drop,List.length_take,Array.length_toList,u,Nat.min_eq_left D];omega
 .rw [List.length_append,h.1,List.length_drop,List.length_take,Array.length_toList,u,Nat.min_eq_left D];omega
 rw[<- A];have:=List.take_append_drop (n*size) (d.toList.take (m*size));rw[List.take_take,Nat.min_eq_left G]at this;exact this.symm
theorem ins_shift (xs ys c:List Value) (p q:Nat) (m:p<=xs.length) (A:c.length=q) (hy:ys.length=q):setL (setL (xs++ys) (p+q) (xs.drop p)) p c=xs.take p++c++xs.drop p:=by
 apply List.ext_getElem?
 intro j;rw[qll _ _ _ _ (by rw[qqq,List.length_append];omega),qll _ _ _ _ (by rw[List.length_append,List.length_drop];omega)];simp only[List.length_drop]
 by_cases d:p<=j/\j<p+c.length
 .rw [if_pos d,List.append_assoc,List.getElem?_append_right (by rw[List.length_take];omega),List.length_take,Nat.min_eq_left m,List.getElem?_append_left (by omega)]
 rw[if_neg d]
 by_cases u:j<p
 .rw [if_neg (by omega),List.getElem?_append_left (by omega),List.append_assoc,List.getElem?_append_left (by rw[List.length_take];omega),List.getElem?_take,if_pos u]
 by_cases D:j<p+q+(xs.length-p)
 .rw [if_pos (by omega),List.getElem?_append_right (by rw[List.length_append,List.length_take];omega),List.length_append,List.length_take,Nat.min_eq_left m,A]
 rw[if_neg (by omega),List.getElem?_eq_none (by rw[List.length_append];omega),List.getElem?_eq_none (by simp only[List.length_append,List.length_take,List.length_drop];omega)]
theorem ins_grow (xs m c:List Value) (p q:Nat) (D:p<=xs.length) (E:c.length=q) (G:m.length=q+(xs.length-p)):setL (setL (xs.take p++m) p c) (p+q) (xs.drop p)=xs.take p++c++xs.drop p:=by
 apply List.ext_getElem?
 intro j;have d:(xs.take p++m).length=xs.length+q:=by rw[List.length_append,List.length_take];omega
 rw[qll _ _ _ _ (by rw[qqq,d,List.length_drop];omega),qll _ _ _ _ (by rw[d];omega)];simp only[List.length_drop]
 by_cases u:p+q<=j/\j<p+q+(xs.length-p)
 .rw [if_pos u,List.getElem?_append_right (by rw[List.length_append,List.length_take];omega),List.length_append,List.length_take,Nat.min_eq_left D,E]
 rw[if_neg u]
 by_cases A:p<=j/\j<p+c.length
 .rw [if_pos A,List.append_assoc,List.getElem?_append_right (by rw[List.length_take];omega),List.length_take,Nat.min_eq_left D,List.getElem?_append_left (by omega)]
 rw[if_neg A]
 by_cases F:j<p
 .rw [List.getElem?_append_left (by rw[List.length_take];omega),List.append_assoc,List.getElem?_append_left (by rw[List.length_take];omega)]
 rw[List.getElem?_eq_none (by rw[d];omega),List.getElem?_eq_none (by simp only[List.length_append,List.length_take,List.length_drop];omega)]
theorem Flat.drop {α:Type} {R:Rdr α} {k:Nat} {S:Nat->Prop} {w:World}:∀{xs:List α} {cs:List Value} (m:Nat),Flat R k S w xs cs->Flat R k S w (xs.drop m) (cs.drop (m*k))
 | xs,cs,0,h=>by simpa using h
 | [],cs,m+1,h=>by rw[show cs=[] from h];simp[Flat]
 | x :: xs,cs,m+1,⟨c1,c2,h1,h2,h3,h4⟩=>by
  have:=Flat.drop m h4;rw[List.drop_succ_cons,h1,List.drop_append,List.drop_of_length_le (l:=c1) (by rw[h2,Nat.add_mul];omega),List.nil_append]
  rwa [show(m+1)*k-c1.length=m*k from by rw[h2,Nat.add_mul];omega]
end
section
/- slices.Insert at labels: walked. -/
open Go.Shelf
def qlu (base:Nat) (T:Nat->Prop) (r:List Lb) (v:Value) (w:World) (e:Ending) (w':World):Prop :=
 ∃A c,e = .returned (.slice A r.length c)/\qab RLb 2 61 base T w' r (.slice A r.length c)/\Bt (λb=>v.ownBlock=some b) w w'
theorem qy0 (base:Nat) (T:Nat->Prop) (l:List Lb) (x:Lb) (v F:Value) (vb:Nat) (w:World) (d:qab RLb 2 61 base T w l v) (hT:∀b,T b->b<base) (m:base<=w.heap.size)
  (O:w.heap[vb]? = some (.cells #[.int .i64 x.g,F] 61 (0,0))) (hx:RLb T w x [.int .i64 x.g,F]) (ab:l.length<=1000000) :
  Calls Tryz.prog 214 #[v,.int .i64 (l.length:Int),.slice (some ⟨vb,0,none⟩) 1 1] w (qlu base T (l++[x]) v w):=by
 obtain⟨A,c,rfl,hc,ac⟩:=(d.sl RLb.good (by decide)).val;obtain⟨i3,L,Y⟩:=Option.map_eq_some_iff.1 qix;simp only[Prod.mk.injEq]at Y;obtain⟨U,V,X⟩:=Y
 have I:∀j u,[Value.int .i64 x.g,F][j]? = some u->w.cell? ((⟨vb,0,none⟩:Addr).add j)=some u:=λj u h=>by
  rw[Addr.add_lit,Nat.zero_add];exact(cell_of_row _ _ j _ _ _ O).trans (by simpa using h)
 have G:=RLb.good.one hx
 have M:∀q,T q->(Value.slice A l.length c).ownBlock≠some q:=λq hq e=>by
  obtain⟨news,h1,_⟩:=d;have:=(qcb h1 q e).1;have:=hT q hq;omega
 have hG:Flat RLb 2 (λb=>T b/\(Value.slice A l.length c).ownBlock≠some b) w [x] [.int .i64 x.g,F]:=Flat.single (RLb.good.mono hx λq _ hq=>⟨hq,M q hq⟩) rfl;obtain⟨news,D,hF⟩:=d;have HF:=Hd hF;have HG:=Hd hG;clear hF hG hx M O
 by_cases aa:c=l.length
 .subst aa
  go_enter Tryz.func214,Tryz.ntmps214
  go_wp2_with (at_builtin;refine wpList_append_own_at _ rfl _ _ 22 rfl base 61 i3 _ 2 32 Tryz.underlying22 L U V X rfl (by decide) _ _ _ rfl D ⟨vb,0,none⟩ 1 1 [.int .i64 x.g,F] rfl rfl I G (by unfold maxLen;omega) (by omega) m ?_)
  intro v' w1 d J N E;obtain⟨g5,c5,rfl⟩:=ownsRow_succ d
  go_wp2
  go_ret;refine⟨some ⟨g5,0,none⟩,c5,by rw[List.length_append];rfl,?_,(Bt.of_grown J).mono λk _ h=>h.symm⟩;rw[List.length_append];exact qab.push RLb.good HF.out HG.out d J E
 skip
 go_enter Tryz.func214,Tryz.ntmps214
 go_wp2_with (at_builtin;refine wpList_append_own_at _ rfl _ _ 22 rfl base 61 i3 _ 2 32 Tryz.underlying22 L U V X rfl (by decide) _ _ _ rfl D ⟨vb,0,none⟩ 1 1 [.int .i64 x.g,F] rfl rfl I G (by unfold maxLen;omega) (by omega) m ?_)
 intro v' w1 d J N E;obtain⟨g5,c5,rfl⟩:=ownsRow_succ d
 go_wp2
 go_ret;refine⟨some ⟨g5,0,none⟩,c5,by rw[List.length_append];rfl,?_,(Bt.of_grown J).mono λk _ h=>h.symm⟩;rw[List.length_append];exact qab.push RLb.good HF.out HG.out d J E
theorem qyr (base:Nat) (T:Nat->Prop) (l:List Lb) (x:Lb) (v D:Value) (M i:Nat) (w:World) (ag:qab RLb 2 61 base T w l v) (hT:∀b,T b->b<base) (ai:base<=w.heap.size)
  (O:w.heap[M]? = some (.cells #[.int .i64 x.g,D] 61 (0,0))) (a4:v.ownBlock≠some M) (hx:RLb T w x [.int .i64 x.g,D]) (bc:l.length<=1000000) (hi:i<l.length) :
  Calls Tryz.prog 214 #[v,.int .i64 (i:Int),.slice (some ⟨M,0,none⟩) 1 1] w (qlu base T (l.take i++[x]++l.drop i) v w):=by
 obtain⟨g,c,rfl⟩:∃g aO,v = .slice (some ⟨g,0,none⟩) l.length aO:=by
  obtain⟨news,h1,_⟩:=ag;exact Joins.ownsRow_form h1 (by omega)
 obtain⟨news,m,N⟩:=ag;have bj:=(qcb m g rfl).1;have aE:=(qcb m g rfl).2;have a3:M<w.heap.size:=(Array.getElem?_eq_some_iff.1 O).1;have aJ:M≠g:=λe=>a4 (by rw[e];rfl)
 obtain⟨U,ae,aj,bh,az⟩:∃U:Array Value,w.heap[g]? = some (.cells U 61 (0,0))/\U.size=c*2/\l.length<=c/\c<=maxLen:=by
  rcases m.2 with⟨h',_⟩ | ⟨g',a9,U,h',hb,hg,aZ,az,aj,a1⟩
  .simp at h'
  simp only[Value.slice.injEq,Option.some.injEq,Addr.mk.injEq,and_true,true_and]at h';obtain⟨rfl,rfl⟩:=h';exact⟨U,hg,aj,aZ,az⟩
 have a0:∀o lb cb,(callFunc 259 #[.slice (some ⟨M,0,none⟩) 1 1,.slice (some ⟨g,o,none⟩) lb cb]).run Tryz.prog w = .ok (.value (.bool false)) w:=λo lb cb=>by
  rw[run_callFunc_extern Tryz.func259 (by kernel_rfl) (by kernel_rfl) (by kernel_rfl) (e:=Extern.SlicesOverlaps.overlaps #[22,22] #[4]) (by kernel_rfl),
   Lib.run_overlaps_apart w 22 4 61 Tryz.underlying22 2 (λ_=>by kernel_rfl) ⟨M,0,none⟩ ⟨g,o,none⟩ 1 1 lb cb aJ 61 61 2 (c*2) (by simp[World.shape?,O]) (by simp[World.shape?,ae,aj]) (by omega) (frozen_of_row w M 0 _ _ O) (frozen_of_row w M 2 _ _ O)]
  rfl
 have ap:RLb (λb=>T b/\b≠g) w x [.int .i64 x.g,D]:=RLb.good.mono hx λq _ hq=>⟨hq,λe=>by have:=hT q hq;omega⟩
 have bk:¬ ((i:Int)=(l.length:Int)):=by omega
 by_cases ao:l.length+1<=c
 .have bl:¬ ((c:Int)<(l.length:Int)+1):=by omega
  have aq:Tryz.prog.follows .mixedOrders=true:=by kernel_rfl
  have aV:(0:Int)<=(i:Int)+1:=by omega
  have a2:((i:Int)+1).toNat=i+1:=by omega
  have a5:IntKind.i64.wrap ((i:Int)+1)=(i:Int)+1:=by rw[IntKind.wrap_i64];omega
  have be:¬ (c=i+1):=by omega
  have bf:(i:Int)<=(l.length:Int)+1:=by omega
  have bg:¬ (c=i):=by omega
  have aY:i<=l.length:=by omega
  have ad:news.length=l.length*2:=N.len;have ac:(news.drop (i*2)).length=(l.length-i)*2:=by rw[List.length_drop,ad,Nat.sub_mul]
  have Y:(Tryz.prog.info? 61).map (·.size)=some 2:=by kernel_rfl
  have ab:=N.one RLb.good
  have aI:∀q,q<(l.length+1)*2->(w.cell? ⟨g,q,none⟩).isSome=true:=λq hq=>by
   rw[cell_of_row w g q _ _ _ ae,Array.getElem?_eq_getElem (by omega)];rfl
  have aA:∀F dl I sl sc,Nat.min sl dl=l.length-i->(Builtin.copy_ #[22,22] F #[.slice (some ⟨g,(i+1)*2,none⟩) dl I,.slice (some ⟨g,i*2,none⟩) sl sc]).run Tryz.prog w.drew = .ok (goInt (l.length-i:Nat)) (w.drew.setCells g ((i+1)*2) (news.drop (i*2))):=λF dl I sl sc hm =>
   qmr w.drew _ _ F 61 2 g _ dl I ⟨g,i*2,none⟩ sl sc (l.length-i) (news.drop (i*2)) Tryz.underlying22 Y hm ac
    (λj u A=>by
     rw[List.getElem?_drop]at A;have al:=(List.getElem?_eq_some_iff.1 A).1;rw[Addr.add_lit]
     exact(m.cellAt (i*2+j) (by omega)).trans A)
    (λj A=>aI _ (by omega)) (λj A=>m.frozenAt _) (λu hu=>ab u (List.mem_of_mem_drop hu))
  have aB:∀W,(∀a,W.cell? a=(w.drew.setCells g ((i+1)*2) (news.drop (i*2))).cell? a)->(∀a,W.frozen? a=(w.drew.setCells g ((i+1)*2) (news.drop (i*2))).frozen? a)->∀F dl I,Nat.min 1 dl=1->(Builtin.copy_ #[22,22] F #[.slice (some ⟨g,i*2,none⟩) dl I,.slice (some ⟨M,0,none⟩) 1 1]).run Tryz.prog W = .ok (goInt (1:Nat)) (W.setCells g (i*2) [.int .i64 x.g,D]):=λW h1 h2 F dl I hm =>
   qmr W _ _ F 61 2 g _ dl I ⟨M,0,none⟩ 1 1 1 [.int .i64 x.g,D] Tryz.underlying22 Y hm rfl
    (λj u A=>by
     rw[Addr.add_lit,Nat.zero_add,h1,World.cell?_setCells_out g _ _ _ _ (λh _=>absurd h aJ)]
     exact(cell_of_row _ _ j _ _ _ O).trans (by simpa using A))
    (λj A=>by
     rw[h1]
     exact World.isSome_setCells g _ _ _ _ (aI _ (by simp at A;omega)))
    (λj A=>by rw[h2,World.frozen?_setCells];exact m.frozenAt _) (RLb.good.one hx)
  obtain⟨ys,a6,am⟩:=qya m (Nat.le_add_right _ 1) ao;have E:=qlr [.int .i64 x.g,D] (i*2) _ _ (qlr (news.drop (i*2)) ((i+1)*2) _ _ (World.ownsRow.drew am));rw[show(i+1)*2=i*2+2 from by omega,ins_shift news ys [.int .i64 x.g,D] (i*2) 2 (by omega) rfl (by rw[a6,Nat.add_sub_cancel_left]),<- show(i+1)*2=i*2+2 from by omega]at E;have aG:Nat.min (l.length+1-i) (l.length-i)=l.length-i:=Nat.min_eq_right (by omega);have an:Nat.min 1 (l.length+1-i)=1:=Nat.min_eq_left (by omega)
  go_enter Tryz.func214,Tryz.ntmps214
  go_wp2_with (simp only[a0])
  go_region_law_o (refine step_copy_runI rfl _ _ 22 22 rfl (.slice (some ⟨g,(i+1)*2,none⟩) (l.length-i) (c-(i+1))) (.slice (some ⟨g,i*2,none⟩) (l.length+1-i) (c-i)) (by simp[Act.eval,Act.put]) (by simp[Act.eval,Act.put]) (aA _ _ _ _ _ aG) ?_)
  go_wp2_with (at_builtin;refine wpList_copy_runI _ rfl _ _ 22 22 rfl _ _ rfl rfl (aB _ (λ_=>rfl) (λ_=>rfl) _ _ _ an) ?_)
  go_ret;have X:(l.take i++[x]++l.drop i).length=l.length+1:=by simp only[List.length_append,List.length_take,List.length_drop,List.length_cons,List.length_nil];omega
  have ay:Bt (λb=>b=g) w ((w.drew.setCells g ((i+1)*2) (news.drop (i*2))).setCells g (i*2) [.int .i64 x.g,D]):=((Bt.refl (λb=>b=g) w).drew.trans (qko _ _ _)).trans (qko _ _ _);refine⟨some ⟨g,0,none⟩,c,by rw[X];rfl,⟨news.take (i*2)++[.int .i64 x.g,D]++news.drop (i*2),by rw[X];exact E,?_⟩,ay.mono λb _ h=>by rw[h];rfl⟩;rw[qgd];rw[qgd]at N;exact(((N.take i).append (Flat.single ap rfl)).append (N.drop i)).imp λy _ cs hy=>RLb.good.move hy (ay.kp λb _ hb=>hb.2)
 have aW:c=l.length:=by omega
 subst aW;have ad:news.length=l.length*2:=N.len;obtain⟨i3,aX,aL⟩:=Option.map_eq_some_iff.1 qix;simp only[Prod.mk.injEq]at aL;obtain⟨a7,a8,aK⟩:=aL;have aq:Tryz.prog.follows .mixedOrders=true:=by kernel_rfl
 have a5:IntKind.i64.wrap ((i:Int)+1)=(i:Int)+1:=by rw[IntKind.wrap_i64];omega
 have aV:(0:Int)<=(i:Int)+1:=by omega
 have a2:((i:Int)+1).toNat=i+1:=by omega
 have aY:i<=l.length:=by omega
 have bb:(i:Int)<=(l.length:Int):=by omega
 have bi:¬ (l.length=i):=by omega
 have af:(Builtin.firstCells i3.size i (.slice (some ⟨g,0,none⟩) i l.length)).run Tryz.prog w.drew = .ok (news.take (i*2)).toArray w.drew:=by
  rw[a8]
  exact run_firstCells_some w.drew 2 i ⟨g,0,none⟩ i l.length (news.take (i*2)) (by rw[List.length_take];omega) (λj u A=>by
   rw[Addr.add_lit,Nat.zero_add];have al:=(List.getElem?_eq_some_iff.1 A).1;rw[List.length_take]at al;rw[List.getElem?_take,if_pos (by omega)]at A
   exact(m.cellAt j (by omega)).trans A)
 have aF:(l.length:Int)+1-(i:Int)=((l.length+1-i:Nat):Int):=by omega
 have ak:i+(l.length+1-i)=l.length+1:=by omega
 have aH:∀F,(Builtin.append_ #[22,3] F #[.slice (some ⟨g,0,none⟩) i l.length,.int .i64 ((l.length:Int)+1-(i:Int))]).run Tryz.prog w =
   .ok (.slice (some ⟨w.heap.size,0,none⟩) (l.length+1) (grownCap w (l.length+1) l.length 61)) (w.drew.alloc (.cells ((news.take (i*2)).toArray++Builtin.zeroCells (Value.agg #[.int .i64 0,.slice none 0 0]).cells (l.length+1-i)++Builtin.zeroCells (Value.agg #[.int .i64 0,.slice none 0 0]).cells (grownCap w (l.length+1) l.length 61-(l.length+1))) 61)):=λF=>by
  have h:=Lib.run_append_grow_zeros w 22 3 F 61 i3 _ .i64 .i64 Tryz.underlying22 Tryz.underlying3 aX a7 (some ⟨g,0,none⟩) i l.length (news.take (i*2)) af (l.length+1-i) (by omega) (by omega) (by omega) (by omega) (by rw[aK];omega) (by rw[aK,ak];exact growslice_fits (by omega) (by omega));rw[ak]at h;rw[aF];exact h
 obtain⟨G,hG⟩:∃G,G=grownCap w (l.length+1) l.length 61:=⟨_,rfl⟩
 have aU:l.length+1<=G:=by rw[hG];exact grownCap_ge w _ _ _
 have aT:G<=maxLen:=by rw[hG];exact grownCap_le_maxLen w _ _ _ (by unfold maxLen;omega)
 obtain⟨zs,aa,L⟩:∃zs:List Value,zs=(Builtin.zeroCells (Value.agg #[.int .i64 0,.slice none 0 0]).cells (l.length+1-i)).toList/\zs.length=(l.length+1-i)*2:=⟨_,rfl,by simp[Builtin.zeroCells,Value.cells,Nat.mul_comm]⟩
 obtain⟨d,J⟩:∃d:Array Value,d=(news.take (i*2)).toArray++Builtin.zeroCells (Value.agg #[.int .i64 0,.slice none 0 0]).cells (l.length+1-i)++Builtin.zeroCells (Value.agg #[.int .i64 0,.slice none 0 0]).cells (G-(l.length+1)):=⟨_,rfl⟩
 rw[<- hG,<- J]at aH
 have aw:d.size=G*2:=by
  rw[J];simp[Builtin.zeroCells,Value.cells,ad];omega
 have ax:d.toList.take ((l.length+1)*2)=news.take (i*2)++zs:=by
  rw[J,aa];simp only[Array.toList_append];exact List.take_left' (by rw[<- aa,List.length_append,L,List.length_take];omega)
 have V:(w.alloc (.cells d 61)).ownsRow base 61 2 (.slice (some ⟨w.heap.size,0,none⟩) (l.length+1) G) (l.length+1) (news.take (i*2)++zs) :=
  ⟨by rw[List.length_append,L,List.length_take];omega,.inr ⟨w.heap.size,G,d,rfl,ai,World.alloc_heap_new w _,aU,aT,aw,ax⟩⟩
 have E:=qlr (news.drop (i*2)) ((i+1)*2) _ _ (World.ownsRow.drew (qlr [.int .i64 x.g,D] (i*2) _ _ (World.ownsRow.drew V)));rw[show(i+1)*2=i*2+2 from by omega,ins_grow news zs [.int .i64 x.g,D] (i*2) 2 (by omega) rfl (by rw[L];omega),<- show(i+1)*2=i*2+2 from by omega]at E;have ab:=N.one RLb.good;have Y:(Tryz.prog.info? 61).map (·.size)=some 2:=by kernel_rfl
 have ac:(news.drop (i*2)).length=(l.length-i)*2:=by rw[List.length_drop,ad,Nat.sub_mul]
 have hN:∀q,q<(l.length+1)*2->((w.drew.alloc (.cells d 61)).cell? ⟨w.heap.size,q,none⟩).isSome=true:=λq hq=>by
  rw[World.cell?_alloc_at (w:=w.drew) d _ w.heap.size q rfl,Array.getElem?_eq_getElem (by omega)];rfl
 have ah:∀q,(w.drew.alloc (.cells d 61)).frozen? ⟨w.heap.size,q,none⟩=false:=λq=>World.frozen?_alloc_at (w:=w.drew) d _ w.heap.size q rfl
 have aC:∀W:World,(∀a,W.cell? a=(w.drew.alloc (.cells d 61)).cell? a)->(∀a,W.frozen? a=(w.drew.alloc (.cells d 61)).frozen? a)->∀F I,(Builtin.copy_ #[22,22] F #[.slice (some ⟨w.heap.size,i*2,none⟩) (l.length+1-i) I,.slice (some ⟨M,0,none⟩) 1 1]).run Tryz.prog W = .ok (goInt (1:Nat)) (W.setCells w.heap.size (i*2) [.int .i64 x.g,D]):=λW h1 h2 F I =>
  qmr W _ _ F 61 2 w.heap.size _ _ I ⟨M,0,none⟩ 1 1 1 [.int .i64 x.g,D] Tryz.underlying22 Y (Nat.min_eq_left (by omega)) rfl
   (λj u A=>by
    rw[Addr.add_lit,Nat.zero_add,h1,World.cell?_alloc_past (w:=w.drew) _ M j a3]
    exact(cell_of_row w _ j _ _ _ O).trans (by simpa using A))
   (λj A=>by rw[h1];exact hN _ (by simp at A;omega)) (λj A=>by rw[h2];exact ah _) (RLb.good.one hx)
 have aD:∀W:World,(∀a,W.cell? a=((w.drew.alloc (.cells d 61)).setCells w.heap.size (i*2) [.int .i64 x.g,D]).cell? a)->(∀a,W.frozen? a=((w.drew.alloc (.cells d 61)).setCells w.heap.size (i*2) [.int .i64 x.g,D]).frozen? a)->∀F I sc,(Builtin.copy_ #[22,22] F #[.slice (some ⟨w.heap.size,(i+1)*2,none⟩) (l.length-i) I,.slice (some ⟨g,i*2,none⟩) (l.length-i) sc]).run Tryz.prog W = .ok (goInt (l.length-i:Nat)) (W.setCells w.heap.size ((i+1)*2) (news.drop (i*2))):=λW h1 h2 F I sc =>
  qmr W _ _ F 61 2 w.heap.size _ _ I ⟨g,i*2,none⟩ _ sc (l.length-i) (news.drop (i*2)) Tryz.underlying22 Y (Nat.min_self _) ac
   (λj u A=>by
    rw[List.getElem?_drop]at A;have al:=(List.getElem?_eq_some_iff.1 A).1;rw[Addr.add_lit,h1,World.cell?_setCells_out _ _ _ _ _ (λh _=>absurd h (Nat.ne_of_lt aE)),World.cell?_alloc_past (w:=w.drew) _ g _ aE]
    exact(m.cellAt (i*2+j) (by omega)).trans A)
   (λj A=>by rw[h1];exact World.isSome_setCells _ _ _ _ _ (hN _ (by omega))) (λj A=>by rw[h2,World.frozen?_setCells];exact ah _) (λu hu=>ab u (List.mem_of_mem_drop hu))
 have aP:∀a,((w.alloc (.cells d 61)).drew).cell? a=(w.drew.alloc (.cells d 61)).cell? a:=λ_=>rfl
 have aQ:∀a,((w.alloc (.cells d 61)).drew).frozen? a=(w.drew.alloc (.cells d 61)).frozen? a:=λ_=>rfl
 have aR:∀a,(((w.alloc (.cells d 61)).drew.setCells w.heap.size (i*2) [.int .i64 x.g,D]).drew).cell? a=((w.drew.alloc (.cells d 61)).setCells w.heap.size (i*2) [.int .i64 x.g,D]).cell? a:=λ_=>rfl
 have aS:∀a,(((w.alloc (.cells d 61)).drew.setCells w.heap.size (i*2) [.int .i64 x.g,D]).drew).frozen? a=((w.drew.alloc (.cells d 61)).setCells w.heap.size (i*2) [.int .i64 x.g,D]).frozen? a:=λ_=>rfl
 have bd:¬ (G=i):=by omega
 have ba:¬ (G=i+1):=by omega
 have au:=Hd E;have aM:=Hd N;have X:(l.take i++[x]++l.drop i).length=l.length+1:=by simp only[List.length_append,List.length_take,List.length_drop,List.length_cons,List.length_nil];omega
 have av:=Hd X;have aN:=Hd ap;clear hG aF ak af J aw ax V E N X ap hN ah ac ab aa L
 go_enter Tryz.func214,Tryz.ntmps214
 go_wp2_with (first
  | (at_builtin;refine Lib.wpList_append_run _ rfl _ _ _ _ rfl _ _ rfl rfl _ _ (aH _) ?_)
  | (at_builtin;refine wpList_copy_runI _ rfl _ _ 22 22 rfl _ _ rfl rfl (aC _ aP aQ _ _) ?_))
 go_region_law_o (refine step_copy_runI rfl _ _ 22 22 rfl (.slice (some ⟨w.heap.size,(i+1)*2,none⟩) (l.length-i) (G-(i+1))) (.slice (some ⟨g,i*2,none⟩) (l.length-i) (l.length-i)) (by simp[Act.eval,Act.put]) (by simp[Act.eval,Act.put]) (aD _ aR aS 3 (G-(i+1)) (l.length-i)) ?_)
 go_wp2
 go_ret
 have hX:Ext w ((((w.alloc (.cells d 61)).drew.setCells w.heap.size (i*2) [.int .i64 x.g,D]).drew).setCells w.heap.size ((i+1)*2) (news.drop (i*2))) :=
  Bt.new (Z:=λb=>b=w.heap.size) ((Ext.refl w).alloc (.cells d 61)).drew ((qko _ _ _).trans (((Bt.refl (λb=>b=w.heap.size) _).drew).trans (qko _ _ _))) λq _ hq=>Nat.le_of_eq hq.symm
 refine⟨some ⟨w.heap.size,0,none⟩,G,by rw[av.out];rfl,⟨news.take (i*2)++[.int .i64 x.g,D]++news.drop (i*2),by rw[av.out];exact au.out,?_⟩,hX.bt⟩;rw[qgd];have N:=aM.out;rw[qgd]at N;exact(((N.take i).append (Flat.single aN.out rfl)).append (N.drop i)).imp λy _ cs hy=>RLb.good.bel (RLb.good.mono hy λb hb h=>⟨h.1,by omega⟩) hX
end
section
open Go.Shelf
theorem qt0 (base:Nat) (T:Nat->Prop) (l:List Lb) (x:Lb) (v D:Value) (A i:Nat) (w:World) (m:qab RLb 2 61 base T w l v) (F:∀b,T b->b<base) (c:base<=w.heap.size)
  (u:w.heap[A]? = some (.cells #[.int .i64 x.g,D] 61 (0,0))) (E:v.ownBlock≠some A) (G:RLb T w x [.int .i64 x.g,D]) (d:l.length<=1000000) (hi:i<=l.length) :
  Calls Tryz.prog 214 #[v,.int .i64 (i:Int),.slice (some ⟨A,0,none⟩) 1 1] w (qlu base T (l.take i++[x]++l.drop i) v w):=by
 by_cases h:i<l.length
 .exact qyr base T l x v D A i w m F c u E G d h
 obtain rfl:i=l.length:=by omega
 rw[List.take_length,List.drop_length,List.append_nil];exact qy0 base T l x v D A w m F c u G d
def qcu (l:List Lb) (x:Lb):List Lb:=l.take (qci l x)++[x]++l.drop (qci l x)
theorem bsLb_le (l:List Lb) (x:Lb):qci l x<=l.length:=(qlf _ _ 0 l.length (Nat.zero_le _)).2
theorem added_c (S:Nat->Prop) (l:List Lb) (x:Lb) (v vx:Value) (w:World) (hl:qaa S w l [v]) (J:RLb S w x [.int .i64 x.g,vx]) (M:l.length<=1000000) :
  Calls Tryz.prog 147 #[v,.agg #[.int .i64 x.g,vx]] w λe w'=>∃A c,e = .returned (.slice A (qcu l x).length c)/\qab RLb 2 61 w.heap.size (λq=>S q/\q<w.heap.size) w' (qcu l x) (.slice A (qcu l x).length c)/\Ext w w':=by
 obtain⟨T,hT⟩:∃T:Nat->Prop,T=λq=>S q/\q<w.heap.size:=⟨_,rfl⟩
 have Y:qaa T w l [v]:=by rw[hT];exact qaa.good.mono hl λb L h2=>⟨h2,L⟩
 have ab:RLb T w x [.int .i64 x.g,vx]:=by rw[hT];exact RLb.good.mono J λb L h2=>⟨h2,L⟩
 have ah:∀b,T b->b<w.heap.size+1:=λb E=>by rw[hT]at E;have:=E.2;omega
 rw[<- hT];have aq:=λW (hW:qag w W)=>qpy T l x v _ W (qaa.good.ext Y hW) (RLb.good.ext ab hW) (by omega)
 obtain⟨A,c,rfl,_,_⟩:=hl.val;obtain⟨_,az,O,an⟩:=id J;simp only[List.cons.injEq,true_and,and_true]at O;obtain rfl:=O;obtain⟨G,I,rfl,_,_⟩:=an.val;have HL:=Hd Y;have HX:=Hd ab;have ak:=bsLb_le l x;clear hl J an Y ab
 go_enter Tryz.func147,Tryz.ntmps147
 go_wp2_with fail
 refine(aq _ qan).mono ?_;rintro e d ⟨rfl,L⟩;have ax:=L.ext.cells;have ai:Ext w d:=Ext.trans' ((Ext.refl w).alloc _) L.ext;have ao:w.heap.size+1<=d.heap.size:=by have:=L.ext.size;simp at this;omega
 go_wp2_with fail
 have b0:d.cell? ⟨w.heap.size,0,none⟩=some (.int .i64 x.g):=by rw[L.ext.cell (by simp)];simp
 have b1:d.cell? ⟨w.heap.size,1,none⟩=some (.slice G x.v.length I):=by rw[L.ext.cell (by simp)];simp
 have U:∀(m:World) (u:Option Addr) (c2:Nat),qab RLb 2 61 (World.heap d.drew).size T m l (.slice u l.length c2)->Ext d.drew m->Ext w (m.alloc (.cells #[.int .i64 x.g,.slice G x.v.length I] 61))/\(Value.slice u l.length c2).ownBlock≠some w.heap.size/\(∀b,(Value.slice u l.length c2).ownBlock=some b->d.heap.size<=b) /\
   Calls Tryz.prog 214 #[.slice u l.length c2,.int .i64 (qci l x:Int),.slice (some ⟨m.heap.size,0,none⟩) 1 1] (m.alloc (.cells #[.int .i64 x.g,.slice G x.v.length I] 61)) (qlu d.heap.size T (qcu l x) (.slice u l.length c2) (m.alloc (.cells #[.int .i64 x.g,.slice G x.v.length I] 61))):=λm u c2 ho J=>by
  have N:d.heap.size<=m.heap.size:=by have:=J.size;exact this
  have F:∀b,(Value.slice u l.length c2).ownBlock=some b->d.heap.size<=b/\b<m.heap.size:=λb E=>by
   obtain⟨news,h9,_⟩:=ho;have X:=qcb h9 b E;exact X
  have D:Ext w m:=ai.trans' (Ext.trans' (Ext.refl d).drew J);exact⟨D.alloc _,λe=>by have:=(F _ e).1;omega,λb E=>(F b E).1,qt0 d.heap.size T l x (.slice u l.length c2) (.slice G x.v.length I) m.heap.size (qci l x) _ (ho.ext RLb.good ((Ext.refl _).alloc _)) (λb E=>Nat.lt_of_lt_of_le (ah b E) ao) (by simp;omega) (World.alloc_heap_new _ _) (λe=>by have:=(F _ e).2;omega) (RLb.good.bel HX.out (D.alloc _)) M ak⟩
 have V:∀(m:World) (u:Option Addr) (c2:Nat),qab RLb 2 61 (World.heap (d.alloc (.cells #[.int .i64 x.g,.slice G x.v.length I] 61)).drew).size T m l (.slice u l.length c2)->Ext (d.alloc (.cells #[.int .i64 x.g,.slice G x.v.length I] 61)).drew m->Ext w m/\(Value.slice u l.length c2).ownBlock≠some w.heap.size/\(∀b,(Value.slice u l.length c2).ownBlock=some b->d.heap.size<=b) /\
   Calls Tryz.prog 214 #[.slice u l.length c2,.int .i64 (qci l x:Int),.slice (some ⟨d.heap.size,0,none⟩) 1 1] m (qlu d.heap.size T (qcu l x) (.slice u l.length c2) m):=λm u c2 ho J=>by
  have N:d.heap.size<=m.heap.size:=by have:=J.size;have h:(d.alloc (.cells #[.int .i64 x.g,.slice G x.v.length I] 61)).drew.heap.size=d.heap.size+1:=(by show(World.heap (d.alloc _)).size=_;simp);omega
  have F:∀b,(Value.slice u l.length c2).ownBlock=some b->d.heap.size<=b/\b<m.heap.size/\d.heap.size+1<=b:=λb E=>by
   obtain⟨news,h9,_⟩:=ho;have X:=qcb h9 b E;have h:(d.alloc (.cells #[.int .i64 x.g,.slice G x.v.length I] 61)).drew.heap.size=d.heap.size+1:=(by show(World.heap (d.alloc _)).size=_;simp);exact⟨by omega,X.2,by omega⟩
  have D:Ext w m:=ai.trans' (Ext.trans' ((Ext.refl d).alloc _).drew J);exact⟨D,λe=>by have:=(F _ e).1;omega,λb E=>(F b E).1,qt0 d.heap.size T l x (.slice u l.length c2) (.slice G x.v.length I) d.heap.size (qci l x) _ (ho.base (by show d.heap.size<=(World.heap (d.alloc _)).size;simp)) (λb E=>Nat.lt_of_lt_of_le (ah b E) ao) N ((Ext.kp (S:=λ_=>True) J).block _ (by show _<(World.heap (d.alloc _)).size;simp) trivial |>.trans (World.alloc_heap_new _ _)) (λe=>by have:=(F _ e).2;omega) (RLb.good.bel HX.out D) M ak⟩
 have HA:=Hd U;have HB:=Hd V;clear U V;have au:=λW (hW:Ext w W)=>qpe T l _ W (qaa.good.bel HL.out hW) (by omega)
 go_region_held3 (λW=>W.cell? ⟨w.heap.size,0,none⟩=some (.int .i64 x.g)/\W.cell? ⟨w.heap.size,1,none⟩=some (.slice G x.v.length I))
  (first | (refine⟨?_,?_⟩ <;> go_simp <;> done) | exact Ext.k2 ac (by assumption) | exact Ext.k2 ((Ext.refl _).alloc _) (by assumption) | (have hq:=aj;have am:=al;refine And.imp (λh=>Bt.cell hq h am) (λh=>Bt.cell hq h am) ?_;assumption))
  (first
  | (go_at_call 39;refine(au _ bel).mono ?_;rintro e m ⟨v2,rfl,aa,ac⟩;obtain⟨u,c2,rfl,ay,aw⟩:=(aa.sl RLb.good (by decide)).val;first | (have ad:Ext d.drew m:=ac;obtain⟨ae,al,af,ag⟩:=HA.out m u c2 aa ad) | (have ad:Ext (d.alloc (.cells #[.int .i64 x.g,.slice G x.v.length I] 61)).drew m:=ac;obtain⟨ae,al,af,ag⟩:=HB.out m u c2 aa ad))
  | (go_at_call 214;refine ag.mono ?_;rintro e w3 ⟨A3,c3,rfl,av,aj⟩))
 all_goals
  go_wp2_with fail
  go_ret;have ap:Ext w w3:=Bt.new ae aj λb _ E=>by have:=af b E;omega
  exact⟨A3,c3,rfl,av.base (by omega),ap⟩
end
section
/- suite.musts: walked. -/
open Go.Shelf
def qfv (a m:List Lb):List (List Lb):=if qe1 m a then [m] else a.map (qcu m)
def qcp (ls:List (List Lb)) (a:List Lb):List (List Lb):=ls.flatMap (qfv a)
def qd8 (ls:List (List Lb)) (a:List Lb):List (List Lb):=qcm (qch (qcp ls a))
def qg7 (n:List (List Lb)):Bool:=decide (2000<n.length) || n.any λm=>decide (64<m.length)
def qdc:List (List Lb)->List (List Lb)->Option (List (List Lb))
 | [],ls=>some ls
 | a :: bs,ls=>if qg7 (qd8 ls a) then none else qdc bs (qfl (qd8 ls a))
def qcc (s:Sy) (sts:List Int):Option (List (List Lb)):=if sts=[] then some [] else qdc (qcm (qch (sts.map (qbo s)))) [[]]
def errO {α:Type}:Option α->Int
 | none=>2
 | some _=>0
def qb7 {α:Type}:Option (List α)->List α
 | none=>[]
 | some l=>l
def MustPost (P:Nat->Prop) (r:Option (List (List Lb))) (w:World) (e:Ending) (w':World):Prop :=
 ∃A c,e = .returned (.tuple #[.slice A (qb7 r).length c,.int .i64 (errO r)])/\qab qaa 1 22 w.heap.size P w' (qb7 r) (.slice A (qb7 r).length c)/\Ext w w'
theorem qyl (a m:List Lb) (c:a.length<=4000):(qfv a m).length<=4000:=by
 unfold qfv
 split
 .simp
 rw[List.length_map];exact c
theorem qp7 (a:List Lb) (d:a.length<=4000):∀c:List (List Lb),(qcp c a).length<=c.length*4000
 | []=>by simp[qcp]
 | m :: c=>by
  have u:=qp7 a d c;have A:=qyl a m d;unfold qcp at *;rw[List.flatMap_cons,List.length_append,List.length_cons];omega
theorem qxp (c:List (List Lb)) (a:List Lb) (i:Nat) (h:i<c.length):qcp (c.take (i+1)) a=qcp (c.take i) a++qfv a c[i]:=by
 rw[List.take_succ_eq_append_getElem h,qcp,List.flatMap_append];simp[qcp]
theorem qpc (l:List (List Lb)) (x:List Lb) (h:x∈qfl l):x∈l:=(qhr l x).1 (qlc qct _ x (List.mem_filter.1 h).1)
theorem qtu (l:List (List Lb)):(qfl l).length<=l.length:=by
 have d:=List.length_filter_le (λa=>!((qcm (qch l)).any (qge a))) (qcm (qch l));have c:=qop (qch l);rw[qk4]at c;exact Nat.le_trans d c
theorem qtr {n:List (List Lb)} (h:qg7 n=false):n.length<=2000/\∀m∈n,m.length<=64:=by
 simp only[qg7,Bool.or_eq_false_iff,decide_eq_false_iff_not,List.any_eq_false,decide_eq_true_eq]at h;exact⟨by omega,λm c=>by have:=h.2 m c;omega⟩
theorem eg148:∀args w,(callFunc 148 args).run Tryz.prog w = .ok (.enter 148 args) w:=enters_of Tryz.func148 (by kernel_rfl) rfl
theorem musts1_c (S:Nat->Prop) (m:List Lb) (u:Value) (w:World) (d:qaa S w m [u]):Calls Tryz.prog 148 #[u] w λe w'=>e = .returned (.bool (decide (64<m.length)))/\Ext w w':=by
 obtain⟨A,c,rfl,_,_⟩:=d.val;clear d
 go_enter Tryz.func148,Tryz.ntmps148
 go_wp2_with fail
 go_ret;refine⟨?_,Ext.refl _⟩;have:decide ((64:Int)<(m.length:Int))=decide (64<m.length):=decide_eq_decide.2 (by omega);rw[<- this];rfl
theorem qo1 {P:Nat->Prop} {base:Nat} {w w':World} {xs:List (List Lb)} {y:List Lb} {v d u:Value} {news:List Value} (A:Flat qaa 1 (λb=>P b/\v.ownBlock≠some b) w xs news) (hy:qaa (λb=>P b/\v.ownBlock≠some b) w y [u])
  (c:w'.ownsRow base 22 1 d (xs.length+1) (news++[u])) (D:w.grownBy w' v.ownBlock) (m:d.ownBlock=v.ownBlock\/d.ownBlock=some w.heap.size):qab qaa 1 22 base P w' (xs++[y]) d :=
 qab.push qaa.good A (Flat.single hy rfl) c D m
theorem musts_c (P S:Nat->Prop) (s:Sy) (bG:qah s) (g:Nat) (u:List Int) (v:Value) (w:World) (hS:qaz P w g s) (hP:∀b,w.heap.size<=b->P b) (hl:RSl qad 1 S w u [v]) (cc:u.length<=1000000) :
  Calls Tryz.prog 80 #[.pointer (some ⟨g,0,none⟩),v] w (MustPost P (qcc s u) w):=by
 obtain⟨A0,c0,rfl,_,_⟩:=hl.val;have HS:Hid (qaz (λb=>P b/\b<w.heap.size) w g s):=hS.mono λb hb h=>⟨h,hb⟩
 have HL:=Hd hl;clear hS hl
 by_cases h0:u=[]
 .subst h0;have HV:Hid (qcc s []=some []):=rfl
  go_enter Tryz.func80,Tryz.ntmps80
  go_wp2_with fail
  go_ret2;rw[HV.out];exact⟨none,0,rfl,qab.nil ..,Ext.refl _⟩
 have cr:((u.length:Int) == 0)=false:=beq_eq_false_iff_ne.2 λe=>h0 (List.length_eq_zero_iff.1 (by omega))
 have HV:Hid (qcc s u=qdc (qcm (qch (u.map (qbo s)))) [[]]):=if_neg h0;have bz:=qso;obtain⟨i3,bb,bL⟩:=Option.map_eq_some_iff.1 bz;simp only[Prod.mk.injEq]at bL;obtain⟨bj,aJ,ax⟩:=bL;clear h0 bz
 go_enter Tryz.func80,Tryz.ntmps80
 go_wp2_with fail
 go_loopw [6,22] (λvo vi wr=>∃(k:Nat) (A:Option Addr) (c:Nat),k<=u.length/\vi = .int .i64 k/\vo = .slice A k c/\qab qaa 1 22 w.heap.size P wr ((u.take k).map (qbo s)) (.slice A k c)/\Ext w wr) (λ_ vi _=>u.length-(intOf vi).toNat)
 case atStart=>exact⟨0,none,0,Nat.zero_le _,rfl,rfl,qab.nil ..,Ext.refl _⟩
 obtain⟨k,A,c,hk,rfl,rfl,d,hE⟩:=hrel
 by_cases au:k<u.length
 .obtain ⟨b,bk,cs,rfl,hb,hT,hl,hr,N⟩:=((RSl.good qad.good).bel HL.out hE).get k au;obtain⟨rfl,hi⟩:=hr;have g0:=(by simpa using N.get 0 _:wr.cell? ⟨b,bk+k,none⟩=some (.int .i64 u[k]))
  have ae:=qot (λb=>P b/\b<w.heap.size) s bG g u[k] wr hi (HS.out.bel hE);have bx:Hid ((u.take k).length=k):=by show _=_;rw[List.length_take];omega
  have av:Hid ((u.take (k+1)).map (qbo s)=(u.take k).map (qbo s)++[qbo s u[k]]):=by show _=_;rw[List.take_succ_eq_append_getElem au,List.map_append];rfl
  have HO:=Hd d;have ah:=λq I=>d.own_lt (b:=q) I
  clear N hl hT d
  go_wp2_with fail
  refine ae.mono ?_;rintro e w3 ⟨A3,c3,rfl,aE,O⟩;have ak:=HO.out.ext qaa.good (O.alloc (.cells #[.slice A3 (qbo s u[k]).length c3] 22));obtain⟨news,J,hF⟩:=ak;have ag:=qe7 w3 #[.slice A3 (qbo s u[k]).length c3] 22
  have hy:qaa (λb=>P b/\(Value.slice A k c).ownBlock≠some b) (w3.alloc (.cells #[.slice A3 (qbo s u[k]).length c3] 22)) (qbo s u[k]) [.slice A3 (qbo s u[k]).length c3] :=
   qaa.good.bel (qaa.good.mono (aE.sl RLb.good (by decide)) λq _ I=>⟨I.elim (λh=>h.1.1) λh=>hP q (by have:=hE.size;omega),λe=>by
    have:=ah q e
    rcases I with h | h
    .have h':q<w.heap.size:=h.1.2;omega
    omega⟩) ((Ext.refl _).alloc _)
  have HF:=Hd hF;have HY:=Hd hy;have bI:=O.size;have a3:=hE.size;rw[List.length_map,bx.out]at J;clear hF hy aE ae
  go_wp2_with (at_builtin;refine wpList_append_own_at _ rfl _ _ 30 rfl w.heap.size 22 i3 _ 1 24 Tryz.underlying30 bb bj aJ ax rfl (by decide) _ _ _ rfl J ⟨w3.heap.size,0,none⟩ 1 1 [.slice A3 (qbo s u[k]).length c3] rfl rfl ag (by simp[Value.oneCell']) (by unfold maxLen;omega) (by omega) (by simp;omega) ?_;intro v5 w5 G D aj af;obtain⟨g5,c5,rfl⟩:=ownsRow_succ G)
  have bg:=Hd (qo1 HF.out HY.out (by rw[List.length_map,bx.out];exact G) D af);have a7:Ext w w5:=Below.grown ((hE.trans' O).alloc _) D (by simp;omega) λq I=>(ah q I).1
  clear G D af aj J ag
  go_wp2_with fail
  go_roundw
  case rel=>exact⟨k+1,some ⟨g5,0,none⟩,c5,by omega,by go_num,rfl,by rw[av.out];exact bg.out,a7⟩
  simp[intOf];omega
 obtain rfl:k=u.length:=by omega
 rw[List.take_length]at d;obtain⟨wa,rfl⟩:∃wa,wa=wr:=⟨_,rfl⟩
 obtain⟨ac,ae⟩:=nm (u.map (qbo s));have aR:ac.length=u.length:=by rw[<- ae,List.length_map]
 have aQ:∀a∈ac,a.length<=4000:=λa ha=>by
  rw[<- ae]at ha;obtain⟨t,_,rfl⟩:=List.mem_map.1 ha;have:=accL_len s t;have:=bG.2.2.1;omega
 have aK:Hid (qcc s u=qdc (qcm (qch ac)) [[]]):=by show _=_;rw[HV.out,ae]
 rw[ae]at d;have ah:=λq I=>d.own_lt (b:=q) I
 have hs:=qrl w.heap.size _ ac _ wa d (by omega);have ap:=λW (hW:qab qaa 1 22 w.heap.size P W (qch ac) (.slice A u.length c))=>qoq w.heap.size _ (qch ac) _ W hW (by rw[qk4];omega)
 have aO:=Hd aR;clear aR ae d HV
 go_wp2_with fail
 refine hs.mono ?_;rintro e w1 ⟨rfl,bE,ba⟩;have aX:=bE.ext qaa.good ((Ext.refl w1).alloc (.cells #[.slice none 0 0] 22))
 go_wp2_with fail
 refine(ap _ aX).mono ?_;rintro e w2 ⟨A2,c2,rfl,be,aB⟩;have aJ:=ba.size;have ax:=aB.size;simp only[World.size_alloc]at ax
 have aU:qab qaa 1 22 w.heap.size P w2 [[]] (.slice (some ⟨w1.heap.size,0,none⟩) 1 1):=by
  have h1:=World.ownsRow_lit (base:=w.heap.size) (e:=22) (size:=1) w1 #[.slice none 0 0] 1 (by have:=hE.size;omega) (by decide) rfl;have h2:qab qaa 1 22 w.heap.size (λ_=>False) (w1.alloc (.cells #[.slice none 0 0] 22)) [[]] (.slice (some ⟨w1.heap.size,0,none⟩) 1 1):=⟨[.slice none 0 0],h1,[.slice none 0 0],[],rfl,rfl,⟨none,0,rfl,Nat.le_refl _,by decide,.inl rfl⟩,rfl⟩
  refine(h2.bt qaa.good aB λb _ hz=>⟨λh=>h,λe=>?_⟩).mono qaa.good λ_ _ h=>h.elim
  have h3:=(ah b hz).2;have h4:w1.heap.size=b:=by simpa[Value.ownBlock]using e
  omega
 obtain⟨F,am⟩:=nm (qcm (qch ac));have cb:F.length<=1000000:=by rw[<- am];have:=qop (qch ac);rw[qk4,aO.out]at this;omega
 have a9:∀a∈F,a.length<=4000:=λa ha=>aQ a ((qhr ac a).1 (qlc qct _ a (by rw[<- am]at ha;exact ha)))
 have a5:Ext w w2:=Bt.new (Z:=λb=>w.heap.size<=b) hE (((ba.mono λb _ h=>(ah b h).1).trans ((Bt.refl _ _).alloc _)).trans (aB.mono λb _ h=>(ah b h).1)) λ_ _ h=>h
 rw[am]at be aK ⊢;have bO:=Hd be;have bl:=Hd aU;clear am aU be bE aX hs ap ba aB aO aQ ah aJ ax
 go_wp2_with fail
 go_loopw [9,39] (λvl vi wr=>∃(k:Nat) (A:Option Addr) (c:Nat) (E:List (List Lb)),k<=F.length/\vi = .int .i64 k/\vl = .slice A E.length c/\qab qaa 1 22 w.heap.size P wr E (.slice A E.length c)/\E.length<=2000/\(∀m∈E,m.length<=64)/\Hid (qdc (F.drop k) E=qdc F [[]])/\Ext w2 wr) (λ_ vi _=>F.length-(intOf vi).toNat)
 case atStart=>exact⟨0,some ⟨w1.heap.size,0,none⟩,1,[[]],Nat.zero_le _,rfl,rfl,bl.out,by decide,by simp,rfl,Ext.refl _⟩
 obtain⟨k,A,c,E,hk,rfl,rfl,d,co,bY,aL,ao⟩:=hrel
 by_cases au:k<F.length
 .obtain ⟨b,bk,cs,rfl,hb,hT,hl,hr,N⟩:=((RSl.good qaa.good).bel ((RSl.good qaa.good).mono (S':=λb=>P b/\b<w2.heap.size) (bO.out.sl qaa.good (by decide)) λb hb h=>⟨h.elim id (hP b),hb⟩) ao).get k au;obtain⟨Aa,ca,rfl,cd,ce,_⟩:=id hr;have g0:=(by simpa using N.get 0 _:wr.cell? ⟨b,bk+k,none⟩=some (.slice Aa F[k].length ca))
  have ha:=a9 _ (List.getElem_mem au);obtain⟨a,a8⟩:=nm (F[k]);have aH:qdc (F.drop k) E=if qg7 (qd8 E a) then none else qdc (F.drop (k+1)) (qfl (qd8 E a)):=by rw[List.drop_eq_getElem_cons au,qdc,a8]
  rw[a8]at ha hr g0;have a4:=Hd aH;have bp:=Hd hr;have bN:=Hd d;have ah:=λq I=>d.own_lt (b:=q) I
  obtain⟨M,rfl⟩:∃M,M=wr:=⟨_,rfl⟩
  have ct:w.heap.size<=M.heap.size:=by have:=a5.size;have:=ao.size;omega
  clear aH hr d N hl hT a8
  go_wp2_with fail
  go_loopw [12,45] (λvn vi wr=>∃(i:Nat) (A':Option Addr) (c':Nat),i<=E.length/\vi = .int .i64 i/\vn = .slice A' (qcp (E.take i) a).length c'/\qab qaa 1 22 M.heap.size P wr (qcp (E.take i) a) (.slice A' (qcp (E.take i) a).length c')/\Ext M wr) (λ_ vi _=>E.length-(intOf vi).toNat)
  case atStart=>exact⟨0,none,0,Nat.zero_le _,rfl,rfl,qab.nil ..,Ext.refl _⟩
  obtain⟨i,A',c',hi,rfl,rfl,d,aa⟩:=hrel
  by_cases aC:i<E.length
  .have aV:=(RSl.good qaa.good).mono (bN.out.sl qaa.good (by decide)) (S':=λb=>P b/\b<M.heap.size) λb hb h=>⟨h.elim id (hP b),hb⟩
   obtain⟨b2,bM,ci,rfl,aB,bR,bW,ai,an⟩:=aV.get i aC;obtain⟨Am,cm,rfl,cp,cq,_⟩:=id ai;have g2:=Ext.keep aa (by simpa using an.get 0 _:M.cell? ⟨b2,bM+i,none⟩=some (.slice Am E[i].length cm));have bZ:=bY _ (List.getElem_mem aC);have bd:=qxp E a i aC;obtain⟨m,bB⟩:=nm (E[i]);rw[bB]at bZ ai g2 bd;have aN:=qp7 a ha (E.take i);rw[List.length_take,Nat.min_eq_left (by omega)]at aN;have bo:=Hd ai;have bm:=Hd bd;have bn:=Hd d;have Y:=λq I=>d.own_lt (b:=q) I
   have V:=qqm (λ_=>True) m a _ _ wr (qaa.good.mono (qaa.good.bel ai aa) λ_ _ _=>trivial) (qaa.good.mono (qaa.good.bel bp.out aa) λ_ _ _=>trivial) (by omega);have bC:(qcp (E.take i) a).length<=8000000:=by omega
   clear ai bd d an bW bR aV bB aN
   by_cases aq:qe1 m a=true
   .rw [aq]at V;have av:Hid (qcp (E.take (i+1)) a=qcp (E.take i) a++[m]):=by show _=_;rw[bm.out,qfv,if_pos aq]
    clear aq
    go_wp2_with fail
    refine V.mono ?_;rintro e w3 ⟨rfl,O⟩;have ak:=bn.out.ext qaa.good (O.alloc (.cells #[.slice Am m.length cm] 22));obtain⟨news,J,hF⟩:=ak;have ag:=qe7 w3 #[.slice Am m.length cm] 22
    have hy:qaa (λb=>P b/\(Value.slice A' (qcp (E.take i) a).length c').ownBlock≠some b) (w3.alloc (.cells #[.slice Am m.length cm] 22)) m [.slice Am m.length cm] :=
     qaa.good.bel (qaa.good.mono bo.out λq _ I=>⟨I.1,λe=>by have:=(Y q e).1;have h':q<M.heap.size:=I.2;omega⟩) ((aa.trans' O).alloc _)
    have HF:=Hd hF;have HY:=Hd hy;have bI:=O.size;have a3:=aa.size;clear hF hy V
    go_wp2_with (at_builtin;refine wpList_append_own_at _ rfl _ _ 30 rfl M.heap.size 22 i3 _ 1 24 Tryz.underlying30 bb bj aJ ax rfl (by decide) _ _ _ rfl J ⟨w3.heap.size,0,none⟩ 1 1 [.slice Am m.length cm] rfl rfl ag (by simp[Value.oneCell']) (by unfold maxLen;omega) (by omega) (by simp;omega) ?_;intro v5 w5 G D aj af;obtain⟨g5,c5,rfl⟩:=ownsRow_succ G)
    have bg:=Hd (qo1 HF.out HY.out G D af);have a7:Ext M w5:=Below.grown ((aa.trans' O).alloc _) D (by simp;omega) λq I=>(Y q I).1
    clear G D af aj J ag
    go_wp2_with fail
    go_roundw
    case rel=>exact⟨i+1,some ⟨g5,0,none⟩,c5,by omega,by go_num,by rw[av.out,List.length_append];rfl,by rw[av.out,List.length_append];exact bg.out,a7⟩
    simp[intOf];omega
   rw[eq_false_of_ne_true aq]at V;have av:Hid (qcp (E.take (i+1)) a=qcp (E.take i) a++a.map (qcu m)):=by show _=_;rw[bm.out,qfv,if_neg aq]
   clear aq;obtain⟨wc,rfl⟩:∃wc,wc=wr:=⟨_,rfl⟩
   go_wp2_with fail
   refine V.mono ?_;rintro e w3 ⟨rfl,O⟩;have bT:=aa.trans' O;clear V;obtain⟨rj,aG⟩:∃rj:Nat->List (List Lb),rj=λj=>qcp (E.take i) a++(a.take j).map (qcu m):=⟨_,rfl⟩
   have bH:Hid (rj 0=qcp (E.take i) a):=by show _=_;rw[aG];simp
   have b3:Hid (∀j,(h:j<a.length)->rj (j+1)=rj j++[qcu m a[j]]):=by
    intro j h;rw[aG];simp only;rw[List.take_succ_eq_append_getElem h,List.map_append,List.append_assoc];rfl
   have ai:Hid (rj a.length=qcp (E.take (i+1)) a):=by show _=_;rw[av.out,aG];simp only[List.take_length]
   have b4:Hid (∀j,(rj j).length<=8000000+4000):=by
    intro j;rw[aG];simp only[List.length_append,List.length_map,List.length_take];omega
   clear aG
   go_wp2_with fail
   go_loopw [12,58] (λvn vi wr=>∃(j:Nat) (A4:Option Addr) (c4:Nat),j<=a.length/\vi = .int .i64 j/\vn = .slice A4 (rj j).length c4/\qab qaa 1 22 M.heap.size P wr (rj j) (.slice A4 (rj j).length c4)/\Ext M wr) (λ_ vi _=>a.length-(intOf vi).toNat)
   case atStart=>exact⟨0,A',c',Nat.zero_le _,rfl,by rw[bH.out],by rw[bH.out];exact bn.out.ext qaa.good O,bT⟩
   obtain⟨j,A4,c4,hj,rfl,rfl,L,az⟩:=hrel;have cl:=b4.out j
   by_cases aW:j<a.length
   .obtain ⟨b5,ch,cj,rfl,ck,bS,bX,aM,ab⟩:=(qaa.good.bel bp.out az).get j aW;obtain⟨cu,vx,rfl,bJ⟩:=id aM;have a0:=ab.get 0 _;have a1:=ab.get 1 _;simp only[Nat.add_zero]at a0;obtain⟨Ax,cx,rfl,_,_⟩:=bJ.val;have a2:=Hd (b3.out j aW);obtain⟨x,bi⟩:=nm (a[j]);rw[bi]at aM a0 a1;have aP:Hid (rj (j+1)=rj j++[qcu m x]):=by show _=_;rw[a2.out,bi]
    have bK:w2.heap.size<=M.heap.size:=ao.size
    have bq:=added_c (λb=>P b/\b<M.heap.size) m x (.slice Am m.length cm) (.slice Ax x.v.length cx) (wr.alloc (.cells #[.int .i64 x.g,.slice Ax x.v.length cx] 61))
     (qaa.good.bel bo.out (az.alloc _)) (RLb.good.bel (RLb.good.mono aM λq _ I=>⟨I.1,Nat.lt_of_lt_of_le I.2 bK⟩) ((Ext.refl _).alloc _)) (by omega)
    have aY:=λq I=>L.own_lt (b:=q) I
    have ay:=Hd L;clear ab bX bS aM bJ a2 L;clear bi
    go_wp2_with fail
    refine bq.mono ?_;rintro e w6 ⟨A6,c6,rfl,aF,b8⟩;have aI:=Ext.trans' ((Ext.refl wr).alloc _) b8;have b0:=ay.out.ext qaa.good (aI.alloc (.cells #[.slice A6 (qcu m x).length c6] 22));obtain⟨news,J,hF⟩:=b0;have ag:=qe7 w6 #[.slice A6 (qcu m x).length c6] 22;have cg:=aI.size;have a3:=az.size;have b7:=aa.size
    have hy:qaa (λb=>P b/\(Value.slice A4 (rj j).length c4).ownBlock≠some b) (w6.alloc (.cells #[.slice A6 (qcu m x).length c6] 22)) (qcu m x) [.slice A6 (qcu m x).length c6] :=
     qaa.good.bel (qaa.good.mono (aF.sl RLb.good (by decide)) λq _ I=>⟨I.elim (λh=>h.1.1) λh=>hP q (by simp at h;omega),λe=>by
      have:=aY q e
      rcases I with h | h
      .have h':q<M.heap.size:=h.1.2;omega
      simp at h;omega⟩) ((Ext.refl _).alloc _)
    have HF:=Hd hF;have HY:=Hd hy;clear hF hy bq aF
    go_wp2_with (at_builtin;refine wpList_append_own_at _ rfl _ _ 30 rfl M.heap.size 22 i3 _ 1 24 Tryz.underlying30 bb bj aJ ax rfl (by decide) _ _ _ rfl J ⟨w6.heap.size,0,none⟩ 1 1 [.slice A6 (qcu m x).length c6] rfl rfl ag (by simp[Value.oneCell']) (by unfold maxLen;omega) (by omega) (by simp;omega) ?_;intro v8 w8 al ad bc aS;obtain⟨g8,c8,rfl⟩:=ownsRow_succ al)
    have b1:=Hd (qo1 HF.out HY.out al ad aS);have bV:Ext M w8:=Below.grown ((az.trans' aI).alloc _) ad (by simp;omega) λq I=>(aY q I).1
    clear al ad aS bc J ag
    go_wp2_with fail
    go_roundw
    case rel=>exact⟨j+1,some ⟨g8,0,none⟩,c8,by omega,by go_num,by rw[aP.out,List.length_append];rfl,by rw[aP.out,List.length_append];exact b1.out,bV⟩
    simp[intOf];omega
   obtain rfl:j=a.length:=by omega
   rw[ai.out]at L;have b6:=Hd ai;have ay:=Hd L;clear L
   go_wp2_with fail
   go_roundw
   case rel=>exact⟨i+1,A4,c4,by omega,by go_num,by rw[b6.out.out],ay.out,az⟩
   simp[intOf];omega
  obtain rfl:i=E.length:=by omega
  rw[List.take_length]at d ⊢;have Y:=λq I=>d.own_lt (b:=q) I
  have aN:=qp7 a ha E;have bC:(qcp E a).length<=8000000:=by omega
  obtain⟨nr,aD⟩:=nm (qcp E a);have bD:Hid (qd8 E a=qcm (qch nr)):=by show _=_;rw[qd8,aD]
  rw[aD]at d Y bC ⊢;clear aN aD;have hs:=qrl M.heap.size _ nr _ wr d (by omega);have ap:=λW (hW:qab qaa 1 22 M.heap.size P W (qch nr) (.slice A' nr.length c'))=>qoq M.heap.size _ (qch nr) _ W hW (by rw[qk4];omega)
  obtain⟨n,hn⟩:=nm (qcm (qch nr));rw[hn]at ap;have HN:Hid (qd8 E a=n):=by show _=_;rw[bD.out,hn]
  clear hn d bD
  go_wp2_with fail
  refine hs.mono ?_;rintro e w3 ⟨rfl,aE,br⟩
  go_wp2_with fail
  refine(ap _ aE).mono ?_;rintro e w4 ⟨A4,c4,rfl,ak,bs⟩;have a6:Ext M w4:=Bt.new (Z:=λb=>M.heap.size<=b) aa ((br.mono λb _ h=>(Y b h).1).trans (bs.mono λb _ h=>(Y b h).1)) λ_ _ h=>h
  have aA:Ext w w4:=a5.trans' (ao.trans' a6)
  have X:=conPLbs (λm=>decide (64<m.length)) (λ_=>True) w4 n _ ((RSl.good qaa.good).mono (ak.sl qaa.good (by decide)) λ_ _ _=>trivial) 148 #[] eg148 (λm hm cs W hW hr=>by
   obtain⟨Am,cm,rfl,_⟩:=id hr
   exact musts1_c _ m _ W hr)
  have bP:=Hd ak;clear ak aE br bs hs ap
  by_cases aT:2000<n.length
  .have hz:=decide_eq_true (show(2000:Int)<(n.length:Int) by omega);have HF:Hid (qcc s u=none):=by show _=_;rw[aK.out,<- aL.out,a4.out,HN.out,if_pos (by simp[qg7,aT])]
   clear X
   go_wp2_with fail
   go_ret2;rw[HF.out];exact⟨none,0,rfl,qab.nil ..,aA⟩
  have hz:=decide_eq_false (show ¬ (2000:Int)<(n.length:Int) by omega)
  by_cases U:(n.any λm=>decide (64<m.length))=true
  .have HF:Hid (qcc s u=none):=by show _=_;rw[aK.out,<- aL.out,a4.out,HN.out,if_pos (by simp only[qg7,U,Bool.or_true])]
   rw[U]at X;clear U
   go_wp2_with fail
   refine X.mono ?_;rintro e w5 ⟨rfl,aw⟩
   go_wp2_with fail
   go_ret2;rw[HF.out];exact⟨none,0,rfl,qab.nil ..,aA.trans' aw⟩
  have bh:qg7 n=false:=by simp only[qg7,eq_false_of_ne_true U,decide_eq_false aT,Bool.or_false]
  have aZ:=qtr bh;have bw:Hid (qdc (F.drop (k+1)) (qfl n)=qdc F [[]]):=by show _=_;rw[<- aL.out,a4.out,HN.out,if_neg (by rw[bh];decide)]
  rw[eq_false_of_ne_true U]at X;clear U bh
  go_wp2_with fail
  refine X.mono ?_;rintro e w5 ⟨rfl,aw⟩;have bf:=bP.out.ext qaa.good aw;have bF:=λq I=>bf.own_lt (b:=q) I
  have bA:=least_c P M.heap.size (λb hb=>hP b (by omega)) n _ w5 bf (by have:=a6.size;have:=aw.size;omega) (by omega) (λm hm=>Nat.le_trans (aZ.2 m hm) (by decide));clear bf X
  go_wp2_with fail
  refine bA.mono ?_;rintro e w6 ⟨A6,c6,rfl,aF,bu⟩;have bU:Ext M w6:=Bt.new (a6.trans' aw) bu λb _ h=>(bF b h).1
  have bQ:=Hd aF;have cn:=qtu n;have b9:w.heap.size<=w5.heap.size:=by have:=aA.size;have:=aw.size;omega
  clear aF bA bu
  go_wp2_with fail
  go_roundw
  case rel=>exact⟨k+1,A6,c6,qfl n,by omega,by go_num,rfl,bQ.out.base b9,by omega,λm hm=>aZ.2 m (qpc n m hm),bw.out,ao.trans' bU⟩
  simp[intOf];omega
 obtain rfl:k=F.length:=by omega
 have bv:Hid (qcc s u=some E):=by show _=_;rw[aK.out,<- aL.out,List.drop_length,qdc]
 have HO:=Hd d;clear d
 go_wp2_with fail
 go_ret2;rw[bv.out];exact⟨A,c,rfl,HO.out,a5.trans' ao⟩
end
section
open Go.Shelf
theorem qri (p:Int->Bool):∀(i:Nat) (xs:List Lb) (x:Lb),x∈qbp p i xs->x∈xs
 | _,[],x,h=>h
 | i,y :: ys,x,h=>by
  rw[qbp]at h
  split at h
  .rcases List.mem_cons.1 h with rfl | h
   .simp
   exact List.mem_cons_of_mem _ (qri p (i+1) ys x h)
  exact List.mem_cons_of_mem _ (qri p (i+1) ys x h)
theorem quy (l:List Lb) (x y:Lb) (h:y∈qcu l x):y∈l\/y=x:=by
 simp only[qcu,List.mem_append,List.mem_singleton]at h
 rcases h with (h | h) | h
 .exact .inl (List.mem_of_mem_take h)
 .exact .inr h
 exact .inl (List.mem_of_mem_drop h)
def Sub (s:Sy) (ls:List (List Lb)):Prop:=∀m∈ls,∀x∈m,x∈s.ls
theorem nextS_sub {s:Sy} {A:List (List Lb)} {a:List Lb} (h:Sub s A) (G:∀x∈a,x∈s.ls):Sub s (qd8 A a):=λm I x u=>by
 have E:=(qhr (qcp A a) m).1 (qlc qct _ m I);obtain⟨D,d,c⟩:=List.mem_flatMap.1 E;unfold qfv at c
 split at c
 .rw [List.mem_singleton.1 c]at u;exact h D d x u
 obtain⟨y,hy,rfl⟩:=List.mem_map.1 c
 rcases quy D y x u with F | rfl
 .exact h D d x F
 exact G _ hy
theorem qst {s:Sy}:∀{d c:List (List Lb)} {r:List (List Lb)},Sub s d->Sub s c->qdc d c=some r->Sub s r
 | [],c,r,_,h,e=>by rw[qdc]at e;injection e with e;rw[<- e];exact h
 | a :: d,c,r,hb,h,e=>by
  rw[qdc]at e
  split at e
  .cases e
  exact qst (λm u=>hb m (List.mem_cons_of_mem _ u)) (λm u=>nextS_sub h (hb a (List.mem_cons_self ..)) m (qpc _ m u)) e
theorem qpd (s:Sy) (d:List Int):Sub s (qb7 (qcc s d)):=by
 cases h:qcc s d with
 | none=>intro m c;simp[qb7]at c
 | some r =>
  unfold qcc at h
  split at h
  .injection h with h
   subst h;intro m c;simp[qb7]at c
  refine qst (λm c x u=>?_) (λm c x u=>?_) h
  .obtain ⟨t,_,rfl⟩:=List.mem_map.1 ((qhr _ m).1 (qlc qct _ m c));exact qri _ _ _ x u
  rw[List.mem_singleton.1 c]at u;simp at u
theorem ql1 (s:Sy) (c:List Int):(qb7 (qcc s c)).length<=2000/\∀m∈qb7 (qcc s c),m.length<=64:=by
 have go:∀(u d r:List (List Lb)),d.length<=2000->(∀m∈d,m.length<=64)->qdc u d=some r->r.length<=2000/\∀m∈r,m.length<=64:=by
  intro u
  induction u with
  | nil=>intro d r A D e;rw[qdc]at e;injection e with e;rw[<- e];exact⟨A,D⟩
  | cons a u ih =>
   intro d r A D e;rw[qdc]at e
   split at e
   .cases e
   rename_i G;have E:=qtr (eq_false_of_ne_true G);exact ih _ r (Nat.le_trans (qtu _) E.1) (λm F=>E.2 m (qpc _ m F)) e
 cases h:qcc s c with
 | none=>simp[qb7]
 | some r =>
  unfold qcc at h
  split at h
  .injection h with h
   subst h;simp[qb7]
  exact go _ _ r (by decide) (by simp) h
def qfk (s:Sy):Prop:=∀x∈s.ls,x.size<=1000000000
open Classical in
noncomputable def qf1 (s:Sy) (tr:List Lb):Int:=if qah s then (if qbk tr then errO (qcc s (qao s tr)) else 1) else 8
open Classical in
noncomputable def qeu (s:Sy) (tr:List Lb):List (List Lb):=if qah s/\qbk tr=true then qb7 (qcc s (qao s tr)) else []
def qpw {α:Type} (R:Rdr α) (k:Nat) (t:TypeId) (r:List α) (err:Int) (w:World) (e:Ending) (w':World):Prop :=
 ∃A c,e = .returned (.tuple #[.slice A r.length c,.int .i64 err])/\qab R k t w.heap.size (λ_=>True) w' r (.slice A r.length c)/\Ext w w'
theorem Musts_c (S:Nat->Prop) (s:Sy) (ap:qfk s) (cs:List Value) (d:List Lb) (v:Value) (w:World) (hx:RSy S w s cs) (ht:qaa S w d [v]) :
  Calls Tryz.prog 18 #[.agg cs.toArray,v] w (qpw qaa 1 22 (qeu s d) (qf1 s d) w):=by
 have O:=λW (X:Ext w W)=>qn8 S d v W (qaa.good.bel ht X)
 obtain⟨_,vl,ve,rfl,ak,aj⟩:=id hx;obtain⟨Al,cl,rfl,_,_⟩:=ak.val;obtain⟨Ae,ce,rfl,_,_⟩:=aj.val;obtain⟨A,c,rfl,hc,ax⟩:=ht.val;have HX:=Hd hx;have HT:=Hd ht;clear hx ht ak aj
 by_cases m:qah s
 case neg =>
  have F:=λW (X:Ext w W)=>qij S s _ W (RSy.good.bel HX.out X) m
  have M:=Hd (And.intro (show qf1 s d=8 from if_neg m) (show qeu s d=[] from if_neg λh=>m h.1))
  go_enter Tryz.func18,Tryz.ntmps18
  go_wp2_with fail
  refine(F _ bel).mono ?_;rintro e w1 ⟨rfl,h1⟩
  go_wp2_with fail
  go_ret2;rw[M.out.1,M.out.2];exact⟨none,0,rfl,qab.nil ..,bel⟩
 have F:=λW (X:Ext w W)=>qhj S s _ W (RSy.good.bel HX.out X) m
 by_cases E:qbk d=true
 case neg =>
  rw[eq_false_of_ne_true E]at O;have M:=Hd (And.intro (show qf1 s d=1 from by rw[qf1,if_pos m,if_neg E]) (show qeu s d=[] from if_neg λh=>E h.2))
  go_enter Tryz.func18,Tryz.ntmps18
  go_wp2_with fail
  refine(F _ bel).mono ?_;rintro e w1 ⟨g,rfl,h1,hg,hS⟩
  go_wp2_with fail
  refine(O _ bel).mono ?_;rintro e w2 ⟨rfl,h2⟩
  go_wp2_with fail
  go_ret2;rw[M.out.1,M.out.2];exact⟨none,0,rfl,qab.nil ..,bel⟩
 rw[E]at O;have M:=Hd (And.intro (show qf1 s d=errO (qcc s (qao s d)) from by rw[qf1,if_pos m,if_pos E]) (show qeu s d=qb7 (qcc s (qao s d)) from if_pos ⟨m,E⟩));have U:d.length<=4611686018427387903:=by simp[qbk]at E;omega
 have an:=λW g (hg:qaz (λ_=>True) W g s) (X:Ext w W)=>qlp (λ_=>True) s m g d _ W hg (qaa.good.bel (qaa.good.mono HT.out λ_ _ _=>trivial) X) U
 have ad:(qao s d).length<=1000000:=by have:=qqs s d;have:=m.2.2.2.1;omega
 have af:=λW g vs (hg:qaz (λ_=>True) W g s) (hv:RSl qad 1 (λ_=>True) W (qao s d) [vs])=>musts_c (λ_=>True) (λ_=>True) s m g (qao s d) vs W hg (λ_ _=>trivial) hv ad
 obtain⟨r,hr⟩:=nm (qcc s (qao s d));have J:=qpd s (qao s d);have Y:=ql1 s (qao s d);rw[hr]at M af J Y;clear U E ad hr
 go_enter Tryz.func18,Tryz.ntmps18
 go_wp2_with fail
 refine(F _ bel).mono ?_;rintro e w1 ⟨g,rfl,h1,hg,hS⟩;have HS:=Hd hS;clear hS
 go_wp2_with fail
 refine(O _ bel).mono ?_;rintro e w2 ⟨rfl,h2⟩
 go_wp2_with fail
 refine(an _ g ((HS.out.mono λ_ _ _=>trivial).bel bel) bel).mono ?_;rintro e w3 ac;obtain⟨A3,c3,rfl,ag,h3⟩:=ac.at (b':=w.heap.size) (by have:=h1.size;have:=h2.size;simp at *;omega);have HO:=Hd ag;clear ag ac
 go_wp2_with fail
 refine(af _ g _ ((HS.out.mono λ_ _ _=>trivial).bel bel) ((RSl.good qad.good).mono ((RSl.good qad.good).bel (HO.out.sl qad.good (by decide)) bel) λ_ _ _=>trivial)).mono ?_;rintro e w4 ⟨A4,c4,rfl,ah,h4⟩;have am:Ext w w4:=bel;have al:w.heap.size<=w3.heap.size:=by have:=h1.size;have:=h2.size;have:=h3.size;simp at *;omega
 have ab:=Hd (ah.base al);obtain⟨l,hl⟩:=nm (qb7 r);rw[hl]at J Y ab M ⊢;clear ah hl HS HO h1 h2 h3 h4 hg al
 go_wp2_with fail
 go_loopw [31] (λvi wr=>∃k:Nat,k<=l.length/\vi = .int .i64 k/\qab qaa 1 22 w.heap.size (λ_=>True) wr l (.slice A4 l.length c4)/\Ext w wr) (λvi _=>l.length-(intOf vi).toNat)
 case atStart=>exact⟨0,Nat.zero_le _,rfl,ab.out,am⟩
 obtain⟨k,hk,rfl,D,hE⟩:=hrel
 by_cases N:k<l.length
 .obtain ⟨news,I,_⟩:=id D;obtain⟨g2,au,he⟩:=Joins.ownsRow_form I (by omega);injection he with he1 _ he2
  subst he1 he2;have ao:=qcb I g2 rfl;obtain⟨u,gc,aa,gf⟩:=D.get1 k N;have ae:=qrb (λb=>True/\b≠g2) l[k] u wr aa (λx hx=>ap x (J _ (List.getElem_mem N) x hx)) (by have:=Y.2 _ (List.getElem_mem N);omega);obtain⟨Au,cu,rfl,_,_⟩:=aa.val;have V:=Hd D;clear I aa D
  go_wp2_with fail
  refine ae.mono ?_;rintro e w5 ⟨A5,c5,rfl,ai,L⟩;have av:=Ext.keep L gc;have aw:=qdy L (World.block_lt_of_cell? wr _ gc) gf;have aq:=L.size
  have G:=qab.put1 qaa.good (V.out.ext qaa.good L) rfl k (.slice A5 l[k].length c5) l[k] N (qaa.good.mono ai λb _ hb=>⟨trivial,by
   rcases hb with h | h
   .exact h.1.2
   omega⟩)
  rw[List.set_getElem_self]at G;have HP:=Hd G;clear G ai ae gc
  go_wp2_with fail
  go_roundw
  case rel=>exact⟨k+1,by omega,by go_num,HP.out,(hE.trans' L).set ao.1 _⟩
  simp[intOf];omega
 have V:=Hd D;clear D
 go_wp2_with fail
 go_ret2;rw[M.out.1,M.out.2];exact⟨A4,c4,rfl,V.out,hE⟩
end
end Go.Proofs.YtegenalcheooeaaGreat
