/- Of the proof of a law of the suites: RLast, LTerm. -/
import Derived.Test.YtegenalcheooeaaGreatB02
import Derived.Test.YtegenalcheooeaaGreatB04
import Derived.Test.YtegenalcheooeaaGreatB05
import Derived.Test.YtegenalcheooeaaGreatB08
import Derived.Test.YtegenalcheooeaaGreatB10
set_option linter.unusedSectionVars false
set_option linter.unusedSimpArgs false
set_option linter.unusedVariables false
namespace Go.Proofs.YtegenalcheooeaaGreat
open Go.RowKit
attribute [local go_sem] cell?_exto
set_option maxHeartbeats 16000000
set_option maxRecDepth 100000
section

def qis (l:List Oper) (i:Nat):List Nat:=match l[i]? with
 | some o=>qjq o
 | none=>[]
def ancN (l:List Oper):Nat->List Nat->List Nat
 | 0,S=>S
 | n+1,S=>ancN l n (S++(S.flatMap (qis l)).filter (λi=>!S.contains i))
def lastB (l:List Oper) (o:Oper):Bool:=l.all (λo=>o.guard.isNone) && o.guard.isNone && (List.range l.length).all (λi=>(ancN l l.length (qjq o)).contains i) && (List.range l.length).all (λi=>(qis l i).all λj=>decide (j<i)) && (qjq o).all (λj=>decide (j<l.length))
def Closed (l:List Oper) (listed:Array Bool):Prop:=∀i,listed.getD i false=true->∀j∈qis l i,listed.getD j false=true
theorem qrs {l:List Oper} {c:Array Bool} (m:Closed l c):∀(n:Nat) (S:List Nat),(∀i∈S,c.getD i false=true)->∀i∈ancN l n S,c.getD i false=true
 | 0,_,h=>h
 | n+1,S,h=>qrs m n _ λi hi=>by
  rcases List.mem_append.1 hi with hi | hi
  .exact h i hi
  obtain⟨j,u,d⟩:=List.mem_flatMap.1 (List.mem_filter.1 hi).1;exact m j (h j u) i d
def qkr (P:Program) (o:Oper) (Q:Exit->Act->World->Prop):Exit->Act->World->Prop
 | .normal,a,w=>o.wp P a w (λa' w'=>Q .normal a' w') Q
 | e,a,w=>Q e a w
theorem qh4 {c:Array Bool} {i n:Nat} (hs:c.size=n) (hi:i<n) (b d:Bool):(c.push b).getD i d=c.getD i d:=by
 have:i<c.size:=by omega
 simp[Array.getElem?_push,this,show ¬ i=c.size by omega]
theorem ql7 {l:List Oper} {i:Nat} {o:Oper} (h:l[i]? = some o) {e:Edge} (d:e∈o.after) (c:Region.binds .any e=true):e.on∈qis l i:=by
 unfold qis;rw[h];exact List.mem_map.2 ⟨e,List.mem_filter.2 ⟨by simpa using d,c⟩,rfl⟩
theorem deps_of {l:List Oper} {i j:Nat} (h:j∈qis l i):∃o e,l[i]? = some o/\e∈o.after/\Region.binds .any e=true/\e.on=j:=by
 unfold qis at h
 cases d:l[i]? with
 | none=>rw[d]at h;cases h
 | some o =>
  rw[d]at h;obtain⟨e,c,rfl⟩:=List.mem_map.1 h;obtain⟨c,m⟩:=List.mem_filter.1 c;exact⟨o,e,rfl,by simpa using c,m,rfl⟩
theorem qxg {P:Program} {l:List Oper} {o:Oper} {Q:Exit->Act->World->Prop} (hB:lastB l o=true):∀(m:Nat) (c:Array Bool) (a:Act) (w:World),c.size=l.length->Closed l c ->
  wpAny P .any l.toArray (qkr P o Q) m c a w->wpAny P .any (l++[o]).toArray Q (m+1) (c.push false) a w:=by
 simp only[lastB,Bool.and_eq_true]at hB;obtain⟨⟨⟨⟨hg,ai⟩,al⟩,G⟩,af⟩:=hB;have aa:∀i,i<l.length->(l++[o]).toArray[i]? = l.toArray[i]?:=λi hi=>by simp[List.getElem?_append_left hi]
 have E:(l++[o]).toArray[l.length]? = some o:=by simp
 have ag:∀(m:Nat) (c:Array Bool) (a:Act) (w:World),c.size=l.length->(∀i,i<l.length->c.getD i false=true)->qkr P o Q .normal a w->wpAny P .any (l++[o]).toArray Q (m+1) (c.push false) a w:=λm c a w hs U hq=>by
  have F:l.length∈Region.ready .any (l++[o]).toArray (c.push false):=by
   refine mem_ready.2 ⟨by simp[<- hs],o,E,λe D L=>?_⟩
   have d:e.on<l.length:=by
    have:=List.all_eq_true.1 af e.on (List.mem_map.2 ⟨e,List.mem_filter.2 ⟨by simpa using D,L⟩,rfl⟩);simpa using this
   rw[qh4 hs d];exact U _ d
  refine⟨λh0=>absurd h0 (by intro h0;rw[h0]at F;cases F),λi hi=>?_⟩;obtain⟨N,X,u,h3⟩:=mem_ready.1 hi
  have V:i=l.length:=by
   apply Classical.byContradiction
   intro ab
   have d:i<l.length:=by
    have:=(Array.getElem?_eq_some_iff.1 u).1;simp at this;omega
   rw[qh4 hs d]at N;have M:=U i d;have:i<c.size:=by omega
   simp[this]at N M;rw[N]at M
   cases M
  subst V;rw[E]at u;injection u with u
  subst u;unfold wpOp;rw[E];simp only
  have hw:Region.wanted o (yielded (l++[o]).toArray a.tmps)=true:=by
   cases aj:o.guard with
   | none=>simp[Region.wanted,aj]
   | some g=>rw[aj]at ai;cases ai
  rw[if_pos hw];refine .inl (Oper.wp_mono (λa' w' an=>?_) hq);refine wpAny_done ?_ an _
  apply List.eq_nil_iff_forall_not_mem.2
  intro i hi;obtain⟨N,X,u,_⟩:=mem_ready.1 hi
  by_cases ab:i=l.length
  .subst ab;simp[<- hs]at N
  have d:i<l.length:=by
   have:=(Array.getElem?_eq_some_iff.1 u).1;simp at this;omega
  rw[getD_set_ne true (Ne.symm ab),qh4 hs d]at N;have M:=U i d;have:i<c.size:=by omega
  simp[this]at N M;rw[N]at M
  cases M
 intro m
 induction m with
 | zero =>
  intro c a w hs hc h;refine ag 0 c a w hs (λi=>?_) h.2
  induction i using Nat.strongRecOn with
  | _ i ih =>
  intro hi
  apply Classical.byContradiction
  intro hn;have ae:i<c.size:=by omega
  have A:i∈Region.ready .any l.toArray c:=by
   refine mem_ready.2 ⟨by simp[ae]at hn ⊢;exact hn,l[i],by simp[hi],λe D L=>?_⟩
   have d:e.on<i:=by
    have h5:=List.all_eq_true.1 G i (List.mem_range.2 hi);have I:=List.all_eq_true.1 h5 e.on (ql7 (List.getElem?_eq_getElem hi) D L);simpa using I
   exact ih e.on d (by omega)
  rw[h.1]at A
  cases A
 | succ m ih =>
  intro c a w hs hc h
  by_cases hr:Region.ready .any l.toArray c=[]
  .refine ag (m+1) c a w hs (λi=>?_) (h.1 hr)
   induction i using Nat.strongRecOn with
   | _ i ih =>
   intro hi
   apply Classical.byContradiction
   intro hn;have ae:i<c.size:=by omega
   have A:i∈Region.ready .any l.toArray c:=by
    refine mem_ready.2 ⟨by simp[ae]at hn ⊢;exact hn,l[i],by simp[hi],λe D L=>?_⟩
    have d:e.on<i:=by
     have h5:=List.all_eq_true.1 G i (List.mem_range.2 hi);have I:=List.all_eq_true.1 h5 e.on (ql7 (List.getElem?_eq_getElem hi) D L);simpa using I
    exact ih e.on d (by omega)
   rw[hr]at A
   cases A
  obtain⟨k,hk⟩:=List.exists_mem_of_ne_nil _ hr;obtain⟨ad,ok,ac,ap⟩:=mem_ready.1 hk;have Y:k<l.length:=by simpa using (Array.getElem?_eq_some_iff.1 ac).1
  have V:∀i∈Region.ready .any (l++[o]).toArray (c.push false),i<l.length/\i∈Region.ready .any l.toArray c:=λi hi=>by
   obtain⟨N,X,u,h3⟩:=mem_ready.1 hi
   have d:i<l.length:=by
    apply Classical.byContradiction
    intro aq
    have V:i=l.length:=by
     have:=(Array.getElem?_eq_some_iff.1 u).1;simp at this;omega
    subst V;rw[E]at u;injection u with u
    subst u
    have I:=qrs hc l.length (qjq o) (λj hj=>by
     obtain⟨e,D,rfl⟩:=List.mem_map.1 hj;obtain⟨D,L⟩:=List.mem_filter.1 D;have h7:=h3 e (by simpa using D) L;have O:e.on<l.length:=by simpa using List.all_eq_true.1 af e.on hj
     rwa [qh4 hs O]at h7) k (by simpa using List.all_eq_true.1 al k (List.mem_range.2 Y))
    have ao:k<c.size:=by omega
    simp[ao]at ad I;rw[ad]at I
    cases I
   refine⟨d,mem_ready.2 ⟨by rwa [qh4 hs d]at N,X,by rwa [aa i d]at u,λe D L=>?_⟩⟩;have h7:=h3 e D L;have J:l[i]? = some X:=by rw[aa i d]at u;simpa using u
   have O:e.on<l.length:=by
    have h5:=List.all_eq_true.1 G i (List.mem_range.2 d);have I:=List.all_eq_true.1 h5 e.on (ql7 J D L);have:e.on<i:=by simpa using I
    omega
   rwa [qh4 hs O]at h7
  refine⟨λh0=>?_,λi hi=>?_⟩
  .exfalso
   have:k∈Region.ready .any (l++[o]).toArray (c.push false):=by
    refine mem_ready.2 ⟨by rw[qh4 hs Y];exact ad,ok,by rw[aa k Y];exact ac,λe D L=>?_⟩;have h7:=ap e D L;have J:l[k]? = some ok:=by simpa using ac
    have O:e.on<l.length:=by
     have h5:=List.all_eq_true.1 G k (List.mem_range.2 Y);have I:=List.all_eq_true.1 h5 e.on (ql7 J D L);have:e.on<k:=by simpa using I
     omega
    rw[qh4 hs O];exact h7
   rw[h0]at this
   cases this
  obtain⟨d,ah⟩:=V i hi;have h8:=h.2 i ah;obtain⟨N,X,u,h3⟩:=mem_ready.1 ah;have J:l[i]? = some X:=by simpa using u
  have am:X.guard=none:=by
   have:=List.all_eq_true.1 hg X (List.mem_of_getElem? J)
   cases hq:X.guard with
   | none=>rfl
   | some g=>rw[hq]at this;cases this
  unfold wpOp at h8 ⊢;rw[u]at h8;rw[aa i d,u];simp only[Region.wanted,am,if_true]at h8 ⊢
  have hK:∀a' w',wpAny P .any l.toArray (qkr P o Q) m (c.setIfInBounds i true) a' w'->wpAny P .any (l++[o]).toArray Q (m+1) ((c.push false).setIfInBounds i true) a' w':=λa' w' hh=>by
   have D:(c.push false).setIfInBounds i true=(c.setIfInBounds i true).push false:=by
    apply Array.ext_getElem?
    intro t;rw[Array.getElem?_setIfInBounds,Array.getElem?_push,Array.getElem?_push,Array.getElem?_setIfInBounds];simp only[Array.size_push,Array.size_setIfInBounds]
    split <;> rename_i h9
    .subst h9;have:i<c.size:=by omega
     simp only[this,if_true,show i<c.size+1 from by omega,show ¬ i=c.size from by omega,if_false]
    rfl
   rw[D];refine ih _ a' w' (by simpa using hs) (λj hj q hq=>?_) hh
   by_cases ak:j=i
   .subst ak;obtain⟨o2,e,M,h5,I,rfl⟩:=deps_of hq;rw[J]at M;injection M with M
    subst M;exact getD_set_true (h3 e h5 I)
   rw[getD_set_ne false (Ne.symm ak)]at hj;exact getD_set_true (hc j hj q hq)
  rcases h8 with h8 | h8
  .refine .inl ?_;have h9:=Oper.wp_mono hK h8;unfold Oper.wp at h9 ⊢
   generalize (execOp a.eval X).run P w=r at *
   cases r with
   | ok n w'=>cases n <;> exact h9
   | halt x w'=>cases x <;> exact h9
  exact .inr h8
theorem qxb {P:Program} {id:Nat} {c l:List Oper} {o:Oper} {Q:Exit->Act->World->Prop} {a:Act} {w:World} (d:c=l++[o]) (S:World->Prop) (A:P.follows .mixedOrders=true) (u:lastB l o=true) (hS:S w.drew)
  (h:S w.drew->wpAnyH P .any l.toArray (qkr P o Q) S l.toArray.size (Array.replicate l.toArray.size false) a w.drew):(Code.region id c.toArray true).wp P Q a w:=by
 subst d;refine wp_region_any A ?_
 have m:=qxg (Q:=Q) u l.length (Array.replicate l.length false) a w.drew (by simp) (λi hi=>by
  exfalso
  by_cases h:i<l.length
  .simp [h]at hi
  simp[h]at hi) (wpAny_of_held _ _ _ _ (by simpa using h hS))
 have D:(Array.replicate l.length false).push false=Array.replicate (l++[o]).toArray.size false:=by rw[List.size_toArray,List.length_append,List.length_singleton,Array.replicate_succ]
 rw[D]at m;have hs:(l++[o]).toArray.size=l.length+1:=by simp
 rw[hs]at m ⊢;exact m
theorem qek {P:Program} {id:Nat} {c:List Oper} {Q:Exit->Act->World->Prop} {a:Act} {w:World} (S:World->Prop) (A:P.follows .mixedOrders=true) (d:c.isEmpty=false) (m:lastB c.dropLast (c.getLastD default)=true) (hS:S w.drew)
  (h:S w.drew->wpAnyH P .any c.dropLast.toArray (qkr P (c.getLastD default) Q) S c.dropLast.toArray.size (Array.replicate c.dropLast.toArray.size false) a w.drew):(Code.region id c.toArray true).wp P Q a w:=by
 refine qxb ?_ S A m hS h
 cases c with
 | nil=>cases d
 | cons x xs =>
  have u:(x :: xs).getLastD default=(x :: xs).getLast (by simp):=by
   cases xs with
   | nil=>rfl
   | cons y ys=>simp[List.getLastD,List.getLast?_eq_some_getLast]
  rw[u,List.dropLast_concat_getLast]
end
section
/- lts.term,lts.label: terms and labels in new memory. -/
open Go.Shelf
def qaf (W:World) (B:Nat) (t:TypeId) (cs:List Value):Prop:=W.heap[B]? = some (.cells cs.toArray t (0,0))
section
variable {W W':World} {B:Nat} {t:TypeId} {cs:List Value}
theorem qaf.lt (h:qaf W B t cs):B<W.heap.size:=(Array.getElem?_eq_some_iff.1 h).1
theorem qaf.cell (h:qaf W B t cs) (i:Nat) (u:Value) (hi:cs[i]? = some u:=by rfl):W.cell? ⟨B,i,none⟩=some u:=(cell_of_row W B i _ _ _ h).trans (by simpa using hi)
theorem c3 {a b c:Value} {cs:List Value} (h:qaf W B t (a :: b :: c :: cs)):W.cell? ⟨B,0,none⟩=some a/\W.cell? ⟨B,1,none⟩=some b/\W.cell? ⟨B,2,none⟩=some c/\B<W.heap.size:=⟨h.cell 0 _,h.cell 1 _,h.cell 2 _,h.lt⟩
theorem c2 {a b:Value} {cs:List Value} (h:qaf W B t (a :: b :: cs)):W.cell? ⟨B,0,none⟩=some a/\W.cell? ⟨B,1,none⟩=some b/\B<W.heap.size:=⟨h.cell 0 _,h.cell 1 _,h.lt⟩
theorem qaf.frozen (h:qaf W B t cs) (i:Nat):W.frozen? ⟨B,i,none⟩=false:=by simp[World.frozen?,show W.heap[B]? = _ from h]
theorem qaf.set (h:qaf W B t cs) (i:Nat) (u:Value):qaf (W.setCell ⟨B,i,none⟩ u) B t (cs.set i u):=by
 unfold qaf at *;simp only[World.setCell,Array.getElem?_modify,h]
 simp
theorem qaf.keep (h:qaf W B t cs) (c:W'.heap[B]? = W.heap[B]?):qaf W' B t cs:=c.trans h
theorem qaf.ext (h:qaf W B t cs) (c:Ext W W'):qaf W' B t cs:=h.keep (c.block B h.lt)
theorem qaf.bt (h:qaf W B t cs) {Z:Nat->Prop} (c:Bt Z W W') (d:¬ Z B):qaf W' B t cs:=h.keep (c.block B h.lt d)
theorem qaf.new (W:World) (t:TypeId) (cs:List Value):qaf (W.alloc (.cells cs.toArray t)) W.heap.size t cs:=World.alloc_heap_new W _
end
theorem qg3 (w:World) (a b c:Obj):(((w.alloc a).alloc b).alloc c).heap[w.heap.size+1]? = some b:=by
 rw[Below.heap_alloc _ _ _ (by simp)];have:=World.alloc_heap_new (w.alloc a) b
 rwa [World.size_alloc]at this
theorem qgy (w:World) (a b c:Obj):(((w.alloc a).alloc b).alloc c).heap[w.heap.size+1+1]? = some c:=by
 have:=World.alloc_heap_new ((w.alloc a).alloc b) c
 rwa [World.size_alloc,World.size_alloc]at this
theorem qcw {α:Type} {R:Rdr α} {k:Nat} (E:Good R k) (hk:0<k) (base:Nat) (e ts:TypeId) (z:Value) (U:Nat) (hu:Tryz.prog.underlying ts=some (.slice e)) (hi:(Tryz.prog.info? e).map (λi=>(i.zero,i.size,i.bytes))=some (some z,k,U)) (J:z.cells.size=k) (L:U<=1000)
  (T:Nat->Prop) (w:World) (xs:List α) (v:Value) (x:α) (cs:List Value) (A:qab R k e base T w xs v) (I:R (λb=>T b/\v.ownBlock≠some b) w x cs) (O:base<=w.heap.size) (hl:xs.length<=1000000) :
  ∃g c w',(Builtin.append_ #[ts,ts] ts #[v,.slice (some ⟨w.heap.size,0,none⟩) 1 1]).run Tryz.prog (w.alloc (.cells cs.toArray e)) = .ok (.slice (some ⟨g,0,none⟩) (xs.length+1) c) w' /\
   qab R k e base T w' (xs++[x]) (.slice (some ⟨g,0,none⟩) (xs.length+1) c)/\Bt (λq=>v.ownBlock=some q) w w'/\(v.ownBlock=some g\/w.heap.size<=g)/\Bt (λq=>v.ownBlock=some q) (w.alloc (.cells cs.toArray e)) w':=by
 obtain⟨i,hi,m⟩:=Option.map_eq_some_iff.1 hi;simp only[Prod.mk.injEq]at m;obtain⟨G,F,M⟩:=m;obtain⟨news,D,hF⟩:=A.ext E ((Ext.refl w).alloc (.cells cs.toArray e));have d:=E.len I
 obtain⟨v',w',hr,Y,N,_,X⟩:=run_append_own_at (P:=Tryz.prog) (w.alloc (.cells cs.toArray e)) base ts ts e i z k U hu hi G F M J hk v xs.length news D ⟨w.heap.size,0,none⟩ 1 1 cs (by rw[d,Nat.one_mul]) (λj u h=>qe7 w cs.toArray e j u h) (E.one I)
  (by unfold maxLen;omega) (Nat.le_trans (Nat.mul_le_mul (show xs.length+1<=1000001 by omega) L) (by decide)) (by rw[World.size_alloc];omega)
 obtain⟨g,c,rfl⟩:=ownsRow_succ Y;refine⟨g,c,w',hr,qab.push E hF (Flat.single (E.bel I ((Ext.refl w).alloc _)) d) Y N X,?_,?_⟩
 .exact ((Ext.refl w).alloc _).bt.trans ((Bt.of_grown N).mono λq _ h=>h.symm)
 refine⟨?_,(Bt.of_grown N).mono λq _ h=>h.symm⟩
 rcases X with h | h
 .exact .inl h.symm
 right
 have V:some g=some (World.heap (w.alloc (.cells cs.toArray e))).size:=h;injection V with V
 rw[World.size_alloc]at V;omega
theorem qzk {d:Func} {p:Tmp} (h:d.results = #[.cell p 159]) (tmps:Array Value) (w:World) (g:Nat) (x y z:Value) (u:tmps.getD p undef = .pointer (some ⟨g,0,none⟩)) (D:w.cell? ⟨g,0,none⟩=some x) (A:w.cell? ⟨g,1,none⟩=some y) (m:w.cell? ⟨g,2,none⟩=some z) :
  (results d tmps).run Tryz.prog w = .ok (.agg #[x,y,z]) w:=by
 have c:tmps[p]?.getD undef = .pointer (some ⟨g,0,none⟩):=by simpa using u
 simp[results,h,c,asAddr,go_sem,D,A,m]
theorem qvn {d:Func} {p:Tmp} (h:d.results = #[.cell p 61]) (tmps:Array Value) (w:World) (g:Nat) (x y:Value) (m:tmps.getD p undef = .pointer (some ⟨g,0,none⟩)) (A:w.cell? ⟨g,0,none⟩=some x) (u:w.cell? ⟨g,1,none⟩=some y) :
  (results d tmps).run Tryz.prog w = .ok (.agg #[x,y]) w:=by
 have c:tmps[p]?.getD undef = .pointer (some ⟨g,0,none⟩):=by simpa using m
 simp[results,h,c,asAddr,go_sem,A,u]
def TermPost (t:Tm) (w:World) (e:Ending) (w':World):Prop:=∃A c,e = .returned (.agg #[.int .i64 t.k,.int .i64 t.n,.slice A t.l.length c])/\qar (λb=>w.heap.size<=b) w' t.l [.slice A t.l.length c]/\Ext w w'
def NewC (t:Tm):Prop:=∀(S:Nat->Prop) (cs:List Value) (W:World),RTm S W t cs->Calls Tryz.prog 288 #[.agg cs.toArray] W (TermPost t W)
theorem qi6 {α:Type} {R:Rdr α} {k:Nat} (L:Good R k) {base:Nat} {e t:TypeId} {T:Nat->Prop} {D c:World} {xs:List α} {v v8:Value} {B:Nat} {cs:List Value} (i:Nat)
  (G:qaf D B t cs) (A:qab R k e base T c xs v8) (m:Bt (λq=>v.ownBlock=some q) D c) (F:v.ownBlock≠some B) (E:v8.ownBlock≠some B) (J:¬ T B) :
  c.cell? ⟨B,i,none⟩=D.cell? ⟨B,i,none⟩/\c.frozen? ⟨B,i,none⟩=false/\qaf (c.setCell ⟨B,i,none⟩ v8) B t (cs.set i v8)/\qab R k e base T (c.setCell ⟨B,i,none⟩ v8) xs v8/\Bt (λq=>v.ownBlock=some q\/q=B) D (c.setCell ⟨B,i,none⟩ v8):=by
 have u:qaf c B t cs:=G.bt m F;have d:Bt (λq=>q=B) c (c.setCell ⟨B,i,none⟩ v8):=Bt.set (Z:=λq=>q=B) (p:=⟨B,i,none⟩) (Bt.refl _ _) (.inr rfl) _;exact⟨World.cell?_of_block (m.block B G.lt F),u.frozen i,u.set i v8,A.bt L d λb _ I=>by subst I;exact⟨J,E⟩,(m.mono λ_ _ h=>.inl h).trans (d.mono λ_ _ h=>.inr h)⟩
theorem new_of (t:Tm) (ay:t.l.length<=1000000) (ht:∀x∈t.l,NewC x):NewC t:=by
 intro S cs w hx;obtain⟨i1,i2,v,rfl,hv⟩:=(qa6 ..).1 hx;obtain⟨A,c,rfl,hc,aC⟩:=hv.val;have HV:=Hd hv;have HT:=Hd ht;clear hx hv ht
 go_enter Tryz.func288,Tryz.ntmps288
 go_wp2_with fail
 go_loopw [14] (λvi wr=>∃(k:Nat) (I:Option Addr) (L:Nat),k<=t.l.length/\vi = .int .i64 k/\Ext w wr/\Hid (qaf wr (w.heap.size+1) 159 [.int .i64 0,.int .i64 0,.slice none 0 0])/\Hid (qaf wr (w.heap.size+1+1) 159 [.int .i64 t.k,.int .i64 t.n,.slice I (t.l.take k).length L]) /\
  Hid (qab RTm 3 159 (w.heap.size+3) (λb=>w.heap.size+3<=b) wr (t.l.take k) (.slice I (t.l.take k).length L))) (λvi _=>t.l.length-(intOf vi).toNat)
 case atStart=>exact⟨0,none,0,Nat.zero_le _,rfl,bel,qg3 ..,qgy ..,qab.nil ..⟩
 obtain⟨k,I,L,hk,rfl,hE,E,D,m⟩:=hrel;have az:=D.out.lt;have o0:=D.out.cell 0 _;have o1:=D.out.cell 1 _;have o2:=D.out.cell 2 _
 by_cases ae:k<t.l.length
 .obtain ⟨b,aD,cs,rfl,hb,ax,hl,hr,O⟩:=(qar.good.bel HV.out hE).get k ae;obtain⟨j1,j2,u,rfl,hu⟩:=(qa6 ..).1 hr;obtain⟨a0,a1,a2⟩:=g3 O;have Y:=λW (hW:Ext wr W)=>HT.out _ (List.getElem_mem ae) S _ W (RTm.good.bel hr hW)
  obtain⟨Au,cu,rfl,_,_⟩:=hu.val;obtain⟨x,aj⟩:=nm (t.l[k]);have ab:t.l.take (k+1)=t.l.take k++[x]:=by rw[<- aj];exact List.take_succ_eq_append_getElem ae
  rw[aj]at a0 a1 a2 Y j1 j2;obtain⟨ys,an⟩:=nm (t.l.take k);have au:ys.length<=1000000:=by rw[<- an,List.length_take];omega
  rw[an]at ab m D o2;have G:=λq hq=>m.out.own_lt (b:=q) hq
  have am:=Hd ab
  have key:∀(WX V:World) (A5:Option Addr) (c5:Nat),Ext wr WX->wr.heap.size<=WX.heap.size->Ext WX V->qar (λb=>WX.heap.size<=b) V x.l [.slice A5 x.l.length c5] ->
    V.cell? ⟨w.heap.size+1+1,2,none⟩=some (.slice I ys.length L)/\∃M N U,(Builtin.append_ #[59,59] 59 #[.slice I ys.length L,.slice (some ⟨V.heap.size,0,none⟩) 1 1]).run Tryz.prog (V.alloc (.cells #[.int .i64 x.k,.int .i64 x.n,.slice A5 x.l.length c5] 159)) = .ok (.slice (some ⟨M,0,none⟩) (ys.length+1) N) U /\
     Bt (λq=>(Value.slice I ys.length L).ownBlock=some q) (V.alloc (.cells #[.int .i64 x.k,.int .i64 x.n,.slice A5 x.l.length c5] 159)) U/\U.frozen? ⟨w.heap.size+1+1,2,none⟩=false /\
     (Hid (qaf (U.setCell ⟨w.heap.size+1+1,2,none⟩ (.slice (some ⟨M,0,none⟩) (ys.length+1) N)) (w.heap.size+1+1) 159 [.int .i64 t.k,.int .i64 t.n,.slice (some ⟨M,0,none⟩) (ys.length+1) N]) /\
      Hid (qab RTm 3 159 (w.heap.size+3) (λb=>w.heap.size+3<=b) (U.setCell ⟨w.heap.size+1+1,2,none⟩ (.slice (some ⟨M,0,none⟩) (ys.length+1) N)) (ys++[x]) (.slice (some ⟨M,0,none⟩) (ys.length+1) N)) /\
      Hid (qaf (U.setCell ⟨w.heap.size+1+1,2,none⟩ (.slice (some ⟨M,0,none⟩) (ys.length+1) N)) (w.heap.size+1) 159 [.int .i64 0,.int .i64 0,.slice none 0 0])/\Ext w (U.setCell ⟨w.heap.size+1+1,2,none⟩ (.slice (some ⟨M,0,none⟩) (ys.length+1) N))):=λWX V A5 c5 hX aE h5 h6=>by
   have J:=hX.trans' h5;have aA:=J.size
   obtain⟨M,N,U,ad,ah,F,aB,aw⟩:=qcw RTm.good (by decide) (w.heap.size+3) 159 59 (.agg #[.int .i64 0,.int .i64 0,.slice none 0 0]) 40 Tryz.underlying59 qm4 rfl (by decide) (λb=>w.heap.size+3<=b) V ys (.slice I ys.length L) x [.int .i64 x.k,.int .i64 x.n,.slice A5 x.l.length c5]
    (m.out.ext RTm.good J) ((qa6 ..).2 ⟨j1,j2,_,rfl,qar.good.mono h6 λb _ hb=>⟨by omega,λe=>by have:=(G b e).2;omega⟩⟩) (by omega) au
   have ap:(Value.slice (some ⟨M,0,none⟩) (ys.length+1) N).ownBlock≠some (w.heap.size+1+1):=λe=>by
    have:=(ah.own_lt e).1;omega
   have hp:=qi6 RTm.good 2 (D.out.ext J) ah F (λe=>by have:=(G _ e).1;omega) ap (by omega);have e5:=Ext.keep J o2;refine⟨e5,M,N,U,ad,aw,hp.2.1,hp.2.2.1,hp.2.2.2.1,?_,?_⟩
   .exact (E.out.ext J).bt hp.2.2.2.2 λh=>by
     rcases h with h | h
     .have:=(G _ h).1;omega
     omega
   refine Bt.new (hE.trans' J) hp.2.2.2.2 λq _ h=>?_
   rcases h with h | h
   .have:=(G _ h).1;omega
   omega
  have HK:=Hd key;have aq:¬ (Value.slice I ys.length L).ownBlock=some (w.heap.size+1+1):=λe=>by have:=(G _ e).1;omega
  have af:¬ (Value.slice I ys.length L).ownBlock=some wr.heap.size:=λe=>by have:=(G _ e).2;omega
  clear hr hu hl O ax ab key m D E
  go_wp2_with fail
  refine qek (λW=>W.cell? ⟨w.heap.size+1+1,2,none⟩=some (.slice I ys.length L)/\W.cell? ⟨wr.heap.size,0,none⟩=some (.int .i64 x.k)/\W.cell? ⟨wr.heap.size,1,none⟩=some (.int .i64 x.n)/\W.cell? ⟨wr.heap.size,2,none⟩=some (.slice Au x.l.length cu)) (by kernel_rfl) (by rfl) (by kernel_rfl) ⟨Ext.keep (Below.drew ((Ext.refl wr).alloc _)) o2,by go_simp,by go_simp,by go_simp⟩ (λhHeld=>?_);dsimp only[List.dropLast,List.getLastD,List.getLast?,List.getLast]
  (refine tk 0 ?_;try simp only[qae])
  (refine tk 1 ?_;try simp only[qae])
  (refine tk 2 ?_;try simp only[qae])
  refine wpAnyH_ready (rs:=[3]) (by kernel_rfl) (by simp) ?_;refine AllReadyH.cons rfl (λK hK=>?_) AllReadyH.nil;go_simp;refine(Y _ bel).mono ?_;rintro e V ⟨A5,c5,rfl,av,ak⟩;obtain⟨k5,M,N,U,ad,F,f8,ai⟩:=HK.out _ _ _ _ bel (by show _<=(World.heap (World.alloc _ _)).size;simp) ak av;refine hK.out _ _ (Ext.k4 ak hHeld) (λX=>?_);clear hK K
  try simp only[qae]
  refine wpAnyH_ready (rs:=[4]) (by kernel_rfl) (by simp) ?_;refine AllReadyH.cons rfl (λK hK=>?_) AllReadyH.nil;go_simp;have d:=Ext.k4 ((Ext.refl V).alloc (.cells #[.int .i64 x.k,.int .i64 x.n,.slice A5 x.l.length c5] 159)) X;refine hK.out _ _ d (λ_=>?_);clear hK K
  try simp only[qae]
  refine wpAnyH_ready (rs:=[5]) (by kernel_rfl) (by simp) ?_;refine AllReadyH.cons rfl (λK hK=>?_) AllReadyH.nil;refine qf8 rfl _ _ _ rfl _ _ _ rfl rfl ad ?_;have k8:=F.cell d.1 aq;refine hK.out _ _ ⟨k8,F.cell d.2.1 af,F.cell d.2.2.1 af,F.cell d.2.2.2 af⟩ (λao=>?_);clear hK K
  try simp only[qae]
  (refine tk 6 ?_;try simp only[qae])
  refine wpAnyH_done (by kernel_rfl) ?_ _;show Oper.wp _ _ _ _ _ _;go_simp
  all_goals
   obtain⟨q1,q2,q3,q4⟩:=ai;have aa:(t.l.take (k+1)).length=ys.length+1:=by rw[am.out,List.length_append];rfl
   have al:=Hd aa;clear aa
   go_wp2_with fail
   go_roundw
   case rel=>exact⟨k+1,some ⟨M,0,none⟩,N,by omega,by go_num,q4,q3,by show qaf _ _ _ _;rw[al.out];exact q1.out,by show qab _ _ _ _ _ _ _ _;rw[al.out,am.out];exact q2.out⟩
   simp[intOf];omega
 have ag:t.l.take k=t.l:=List.take_of_length_le (by omega);rw[ag]at m D o2;have r0:=E.out.cell 0 _;have r1:=E.out.cell 1 _;have r2:=E.out.cell 2 _;have f0:=E.out.frozen 0;have f1:=E.out.frozen 1;have f2:=E.out.frozen 2;clear ag D
 go_wp2_with fail
 have ac:=((E.out.set 0 (.int .i64 t.k)).set 1 (.int .i64 t.n)).set 2 (.slice I t.l.length L);refine bodyPost_ret (qzk rfl _ _ (w.heap.size+1) _ _ _ rfl (ac.cell 0 _) (ac.cell 1 _) (ac.cell 2 _)) rfl ⟨I,L,rfl,?_,?_⟩
 .have hb:Bt (λq=>q=w.heap.size+1) wr (((wr.setCell ⟨w.heap.size+1,0,none⟩ (.int .i64 t.k)).setCell ⟨w.heap.size+1,1,none⟩ (.int .i64 t.n)).setCell ⟨w.heap.size+1,2,none⟩ (.slice I t.l.length L)) :=
   Bt.set (Z:=λq=>q=w.heap.size+1) (p:=⟨w.heap.size+1,2,none⟩) (Bt.set (Z:=λq=>q=w.heap.size+1) (p:=⟨w.heap.size+1,1,none⟩) (Bt.set (Z:=λq=>q=w.heap.size+1) (p:=⟨w.heap.size+1,0,none⟩) (Bt.refl _ _) (.inr rfl) _) (.inr rfl) _) (.inr rfl) _
  refine qar.good.mono (qar.good.move (m.out.sl RTm.good (by decide)) (hb.kp (S:=λb=>w.heap.size+3<=b\/w.heap.size+3<=b) λq _ h h'=>by omega)) λq _ h=>by omega
 exact(((hE.set (p:=⟨w.heap.size+1,0,none⟩) (by show _<=w.heap.size+1;omega) _).set (p:=⟨w.heap.size+1,1,none⟩) (by show _<=w.heap.size+1;omega) _).set (p:=⟨w.heap.size+1,2,none⟩) (by show _<=w.heap.size+1;omega) _)
theorem new_c:∀t,qbn t=true->NewC t:=Tm.ind λt ih h=>new_of t (by have:=(qnd h).2.2.1;omega) λx c=>ih x c ((qnd h).2.2.2 x c)
def LabelPost (x:Lb) (w:World) (e:Ending) (w':World):Prop:=∃A c,e = .returned (.agg #[.int .i64 x.g,.slice A x.v.length c])/\qar (λb=>w.heap.size<=b) w' x.v [.slice A x.v.length c]/\Ext w w'
theorem label_c (S:Nat->Prop) (x:Lb) (ap:qa0 x=true) (cs:List Value) (w:World) (hx:RLb S w x cs) :
  Calls Tryz.prog 273 #[.agg cs.toArray] w (LabelPost x w):=by
 have O:=qnv ap;obtain⟨i1,v,rfl,hv⟩:=id hx;obtain⟨A,c,rfl,hc,aD⟩:=hv.val;have HV:=Hd hv;have HT:Hid (∀t∈x.v,NewC t):=λt ht=>new_c t (O.2.2.2 t ht)
 have aA:=O.2.2.1;clear hx hv O ap
 go_enter Tryz.func273,Tryz.ntmps273
 go_wp2_with fail
 go_loopw [12] (λvi wr=>∃(k:Nat) (I:Option Addr) (L:Nat),k<=x.v.length/\vi = .int .i64 k/\Ext w wr/\Hid (qaf wr (w.heap.size+1) 61 [.int .i64 0,.slice none 0 0])/\Hid (qaf wr (w.heap.size+1+1) 61 [.int .i64 x.g,.slice I (x.v.take k).length L]) /\
  Hid (qab RTm 3 159 (w.heap.size+3) (λb=>w.heap.size+3<=b) wr (x.v.take k) (.slice I (x.v.take k).length L))) (λvi _=>x.v.length-(intOf vi).toNat)
 case atStart=>exact⟨0,none,0,Nat.zero_le _,rfl,bel,qg3 ..,qgy ..,qab.nil ..⟩
 obtain⟨k,I,L,hk,rfl,hE,E,D,m⟩:=hrel;have az:=D.out.lt;have o0:=D.out.cell 0 _;have o1:=D.out.cell 1 _
 by_cases ae:k<x.v.length
 .obtain ⟨b,aE,cs,rfl,hb,ay,hl,hr,U⟩:=(qar.good.bel HV.out hE).get k ae;obtain⟨j1,j2,u,rfl,hu⟩:=(qa6 ..).1 hr;obtain⟨a0,a1,a2⟩:=g3 U;have aa:=λW (hW:Ext wr W)=>HT.out _ (List.getElem_mem ae) S _ W (RTm.good.bel hr hW)
  obtain⟨Au,cu,rfl,_,_⟩:=hu.val;obtain⟨t,ak⟩:=nm (x.v[k]);have ac:x.v.take (k+1)=x.v.take k++[t]:=by rw[<- ak];exact List.take_succ_eq_append_getElem ae
  rw[ak]at a0 a1 a2 aa j1 j2;obtain⟨ys,ao⟩:=nm (x.v.take k);have av:ys.length<=1000000:=by rw[<- ao,List.length_take];omega
  rw[ao]at ac m D o1;have G:=λq hq=>m.out.own_lt (b:=q) hq
  have an:=Hd ac
  have key:∀(WX X:World) (A5:Option Addr) (c5:Nat),Ext wr WX->wr.heap.size<=WX.heap.size->Ext WX X->qar (λb=>WX.heap.size<=b) X t.l [.slice A5 t.l.length c5] ->
    X.cell? ⟨w.heap.size+1+1,1,none⟩=some (.slice I ys.length L)/\∃M N V,(Builtin.append_ #[59,59] 59 #[.slice I ys.length L,.slice (some ⟨X.heap.size,0,none⟩) 1 1]).run Tryz.prog (X.alloc (.cells #[.int .i64 t.k,.int .i64 t.n,.slice A5 t.l.length c5] 159)) = .ok (.slice (some ⟨M,0,none⟩) (ys.length+1) N) V /\
     Bt (λq=>(Value.slice I ys.length L).ownBlock=some q) (X.alloc (.cells #[.int .i64 t.k,.int .i64 t.n,.slice A5 t.l.length c5] 159)) V/\V.frozen? ⟨w.heap.size+1+1,1,none⟩=false /\
     (Hid (qaf (V.setCell ⟨w.heap.size+1+1,1,none⟩ (.slice (some ⟨M,0,none⟩) (ys.length+1) N)) (w.heap.size+1+1) 61 [.int .i64 x.g,.slice (some ⟨M,0,none⟩) (ys.length+1) N]) /\
      Hid (qab RTm 3 159 (w.heap.size+3) (λb=>w.heap.size+3<=b) (V.setCell ⟨w.heap.size+1+1,1,none⟩ (.slice (some ⟨M,0,none⟩) (ys.length+1) N)) (ys++[t]) (.slice (some ⟨M,0,none⟩) (ys.length+1) N)) /\
      Hid (qaf (V.setCell ⟨w.heap.size+1+1,1,none⟩ (.slice (some ⟨M,0,none⟩) (ys.length+1) N)) (w.heap.size+1) 61 [.int .i64 0,.slice none 0 0])/\Ext w (V.setCell ⟨w.heap.size+1+1,1,none⟩ (.slice (some ⟨M,0,none⟩) (ys.length+1) N))):=λWX X A5 c5 hX aF h5 h6=>by
   have J:=hX.trans' h5;have aB:=J.size
   obtain⟨M,N,V,ad,ai,F,aC,ax⟩:=qcw RTm.good (by decide) (w.heap.size+3) 159 59 (.agg #[.int .i64 0,.int .i64 0,.slice none 0 0]) 40 Tryz.underlying59 qm4 rfl (by decide) (λb=>w.heap.size+3<=b) X ys (.slice I ys.length L) t [.int .i64 t.k,.int .i64 t.n,.slice A5 t.l.length c5]
    (m.out.ext RTm.good J) ((qa6 ..).2 ⟨j1,j2,_,rfl,qar.good.mono h6 λb _ hb=>⟨by omega,λe=>by have:=(G b e).2;omega⟩⟩) (by omega) av
   have O:(Value.slice (some ⟨M,0,none⟩) (ys.length+1) N).ownBlock≠some (w.heap.size+1+1):=λe=>by
    have:=(ai.own_lt e).1;omega
   have hp:=qi6 RTm.good 1 (D.out.ext J) ai F (λe=>by have:=(G _ e).1;omega) O (by omega);have e5:=Ext.keep J o1;refine⟨e5,M,N,V,ad,ax,hp.2.1,hp.2.2.1,hp.2.2.2.1,?_,?_⟩
   .exact (E.out.ext J).bt hp.2.2.2.2 λh=>by
     rcases h with h | h
     .have:=(G _ h).1;omega
     omega
   refine Bt.new (hE.trans' J) hp.2.2.2.2 λq _ h=>?_
   rcases h with h | h
   .have:=(G _ h).1;omega
   omega
  have HK:=Hd key;have au:¬ (Value.slice I ys.length L).ownBlock=some (w.heap.size+1+1):=λe=>by have:=(G _ e).1;omega
  have af:¬ (Value.slice I ys.length L).ownBlock=some wr.heap.size:=λe=>by have:=(G _ e).2;omega
  clear hr hu hl U ay ac key m D E
  go_wp2_with fail
  refine qek (λW=>W.cell? ⟨w.heap.size+1+1,1,none⟩=some (.slice I ys.length L)/\W.cell? ⟨wr.heap.size,0,none⟩=some (.int .i64 t.k)/\W.cell? ⟨wr.heap.size,1,none⟩=some (.int .i64 t.n)/\W.cell? ⟨wr.heap.size,2,none⟩=some (.slice Au t.l.length cu)) (by kernel_rfl) (by rfl) (by kernel_rfl) ⟨Ext.keep (Below.drew ((Ext.refl wr).alloc _)) o1,by go_simp,by go_simp,by go_simp⟩ (λhHeld=>?_);dsimp only[List.dropLast,List.getLastD,List.getLast?,List.getLast]
  (refine tk 0 ?_;try simp only[qae])
  (refine tk 1 ?_;try simp only[qae])
  (refine tk 2 ?_;try simp only[qae])
  refine wpAnyH_ready (rs:=[3]) (by kernel_rfl) (by simp) ?_;refine AllReadyH.cons rfl (λK hK=>?_) AllReadyH.nil;go_simp;refine(aa _ bel).mono ?_;rintro e X ⟨A5,c5,rfl,aw,al⟩;obtain⟨k5,M,N,V,ad,F,f8,aj⟩:=HK.out _ _ _ _ bel (by show _<=(World.heap (World.alloc _ _)).size;simp) al aw;refine hK.out _ _ (Ext.k4 al hHeld) (λY=>?_);clear hK K
  try simp only[qae]
  refine wpAnyH_ready (rs:=[4]) (by kernel_rfl) (by simp) ?_;refine AllReadyH.cons rfl (λK hK=>?_) AllReadyH.nil;go_simp;have d:=Ext.k4 ((Ext.refl X).alloc (.cells #[.int .i64 t.k,.int .i64 t.n,.slice A5 t.l.length c5] 159)) Y;refine hK.out _ _ d (λ_=>?_);clear hK K
  try simp only[qae]
  refine wpAnyH_ready (rs:=[5]) (by kernel_rfl) (by simp) ?_;refine AllReadyH.cons rfl (λK hK=>?_) AllReadyH.nil;refine qf8 rfl _ _ _ rfl _ _ _ rfl rfl ad ?_;have k8:=F.cell d.1 au;refine hK.out _ _ ⟨k8,F.cell d.2.1 af,F.cell d.2.2.1 af,F.cell d.2.2.2 af⟩ (λaq=>?_);clear hK K
  try simp only[qae]
  (refine tk 6 ?_;try simp only[qae])
  refine wpAnyH_done (by kernel_rfl) ?_ _;show Oper.wp _ _ _ _ _ _;go_simp
  all_goals
   obtain⟨q1,q2,q3,q4⟩:=aj;have ab:(x.v.take (k+1)).length=ys.length+1:=by rw[an.out,List.length_append];rfl
   have am:=Hd ab;clear ab
   go_wp2_with fail
   go_roundw
   case rel=>exact⟨k+1,some ⟨M,0,none⟩,N,by omega,by go_num,q4,q3,by show qaf _ _ _ _;rw[am.out];exact q1.out,by show qab _ _ _ _ _ _ _ _;rw[am.out,an.out];exact q2.out⟩
   simp[intOf];omega
 have ag:x.v.take k=x.v:=List.take_of_length_le (by omega);rw[ag]at m D o1;have r0:=E.out.cell 0 _;have r1:=E.out.cell 1 _;have f0:=E.out.frozen 0;have f1:=E.out.frozen 1;clear ag D
 go_wp2_with fail
 have ah:=(E.out.set 0 (.int .i64 x.g)).set 1 (.slice I x.v.length L);refine bodyPost_ret (qvn rfl _ _ (w.heap.size+1) _ _ rfl (ah.cell 0 _) (ah.cell 1 _)) rfl ⟨I,L,rfl,?_,?_⟩
 .have hb:Bt (λq=>q=w.heap.size+1) wr ((wr.setCell ⟨w.heap.size+1,0,none⟩ (.int .i64 x.g)).setCell ⟨w.heap.size+1,1,none⟩ (.slice I x.v.length L)) :=
   Bt.set (Z:=λq=>q=w.heap.size+1) (p:=⟨w.heap.size+1,1,none⟩) (Bt.set (Z:=λq=>q=w.heap.size+1) (p:=⟨w.heap.size+1,0,none⟩) (Bt.refl _ _) (.inr rfl) _) (.inr rfl) _
  refine qar.good.mono (qar.good.move (m.out.sl RTm.good (by decide)) (hb.kp (S:=λb=>w.heap.size+3<=b\/w.heap.size+3<=b) λq _ h h'=>by omega)) λq _ h=>by omega
 exact((hE.set (p:=⟨w.heap.size+1,0,none⟩) (by show _<=w.heap.size+1;omega) _).set (p:=⟨w.heap.size+1,1,none⟩) (by show _<=w.heap.size+1;omega) _)
end
end Go.Proofs.YtegenalcheooeaaGreat
