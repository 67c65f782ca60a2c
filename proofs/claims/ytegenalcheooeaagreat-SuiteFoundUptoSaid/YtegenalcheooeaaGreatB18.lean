/- Of the proof of a law of the suites: RLast, LTerm. -/
import Derived.Test.YtegenalcheooeaaGreatB09
import Derived.Test.YtegenalcheooeaaGreatB10
import Derived.Test.YtegenalcheooeaaGreatB13
import Derived.Test.YtegenalcheooeaaGreatB15
import Derived.Test.YtegenalcheooeaaGreatB17
set_option linter.unusedSectionVars false
set_option linter.unusedSimpArgs false
set_option linter.unusedVariables false
namespace Go.Proofs.YtegenalcheooeaaGreat
open Go.RowKit
attribute [local go_sem] cell?_exto
section

def qhd (l:List Oper) (i:Nat):List Nat:=match l[i]? with
 | some o=>qh9 o
 | none=>[]
def ancN (l:List Oper):Nat->List Nat->List Nat
 | 0,S=>S
 | n+1,S=>ancN l n (S++(S.flatMap (qhd l)).filter (fun i=>!S.contains i))
def lastB (l:List Oper) (o:Oper):Bool:=l.all (fun o=>o.guard.isNone) && o.guard.isNone && (List.range l.length).all (fun i=>(ancN l l.length (qh9 o)).contains i) && (List.range l.length).all (fun i=>(qhd l i).all fun j=>decide (j<i)) && (qh9 o).all (fun j=>decide (j<l.length))
def Closed (l:List Oper) (listed:Array Bool):Prop:=∀ i,listed.getD i false=true->∀ j∈qhd l i,listed.getD j false=true
theorem qo9 {l:List Oper} {listed:Array Bool} (hc:Closed l listed):∀ (n:Nat) (S:List Nat),(∀ i∈S,listed.getD i false=true)->∀ i∈ancN l n S,listed.getD i false=true
 | 0,_,h=>h
 | n+1,S,h=>qo9 hc n _ fun i hi=>by
  rcases List.mem_append.1 hi with hi | hi
  ·exact h i hi
  ·obtain ⟨j,hj,hij⟩:=List.mem_flatMap.1 (List.mem_filter.1 hi).1
   exact hc j (h j hj) i hij
def qjo (P:Program) (o:Oper) (Q:Exit->Act->World->Prop):Exit->Act->World->Prop
 | .normal,a,w=>o.wp P a w (fun a' w'=>Q .normal a' w') Q
 | e,a,w=>Q e a w
theorem qgp {listed:Array Bool} {i n:Nat} (hs:listed.size=n) (hi:i<n) (b d:Bool):(listed.push b).getD i d=listed.getD i d:=by
 have:i<listed.size:=by omega
 simp [Array.getElem?_push,this,show ¬ i=listed.size by omega]
theorem qj9 {l:List Oper} {i:Nat} {o:Oper} (h:l[i]? = some o) {e:Edge} (he:e∈o.after) (hb:Region.binds .any e=true):e.on∈qhd l i:=by
 unfold qhd
 rw [h]
 exact List.mem_map.2 ⟨e,List.mem_filter.2 ⟨by simpa using he,hb⟩,rfl⟩
theorem deps_of {l:List Oper} {i j:Nat} (h:j∈qhd l i):∃ o e,l[i]? = some o∧e∈o.after∧Region.binds .any e=true∧e.on=j:=by
 unfold qhd at h
 cases hl:l[i]? with
 | none=>rw [hl] at h;cases h
 | some o =>
  rw [hl] at h
  obtain ⟨e,he,rfl⟩:=List.mem_map.1 h
  obtain ⟨he,hb⟩:=List.mem_filter.1 he
  exact ⟨o,e,rfl,by simpa using he,hb,rfl⟩
theorem qtx {P:Program} {l:List Oper} {o:Oper} {Q:Exit->Act->World->Prop} (hB:lastB l o=true):∀ (fuel:Nat) (listed:Array Bool) (a:Act) (w:World),listed.size=l.length->Closed l listed ->
  wpAny P .any l.toArray (qjo P o Q) fuel listed a w->wpAny P .any (l++[o]).toArray Q (fuel+1) (listed.push false) a w:=by
 simp only [lastB,Bool.and_eq_true] at hB
 obtain ⟨⟨⟨⟨hg,hgo⟩,hanc⟩,hlow⟩,hlo⟩:=hB
 have hop:∀ i,i<l.length->(l++[o]).toArray[i]? = l.toArray[i]?:=fun i hi=>by simp [List.getElem?_append_left hi]
 have hopn:(l++[o]).toArray[l.length]? = some o:=by simp
 have fin:∀ (fuel:Nat) (listed:Array Bool) (a:Act) (w:World),listed.size=l.length->(∀ i,i<l.length->listed.getD i false=true)->qjo P o Q .normal a w->wpAny P .any (l++[o]).toArray Q (fuel+1) (listed.push false) a w:=fun fuel listed a w hs hall hq=>by
  have hready:l.length∈Region.ready .any (l++[o]).toArray (listed.push false):=by
   refine mem_ready.2 ⟨by simp [<- hs],o,hopn,fun e he hb=>?_⟩
   have hlt:e.on<l.length:=by
    have:=List.all_eq_true.1 hlo e.on (List.mem_map.2 ⟨e,List.mem_filter.2 ⟨by simpa using he,hb⟩,rfl⟩)
    simpa using this
   rw [qgp hs hlt]
   exact hall _ hlt
  refine ⟨fun h0=>absurd h0 (by intro h0;rw [h0] at hready;cases hready),fun i hi=>?_⟩
  obtain ⟨h1,o',h2,h3⟩:=mem_ready.1 hi
  have hin:i=l.length:=by
   apply Classical.byContradiction
   intro hne
   have hlt:i<l.length:=by
    have:=(Array.getElem?_eq_some_iff.1 h2).1
    simp at this
    omega
   rw [qgp hs hlt] at h1
   have h4:=hall i hlt
   have:i<listed.size:=by omega
   simp [this] at h1 h4
   rw [h1] at h4
   cases h4
  subst hin
  rw [hopn] at h2
  injection h2 with h2
  subst h2
  unfold wpOp
  rw [hopn]
  simp only
  have hw:Region.wanted o (yielded (l++[o]).toArray a.tmps)=true:=by
   cases hgd:o.guard with
   | none=>simp [Region.wanted,hgd]
   | some g=>rw [hgd] at hgo;cases hgo
  rw [if_pos hw]
  refine .inl (Oper.wp_mono (fun a' w' hq'=>?_) hq)
  refine wpAny_done ?_ hq' _
  apply List.eq_nil_iff_forall_not_mem.2
  intro i hi
  obtain ⟨h1,o',h2,_⟩:=mem_ready.1 hi
  by_cases hne:i=l.length
  ·subst hne
   simp [<- hs] at h1
  ·have hlt:i<l.length:=by
    have:=(Array.getElem?_eq_some_iff.1 h2).1
    simp at this
    omega
   rw [getD_set_ne true (Ne.symm hne),qgp hs hlt] at h1
   have h4:=hall i hlt
   have:i<listed.size:=by omega
   simp [this] at h1 h4
   rw [h1] at h4
   cases h4
 intro fuel
 induction fuel with
 | zero =>
  intro listed a w hs hc h
  refine fin 0 listed a w hs (fun i=>?_) h.2
  induction i using Nat.strongRecOn with
  | _ i ih =>
  intro hi
  apply Classical.byContradiction
  intro hn
  have hi':i<listed.size:=by omega
  have hmem:i∈Region.ready .any l.toArray listed:=by
   refine mem_ready.2 ⟨by simp [hi'] at hn ⊢;exact hn,l[i],by simp [hi],fun e he hb=>?_⟩
   have hlt:e.on<i:=by
    have h5:=List.all_eq_true.1 hlow i (List.mem_range.2 hi)
    have h6:=List.all_eq_true.1 h5 e.on (qj9 (List.getElem?_eq_getElem hi) he hb)
    simpa using h6
   exact ih e.on hlt (by omega)
  rw [h.1] at hmem
  cases hmem
 | succ fuel ih =>
  intro listed a w hs hc h
  by_cases hr:Region.ready .any l.toArray listed=[]
  ·refine fin (fuel+1) listed a w hs (fun i=>?_) (h.1 hr)
   induction i using Nat.strongRecOn with
   | _ i ih =>
   intro hi
   apply Classical.byContradiction
   intro hn
   have hi':i<listed.size:=by omega
   have hmem:i∈Region.ready .any l.toArray listed:=by
    refine mem_ready.2 ⟨by simp [hi'] at hn ⊢;exact hn,l[i],by simp [hi],fun e he hb=>?_⟩
    have hlt:e.on<i:=by
     have h5:=List.all_eq_true.1 hlow i (List.mem_range.2 hi)
     have h6:=List.all_eq_true.1 h5 e.on (qj9 (List.getElem?_eq_getElem hi) he hb)
     simpa using h6
    exact ih e.on hlt (by omega)
   rw [hr] at hmem
   cases hmem
  ·obtain ⟨k,hk⟩:=List.exists_mem_of_ne_nil _ hr
   obtain ⟨hk1,ok,hk2,hk3⟩:=mem_ready.1 hk
   have hkl:k<l.length:=by simpa using (Array.getElem?_eq_some_iff.1 hk2).1
   have hin:∀ i∈Region.ready .any (l++[o]).toArray (listed.push false),i<l.length∧i∈Region.ready .any l.toArray listed:=fun i hi=>by
    obtain ⟨h1,o',h2,h3⟩:=mem_ready.1 hi
    have hlt:i<l.length:=by
     apply Classical.byContradiction
     intro hge
     have hin:i=l.length:=by
      have:=(Array.getElem?_eq_some_iff.1 h2).1
      simp at this
      omega
     subst hin
     rw [hopn] at h2
     injection h2 with h2
     subst h2
     have h6:=qo9 hc l.length (qh9 o) (fun j hj=>by
      obtain ⟨e,he,rfl⟩:=List.mem_map.1 hj
      obtain ⟨he,hb⟩:=List.mem_filter.1 he
      have h7:=h3 e (by simpa using he) hb
      have hjl:e.on<l.length:=by simpa using List.all_eq_true.1 hlo e.on hj
      rwa [qgp hs hjl] at h7) k (by simpa using List.all_eq_true.1 hanc k (List.mem_range.2 hkl))
     have hk':k<listed.size:=by omega
     simp [hk'] at hk1 h6
     rw [hk1] at h6
     cases h6
    refine ⟨hlt,mem_ready.2 ⟨by rwa [qgp hs hlt] at h1,o',by rwa [hop i hlt] at h2,fun e he hb=>?_⟩⟩
    have h7:=h3 e he hb
    have hl2:l[i]? = some o':=by rw [hop i hlt] at h2;simpa using h2
    have hjl:e.on<l.length:=by
     have h5:=List.all_eq_true.1 hlow i (List.mem_range.2 hlt)
     have h6:=List.all_eq_true.1 h5 e.on (qj9 hl2 he hb)
     have:e.on<i:=by simpa using h6
     omega
    rwa [qgp hs hjl] at h7
   refine ⟨fun h0=>?_,fun i hi=>?_⟩
   ·exfalso
    have:k∈Region.ready .any (l++[o]).toArray (listed.push false):=by
     refine mem_ready.2 ⟨by rw [qgp hs hkl];exact hk1,ok,by rw [hop k hkl];exact hk2,fun e he hb=>?_⟩
     have h7:=hk3 e he hb
     have hl2:l[k]? = some ok:=by simpa using hk2
     have hjl:e.on<l.length:=by
      have h5:=List.all_eq_true.1 hlow k (List.mem_range.2 hkl)
      have h6:=List.all_eq_true.1 h5 e.on (qj9 hl2 he hb)
      have:e.on<k:=by simpa using h6
      omega
     rw [qgp hs hjl]
     exact h7
    rw [h0] at this
    cases this
   ·obtain ⟨hlt,hir⟩:=hin i hi
    have h8:=h.2 i hir
    obtain ⟨h1,o',h2,h3⟩:=mem_ready.1 hir
    have hl2:l[i]? = some o':=by simpa using h2
    have hgi:o'.guard=none:=by
     have:=List.all_eq_true.1 hg o' (List.mem_of_getElem? hl2)
     cases hq:o'.guard with
     | none=>rfl
     | some g=>rw [hq] at this;cases this
    unfold wpOp at h8 ⊢
    rw [h2] at h8
    rw [hop i hlt,h2]
    simp only [Region.wanted,hgi,if_true] at h8 ⊢
    have hK:∀ a' w',wpAny P .any l.toArray (qjo P o Q) fuel (listed.setIfInBounds i true) a' w'->wpAny P .any (l++[o]).toArray Q (fuel+1) ((listed.push false).setIfInBounds i true) a' w':=fun a' w' hh=>by
     have he:(listed.push false).setIfInBounds i true=(listed.setIfInBounds i true).push false:=by
      apply Array.ext_getElem?
      intro t
      rw [Array.getElem?_setIfInBounds,Array.getElem?_push,Array.getElem?_push,Array.getElem?_setIfInBounds]
      simp only [Array.size_push,Array.size_setIfInBounds]
      split <;> rename_i h9
      ·subst h9
       have:i<listed.size:=by omega
       simp only [this,if_true,show i<listed.size+1 from by omega,show ¬ i=listed.size from by omega,if_false]
      ·rfl
     rw [he]
     refine ih _ a' w' (by simpa using hs) (fun j hj q hq=>?_) hh
     by_cases hji:j=i
     ·subst hji
      obtain ⟨o2,e,h4,h5,h6,rfl⟩:=deps_of hq
      rw [hl2] at h4
      injection h4 with h4
      subst h4
      exact getD_set_true (h3 e h5 h6)
     ·rw [getD_set_ne false (Ne.symm hji)] at hj
      exact getD_set_true (hc j hj q hq)
    rcases h8 with h8 | h8
    ·refine .inl ?_
     have h9:=Oper.wp_mono hK h8
     unfold Oper.wp at h9 ⊢
     generalize (execOp a.eval o').run P w=r at *
     cases r with
     | ok n w'=>cases n <;> exact h9
     | halt x w'=>cases x <;> exact h9
    ·exact .inr h8
theorem qvg {P:Program} {id:Nat} {ops l:List Oper} {o:Oper} {Q:Exit->Act->World->Prop} {a:Act} {w:World} (hops:ops=l++[o]) (S:World->Prop) (hm:P.follows .mixedOrders=true) (hB:lastB l o=true) (hS:S w.drew)
  (h:S w.drew->wpAnyH P .any l.toArray (qjo P o Q) S l.toArray.size (Array.replicate l.toArray.size false) a w.drew):(Code.region id ops.toArray true).wp P Q a w:=by
 subst hops
 refine wp_region_any hm ?_
 have h1:=qtx (Q:=Q) hB l.length (Array.replicate l.length false) a w.drew (by simp) (fun i hi=>by
  exfalso
  by_cases h:i<l.length
  ·simp [h] at hi
  ·simp [h] at hi) (wpAny_of_held _ _ _ _ (by simpa using h hS))
 have he:(Array.replicate l.length false).push false=Array.replicate (l++[o]).toArray.size false:=by rw [List.size_toArray,List.length_append,List.length_singleton,Array.replicate_succ]
 rw [he] at h1
 have hs:(l++[o]).toArray.size=l.length+1:=by simp
 rw [hs] at h1 ⊢
 exact h1
theorem qg2 {P:Program} {id:Nat} {ops:List Oper} {Q:Exit->Act->World->Prop} {a:Act} {w:World} (S:World->Prop) (hm:P.follows .mixedOrders=true) (hne:ops.isEmpty=false) (hB:lastB ops.dropLast (ops.getLastD default)=true) (hS:S w.drew)
  (h:S w.drew->wpAnyH P .any ops.dropLast.toArray (qjo P (ops.getLastD default) Q) S ops.dropLast.toArray.size (Array.replicate ops.dropLast.toArray.size false) a w.drew):(Code.region id ops.toArray true).wp P Q a w:=by
 refine qvg ?_ S hm hB hS h
 cases ops with
 | nil=>cases hne
 | cons x xs =>
  have h1:(x :: xs).getLastD default=(x :: xs).getLast (by simp):=by
   cases xs with
   | nil=>rfl
   | cons y ys=>simp [List.getLastD,List.getLast?_eq_some_getLast]
  rw [h1,List.dropLast_concat_getLast]
end
section
set_option maxHeartbeats 1000000
set_option maxRecDepth 100000
/- lts.term,lts.label: terms and labels in new memory. -/
open Go.Shelf
def qaf (W:World) (B:Nat) (t:TypeId) (cs:List Value):Prop:=W.heap[B]? = some (.cells cs.toArray t (0,0))
section
variable {W W':World} {B:Nat} {t:TypeId} {cs:List Value}
theorem qaf.lt (h:qaf W B t cs):B<W.heap.size:=(Array.getElem?_eq_some_iff.1 h).1
theorem qaf.cell (h:qaf W B t cs) (i:Nat) (u:Value) (hi:cs[i]? = some u:=by rfl):W.cell? ⟨B,i,none⟩=some u:=(cell_of_row W B i _ _ _ h).trans (by simpa using hi)
theorem qaf.frozen (h:qaf W B t cs) (i:Nat):W.frozen? ⟨B,i,none⟩=false:=by simp [World.frozen?,show W.heap[B]? = _ from h]
theorem qaf.set (h:qaf W B t cs) (i:Nat) (u:Value):qaf (W.setCell ⟨B,i,none⟩ u) B t (cs.set i u):=by
 unfold qaf at *
 simp only [World.setCell,Array.getElem?_modify,h]
 simp
theorem qaf.keep (h:qaf W B t cs) (hb:W'.heap[B]? = W.heap[B]?):qaf W' B t cs:=hb.trans h
theorem qaf.ext (h:qaf W B t cs) (he:Ext W W'):qaf W' B t cs:=h.keep (he.block B h.lt)
theorem qaf.bt (h:qaf W B t cs) {Z:Nat->Prop} (hb:Bt Z W W') (hz:¬ Z B):qaf W' B t cs:=h.keep (hb.block B h.lt hz)
theorem qaf.new (W:World) (t:TypeId) (cs:List Value):qaf (W.alloc (.cells cs.toArray t)) W.heap.size t cs:=World.alloc_heap_new W _
end
theorem qgx (w:World) (a b c:Obj):(((w.alloc a).alloc b).alloc c).heap[w.heap.size+1]? = some b:=by
 rw [Below.heap_alloc _ _ _ (by simp)]
 have:=World.alloc_heap_new (w.alloc a) b
 rwa [World.size_alloc] at this
theorem qgo (w:World) (a b c:Obj):(((w.alloc a).alloc b).alloc c).heap[w.heap.size+1+1]? = some c:=by
 have:=World.alloc_heap_new ((w.alloc a).alloc b) c
 rwa [World.size_alloc,World.size_alloc] at this
theorem qff {α:Type} {R:Rdr α} {k:Nat} (hR:Good R k) (hk:0<k) (base:Nat) (e ts:TypeId) (z:Value) (bs:Nat) (hu:Tryz.prog.underlying ts=some (.slice e)) (hi:(Tryz.prog.info? e).map (fun i=>(i.zero,i.size,i.bytes))=some (some z,k,bs)) (hzs:z.cells.size=k) (hbs:bs<=1000)
  (T:Nat->Prop) (w:World) (xs:List α) (v:Value) (x:α) (cs:List Value) (hown:qab R k e base T w xs v) (hx:R (fun b=>T b∧v.ownBlock≠some b) w x cs) (hbase:base<=w.heap.size) (hl:xs.length<=1000000) :
  ∃ g c w',(Builtin.append_ #[ts,ts] ts #[v,.slice (some ⟨w.heap.size,0,none⟩) 1 1]).run Tryz.prog (w.alloc (.cells cs.toArray e)) = .ok (.slice (some ⟨g,0,none⟩) (xs.length+1) c) w' ∧
   qab R k e base T w' (xs++[x]) (.slice (some ⟨g,0,none⟩) (xs.length+1) c)∧Bt (fun q=>v.ownBlock=some q) w w'∧(v.ownBlock=some g∨w.heap.size<=g)∧Bt (fun q=>v.ownBlock=some q) (w.alloc (.cells cs.toArray e)) w':=by
 obtain ⟨i,hi,hzz⟩:=Option.map_eq_some_iff.1 hi
 simp only [Prod.mk.injEq] at hzz
 obtain ⟨hz0,hz1,hz2⟩:=hzz
 obtain ⟨news,hrow,hF⟩:=hown.ext hR ((Ext.refl w).alloc (.cells cs.toArray e))
 have hlen:=hR.len hx
 obtain ⟨v',w',hr,h1,h2,_,h4⟩:=run_append_own_at (P:=Tryz.prog) (w.alloc (.cells cs.toArray e)) base ts ts e i z k bs hu hi hz0 hz1 hz2 hzs hk v xs.length news hrow ⟨w.heap.size,0,none⟩ 1 1 cs (by rw [hlen,Nat.one_mul]) (fun j u h=>qew w cs.toArray e j u h) (hR.one hx)
  (by unfold maxLen;omega) (Nat.le_trans (Nat.mul_le_mul (show xs.length+1<=1000001 by omega) hbs) (by decide)) (by rw [World.size_alloc];omega)
 obtain ⟨g,c,rfl⟩:=ownsRow_succ h1
 refine ⟨g,c,w',hr,qab.push hR hF (Flat.single (hR.bel hx ((Ext.refl w).alloc _)) hlen) h1 h2 h4,?_,?_⟩
 ·exact ((Ext.refl w).alloc _).bt.trans ((Bt.of_grown h2).mono fun q _ h=>h.symm)
 ·refine ⟨?_,(Bt.of_grown h2).mono fun q _ h=>h.symm⟩
  rcases h4 with h | h
  ·exact .inl h.symm
  ·right
   have h':some g=some (World.heap (w.alloc (.cells cs.toArray e))).size:=h
   injection h' with h'
   rw [World.size_alloc] at h'
   omega
theorem qtf {fn:Func} {p:Tmp} (h:fn.results = #[.cell p 159]) (tmps:Array Value) (w:World) (g:Nat) (x y z:Value) (hp:tmps.getD p undef = .pointer (some ⟨g,0,none⟩)) (h0:w.cell? ⟨g,0,none⟩=some x) (h1:w.cell? ⟨g,1,none⟩=some y) (h2:w.cell? ⟨g,2,none⟩=some z) :
  (results fn tmps).run Tryz.prog w = .ok (.agg #[x,y,z]) w:=by
 have hp':tmps[p]?.getD undef = .pointer (some ⟨g,0,none⟩):=by simpa using hp
 simp [results,h,hp',asAddr,go_sem,h0,h1,h2]
theorem qrc {fn:Func} {p:Tmp} (h:fn.results = #[.cell p 61]) (tmps:Array Value) (w:World) (g:Nat) (x y:Value) (hp:tmps.getD p undef = .pointer (some ⟨g,0,none⟩)) (h0:w.cell? ⟨g,0,none⟩=some x) (h1:w.cell? ⟨g,1,none⟩=some y) :
  (results fn tmps).run Tryz.prog w = .ok (.agg #[x,y]) w:=by
 have hp':tmps[p]?.getD undef = .pointer (some ⟨g,0,none⟩):=by simpa using hp
 simp [results,h,hp',asAddr,go_sem,h0,h1]
def TermPost (t:Tm) (w:World) (e:Ending) (w':World):Prop:=∃ A c,e = .returned (.agg #[.int .i64 t.k,.int .i64 t.n,.slice A t.l.length c])∧qam (fun b=>w.heap.size<=b) w' t.l [.slice A t.l.length c]∧Ext w w'
def NewC (t:Tm):Prop:=∀ (S:Nat->Prop) (cs:List Value) (W:World),RTm S W t cs->Calls Tryz.prog 288 #[.agg cs.toArray] W (TermPost t W)
theorem qix {α:Type} {R:Rdr α} {k:Nat} (hR:Good R k) {base:Nat} {e t:TypeId} {T:Nat->Prop} {w5 w8:World} {xs:List α} {v v8:Value} {B:Nat} {cs:List Value} (i:Nat)
  (hB:qaf w5 B t cs) (hown:qab R k e base T w8 xs v8) (hbt:Bt (fun q=>v.ownBlock=some q) w5 w8) (hv:v.ownBlock≠some B) (hv8:v8.ownBlock≠some B) (hT:¬ T B) :
  w8.cell? ⟨B,i,none⟩=w5.cell? ⟨B,i,none⟩∧w8.frozen? ⟨B,i,none⟩=false∧qaf (w8.setCell ⟨B,i,none⟩ v8) B t (cs.set i v8)∧qab R k e base T (w8.setCell ⟨B,i,none⟩ v8) xs v8∧Bt (fun q=>v.ownBlock=some q∨q=B) w5 (w8.setCell ⟨B,i,none⟩ v8):=by
 have hB8:qaf w8 B t cs:=hB.bt hbt hv
 have hset:Bt (fun q=>q=B) w8 (w8.setCell ⟨B,i,none⟩ v8):=Bt.set (Z:=fun q=>q=B) (p:=⟨B,i,none⟩) (Bt.refl _ _) (.inr rfl) _
 exact ⟨World.cell?_of_block (hbt.block B hB.lt hv),hB8.frozen i,hB8.set i v8,hown.bt hR hset fun b _ hb=>by subst hb;exact ⟨hT,hv8⟩,(hbt.mono fun _ _ h=>.inl h).trans (hset.mono fun _ _ h=>.inr h)⟩
theorem new_of (t:Tm) (hsz:t.l.length<=1000000) (ht:∀ x∈t.l,NewC x):NewC t:=by
 intro S cs w hx
 obtain ⟨i1,i2,v,rfl,hv⟩:=(qaz ..).1 hx
 obtain ⟨A,c,rfl,hc,hc0⟩:=hv.val
 have HV:=Hd hv
 have HT:=Hd ht
 clear hx hv ht
 go_enter Tryz.func288,Tryz.ntmps288
 go_wp2_with fail
 go_loopw [14] (fun vi wr=>∃ (k:Nat) (Ao:Option Addr) (co:Nat),k<=t.l.length∧vi = .int .i64 k∧Ext w wr∧Hid (qaf wr (w.heap.size+1) 159 [.int .i64 0,.int .i64 0,.slice none 0 0])∧Hid (qaf wr (w.heap.size+1+1) 159 [.int .i64 t.k,.int .i64 t.n,.slice Ao (t.l.take k).length co]) ∧
  Hid (qab RTm 3 159 (w.heap.size+3) (fun b=>w.heap.size+3<=b) wr (t.l.take k) (.slice Ao (t.l.take k).length co))) (fun vi _=>t.l.length-(intOf vi).toNat)
 case atStart=>exact ⟨0,none,0,Nat.zero_le _,rfl,bel,qgx ..,qgo ..,qab.nil ..⟩
 case round =>
  obtain ⟨k,Ao,co,hk,rfl,hE,hRb,hOb,hown⟩:=hrel
  have hOl:=hOb.out.lt
  have o0:=hOb.out.cell 0 _
  have o1:=hOb.out.cell 1 _
  have o2:=hOb.out.cell 2 _
  by_cases hlt:k<t.l.length
  ·obtain ⟨b,off,cs,rfl,hb,hSb,hl,hr,hcell⟩:=(qam.good.bel HV.out hE).get k hlt
   obtain ⟨j1,j2,u,rfl,hu⟩:=(qaz ..).1 hr
   have a0:=hcell.get 0 _
   have a1:=hcell.get 1 _
   have a2:=hcell.get 2 _
   simp only [Nat.add_zero] at a0
   have hrec:=fun W (hW:Ext wr W)=>HT.out _ (List.getElem_mem hlt) S _ W (RTm.good.bel hr hW)
   obtain ⟨Au,cu,rfl,_,_⟩:=hu.val
   obtain ⟨x,hxe⟩:∃ x,t.l[k]=x:=⟨_,rfl⟩
   have hst:t.l.take (k+1)=t.l.take k++[x]:=by rw [<- hxe];exact List.take_succ_eq_append_getElem hlt
   rw [hxe] at a0 a1 a2 hrec j1 j2
   obtain ⟨ys,hys⟩:∃ ys,t.l.take k=ys:=⟨_,rfl⟩
   have hyl:ys.length<=1000000:=by rw [<- hys,List.length_take];omega
   rw [hys] at hst hown hOb o2
   have hob:=fun q hq=>hown.out.own_lt (b:=q) hq
   have HST:=Hd hst
   have key:∀ (WX w5:World) (A5:Option Addr) (c5:Nat),Ext wr WX->wr.heap.size<=WX.heap.size->Ext WX w5->qam (fun b=>WX.heap.size<=b) w5 x.l [.slice A5 x.l.length c5] ->
     w5.cell? ⟨w.heap.size+1+1,2,none⟩=some (.slice Ao ys.length co)∧∃ g8 c8 w8,(Builtin.append_ #[59,59] 59 #[.slice Ao ys.length co,.slice (some ⟨w5.heap.size,0,none⟩) 1 1]).run Tryz.prog (w5.alloc (.cells #[.int .i64 x.k,.int .i64 x.n,.slice A5 x.l.length c5] 159)) = .ok (.slice (some ⟨g8,0,none⟩) (ys.length+1) c8) w8 ∧
      Bt (fun q=>(Value.slice Ao ys.length co).ownBlock=some q) (w5.alloc (.cells #[.int .i64 x.k,.int .i64 x.n,.slice A5 x.l.length c5] 159)) w8∧w8.frozen? ⟨w.heap.size+1+1,2,none⟩=false ∧
      (Hid (qaf (w8.setCell ⟨w.heap.size+1+1,2,none⟩ (.slice (some ⟨g8,0,none⟩) (ys.length+1) c8)) (w.heap.size+1+1) 159 [.int .i64 t.k,.int .i64 t.n,.slice (some ⟨g8,0,none⟩) (ys.length+1) c8]) ∧
       Hid (qab RTm 3 159 (w.heap.size+3) (fun b=>w.heap.size+3<=b) (w8.setCell ⟨w.heap.size+1+1,2,none⟩ (.slice (some ⟨g8,0,none⟩) (ys.length+1) c8)) (ys++[x]) (.slice (some ⟨g8,0,none⟩) (ys.length+1) c8)) ∧
       Hid (qaf (w8.setCell ⟨w.heap.size+1+1,2,none⟩ (.slice (some ⟨g8,0,none⟩) (ys.length+1) c8)) (w.heap.size+1) 159 [.int .i64 0,.int .i64 0,.slice none 0 0])∧Ext w (w8.setCell ⟨w.heap.size+1+1,2,none⟩ (.slice (some ⟨g8,0,none⟩) (ys.length+1) c8))):=fun WX w5 A5 c5 hX hXs h5 h6=>by
    have hX5:=hX.trans' h5
    have hz5:=hX5.size
    obtain ⟨g8,c8,w8,hr8,ho8,hb8,ha8,hbA⟩:=qff RTm.good (by decide) (w.heap.size+3) 159 59 (.agg #[.int .i64 0,.int .i64 0,.slice none 0 0]) 40 Tryz.underlying59 qk8 rfl (by decide) (fun b=>w.heap.size+3<=b) w5 ys (.slice Ao ys.length co) x [.int .i64 x.k,.int .i64 x.n,.slice A5 x.l.length c5]
     (hown.out.ext RTm.good hX5) ((qaz ..).2 ⟨j1,j2,_,rfl,qam.good.mono h6 fun b _ hb=>⟨by omega,fun e=>by have:=(hob b e).2;omega⟩⟩) (by omega) hyl
    have hv8:(Value.slice (some ⟨g8,0,none⟩) (ys.length+1) c8).ownBlock≠some (w.heap.size+1+1):=fun e=>by
     have:=(ho8.own_lt e).1
     omega
    have hp:=qix RTm.good 2 (hOb.out.ext hX5) ho8 hb8 (fun e=>by have:=(hob _ e).1;omega) hv8 (by omega)
    have e5:=Ext.keep hX5 o2
    refine ⟨e5,g8,c8,w8,hr8,hbA,hp.2.1,hp.2.2.1,hp.2.2.2.1,?_,?_⟩
    ·exact (hRb.out.ext hX5).bt hp.2.2.2.2 fun h=>by
      rcases h with h | h
      ·have:=(hob _ h).1;omega
      ·omega
    ·refine Bt.new (hE.trans' hX5) hp.2.2.2.2 fun q _ h=>?_
     rcases h with h | h
     ·have:=(hob _ h).1;omega
     ·omega
   have HK:=Hd key
   have hn1:¬ (Value.slice Ao ys.length co).ownBlock=some (w.heap.size+1+1):=fun e=>by have:=(hob _ e).1;omega
   have hn2:¬ (Value.slice Ao ys.length co).ownBlock=some wr.heap.size:=fun e=>by have:=(hob _ e).2;omega
   clear hr hu hl hcell hSb hst key hown hOb hRb
   go_wp2_with fail
   refine qg2 (fun W=>W.cell? ⟨w.heap.size+1+1,2,none⟩=some (.slice Ao ys.length co)∧W.cell? ⟨wr.heap.size,0,none⟩=some (.int .i64 x.k)∧W.cell? ⟨wr.heap.size,1,none⟩=some (.int .i64 x.n)∧W.cell? ⟨wr.heap.size,2,none⟩=some (.slice Au x.l.length cu)) (by kernel_rfl) (by rfl) (by kernel_rfl) ⟨Ext.keep (Below.drew ((Ext.refl wr).alloc _)) o2,by go_simp,by go_simp,by go_simp⟩ (fun hHeld=>?_)
   dsimp only [List.dropLast,List.getLastD,List.getLast?,List.getLast]
   (refine tk 0 ?_;try simp only [qai])
   (refine tk 1 ?_;try simp only [qai])
   (refine tk 2 ?_;try simp only [qai])
   refine wpAnyH_ready (rs:=[3]) (by kernel_rfl) (by simp) ?_
   refine AllReadyH.cons rfl (fun K hK=>?_) AllReadyH.nil
   go_simp
   refine (hrec _ bel).mono ?_
   rintro e w5 ⟨A5,c5,rfl,hr5,hx5⟩
   obtain ⟨k5,g8,c8,w8,hr8,hb8,f8,fin8⟩:=HK.out _ _ _ _ bel (by show _<=(World.heap (World.alloc _ _)).size;simp) hx5 hr5
   refine hK.out _ _ (Ext.k4 hx5 hHeld) (fun hHeld5=>?_)
   clear hK K
   try simp only [qai]
   refine wpAnyH_ready (rs:=[4]) (by kernel_rfl) (by simp) ?_
   refine AllReadyH.cons rfl (fun K hK=>?_) AllReadyH.nil
   go_simp
   have hHeld6:=Ext.k4 ((Ext.refl w5).alloc (.cells #[.int .i64 x.k,.int .i64 x.n,.slice A5 x.l.length c5] 159)) hHeld5
   refine hK.out _ _ hHeld6 (fun _=>?_)
   clear hK K
   try simp only [qai]
   refine wpAnyH_ready (rs:=[5]) (by kernel_rfl) (by simp) ?_
   refine AllReadyH.cons rfl (fun K hK=>?_) AllReadyH.nil
   refine qfx rfl _ _ _ rfl _ _ _ rfl rfl hr8 ?_
   have k8:=hb8.cell hHeld6.1 hn1
   refine hK.out _ _ ⟨k8,hb8.cell hHeld6.2.1 hn2,hb8.cell hHeld6.2.2.1 hn2,hb8.cell hHeld6.2.2.2 hn2⟩ (fun hHeld8=>?_)
   clear hK K
   try simp only [qai]
   (refine tk 6 ?_;try simp only [qai])
   refine wpAnyH_done (by kernel_rfl) ?_ _
   show Oper.wp _ _ _ _ _ _
   go_simp
   all_goals
    obtain ⟨q1,q2,q3,q4⟩:=fin8
    have hlen:(t.l.take (k+1)).length=ys.length+1:=by rw [HST.out,List.length_append];rfl
    have HLN:=Hd hlen
    clear hlen
    go_wp2_with fail
    go_roundw
    case rel=>exact ⟨k+1,some ⟨g8,0,none⟩,c8,by omega,by go_num,q4,q3,by show qaf _ _ _ _;rw [HLN.out];exact q1.out,by show qab _ _ _ _ _ _ _ _;rw [HLN.out,HST.out];exact q2.out⟩
    case measure=>simp [intOf];omega
  ·have hkl:t.l.take k=t.l:=List.take_of_length_le (by omega)
   rw [hkl] at hown hOb o2
   have r0:=hRb.out.cell 0 _
   have r1:=hRb.out.cell 1 _
   have r2:=hRb.out.cell 2 _
   have f0:=hRb.out.frozen 0
   have f1:=hRb.out.frozen 1
   have f2:=hRb.out.frozen 2
   clear hkl hOb
   go_wp2_with fail
   have hB3:=((hRb.out.set 0 (.int .i64 t.k)).set 1 (.int .i64 t.n)).set 2 (.slice Ao t.l.length co)
   refine bodyPost_ret (qtf rfl _ _ (w.heap.size+1) _ _ _ rfl (hB3.cell 0 _) (hB3.cell 1 _) (hB3.cell 2 _)) rfl ⟨Ao,co,rfl,?_,?_⟩
   ·have hb:Bt (fun q=>q=w.heap.size+1) wr (((wr.setCell ⟨w.heap.size+1,0,none⟩ (.int .i64 t.k)).setCell ⟨w.heap.size+1,1,none⟩ (.int .i64 t.n)).setCell ⟨w.heap.size+1,2,none⟩ (.slice Ao t.l.length co)) :=
     Bt.set (Z:=fun q=>q=w.heap.size+1) (p:=⟨w.heap.size+1,2,none⟩) (Bt.set (Z:=fun q=>q=w.heap.size+1) (p:=⟨w.heap.size+1,1,none⟩) (Bt.set (Z:=fun q=>q=w.heap.size+1) (p:=⟨w.heap.size+1,0,none⟩) (Bt.refl _ _) (.inr rfl) _) (.inr rfl) _) (.inr rfl) _
    refine qam.good.mono (qam.good.move (hown.out.sl RTm.good (by decide)) (hb.kp (S:=fun b=>w.heap.size+3<=b∨w.heap.size+3<=b) fun q _ h h'=>by omega)) fun q _ h=>by omega
   ·exact (((hE.set (p:=⟨w.heap.size+1,0,none⟩) (by show _<=w.heap.size+1;omega) _).set (p:=⟨w.heap.size+1,1,none⟩) (by show _<=w.heap.size+1;omega) _).set (p:=⟨w.heap.size+1,2,none⟩) (by show _<=w.heap.size+1;omega) _)
theorem new_c:∀ t,qbc t=true->NewC t:=Tm.ind fun t ih h=>new_of t (by have:=(qlf h).2.2.1;omega) fun x hx=>ih x hx ((qlf h).2.2.2 x hx)
def LabelPost (x:Lb) (w:World) (e:Ending) (w':World):Prop:=∃ A c,e = .returned (.agg #[.int .i64 x.g,.slice A x.v.length c])∧qam (fun b=>w.heap.size<=b) w' x.v [.slice A x.v.length c]∧Ext w w'
theorem label_c (S:Nat->Prop) (x:Lb) (hok:qax x=true) (cs:List Value) (w:World) (hx:RLb S w x cs) :
  Calls Tryz.prog 273 #[.agg cs.toArray] w (LabelPost x w):=by
 have hv8:=qli hok
 obtain ⟨i1,v,rfl,hv⟩:=id hx
 obtain ⟨A,c,rfl,hc,hc0⟩:=hv.val
 have HV:=Hd hv
 have HT:Hid (∀ t∈x.v,NewC t):=fun t ht=>new_c t (hv8.2.2.2 t ht)
 have hl8:=hv8.2.2.1
 clear hx hv hv8 hok
 go_enter Tryz.func273,Tryz.ntmps273
 go_wp2_with fail
 go_loopw [12] (fun vi wr=>∃ (k:Nat) (Ao:Option Addr) (co:Nat),k<=x.v.length∧vi = .int .i64 k∧Ext w wr∧Hid (qaf wr (w.heap.size+1) 61 [.int .i64 0,.slice none 0 0])∧Hid (qaf wr (w.heap.size+1+1) 61 [.int .i64 x.g,.slice Ao (x.v.take k).length co]) ∧
  Hid (qab RTm 3 159 (w.heap.size+3) (fun b=>w.heap.size+3<=b) wr (x.v.take k) (.slice Ao (x.v.take k).length co))) (fun vi _=>x.v.length-(intOf vi).toNat)
 case atStart=>exact ⟨0,none,0,Nat.zero_le _,rfl,bel,qgx ..,qgo ..,qab.nil ..⟩
 case round =>
  obtain ⟨k,Ao,co,hk,rfl,hE,hRb,hOb,hown⟩:=hrel
  have hOl:=hOb.out.lt
  have o0:=hOb.out.cell 0 _
  have o1:=hOb.out.cell 1 _
  by_cases hlt:k<x.v.length
  ·obtain ⟨b,off,cs,rfl,hb,hSb,hl,hr,hcell⟩:=(qam.good.bel HV.out hE).get k hlt
   obtain ⟨j1,j2,u,rfl,hu⟩:=(qaz ..).1 hr
   have a0:=hcell.get 0 _
   have a1:=hcell.get 1 _
   have a2:=hcell.get 2 _
   simp only [Nat.add_zero] at a0
   have hrec:=fun W (hW:Ext wr W)=>HT.out _ (List.getElem_mem hlt) S _ W (RTm.good.bel hr hW)
   obtain ⟨Au,cu,rfl,_,_⟩:=hu.val
   obtain ⟨t,hxe⟩:∃ t,x.v[k]=t:=⟨_,rfl⟩
   have hst:x.v.take (k+1)=x.v.take k++[t]:=by rw [<- hxe];exact List.take_succ_eq_append_getElem hlt
   rw [hxe] at a0 a1 a2 hrec j1 j2
   obtain ⟨ys,hys⟩:∃ ys,x.v.take k=ys:=⟨_,rfl⟩
   have hyl:ys.length<=1000000:=by rw [<- hys,List.length_take];omega
   rw [hys] at hst hown hOb o1
   have hob:=fun q hq=>hown.out.own_lt (b:=q) hq
   have HST:=Hd hst
   have key:∀ (WX w5:World) (A5:Option Addr) (c5:Nat),Ext wr WX->wr.heap.size<=WX.heap.size->Ext WX w5->qam (fun b=>WX.heap.size<=b) w5 t.l [.slice A5 t.l.length c5] ->
     w5.cell? ⟨w.heap.size+1+1,1,none⟩=some (.slice Ao ys.length co)∧∃ g8 c8 w8,(Builtin.append_ #[59,59] 59 #[.slice Ao ys.length co,.slice (some ⟨w5.heap.size,0,none⟩) 1 1]).run Tryz.prog (w5.alloc (.cells #[.int .i64 t.k,.int .i64 t.n,.slice A5 t.l.length c5] 159)) = .ok (.slice (some ⟨g8,0,none⟩) (ys.length+1) c8) w8 ∧
      Bt (fun q=>(Value.slice Ao ys.length co).ownBlock=some q) (w5.alloc (.cells #[.int .i64 t.k,.int .i64 t.n,.slice A5 t.l.length c5] 159)) w8∧w8.frozen? ⟨w.heap.size+1+1,1,none⟩=false ∧
      (Hid (qaf (w8.setCell ⟨w.heap.size+1+1,1,none⟩ (.slice (some ⟨g8,0,none⟩) (ys.length+1) c8)) (w.heap.size+1+1) 61 [.int .i64 x.g,.slice (some ⟨g8,0,none⟩) (ys.length+1) c8]) ∧
       Hid (qab RTm 3 159 (w.heap.size+3) (fun b=>w.heap.size+3<=b) (w8.setCell ⟨w.heap.size+1+1,1,none⟩ (.slice (some ⟨g8,0,none⟩) (ys.length+1) c8)) (ys++[t]) (.slice (some ⟨g8,0,none⟩) (ys.length+1) c8)) ∧
       Hid (qaf (w8.setCell ⟨w.heap.size+1+1,1,none⟩ (.slice (some ⟨g8,0,none⟩) (ys.length+1) c8)) (w.heap.size+1) 61 [.int .i64 0,.slice none 0 0])∧Ext w (w8.setCell ⟨w.heap.size+1+1,1,none⟩ (.slice (some ⟨g8,0,none⟩) (ys.length+1) c8))):=fun WX w5 A5 c5 hX hXs h5 h6=>by
    have hX5:=hX.trans' h5
    have hz5:=hX5.size
    obtain ⟨g8,c8,w8,hr8,ho8,hb8,ha8,hbA⟩:=qff RTm.good (by decide) (w.heap.size+3) 159 59 (.agg #[.int .i64 0,.int .i64 0,.slice none 0 0]) 40 Tryz.underlying59 qk8 rfl (by decide) (fun b=>w.heap.size+3<=b) w5 ys (.slice Ao ys.length co) t [.int .i64 t.k,.int .i64 t.n,.slice A5 t.l.length c5]
     (hown.out.ext RTm.good hX5) ((qaz ..).2 ⟨j1,j2,_,rfl,qam.good.mono h6 fun b _ hb=>⟨by omega,fun e=>by have:=(hob b e).2;omega⟩⟩) (by omega) hyl
    have hv8:(Value.slice (some ⟨g8,0,none⟩) (ys.length+1) c8).ownBlock≠some (w.heap.size+1+1):=fun e=>by
     have:=(ho8.own_lt e).1
     omega
    have hp:=qix RTm.good 1 (hOb.out.ext hX5) ho8 hb8 (fun e=>by have:=(hob _ e).1;omega) hv8 (by omega)
    have e5:=Ext.keep hX5 o1
    refine ⟨e5,g8,c8,w8,hr8,hbA,hp.2.1,hp.2.2.1,hp.2.2.2.1,?_,?_⟩
    ·exact (hRb.out.ext hX5).bt hp.2.2.2.2 fun h=>by
      rcases h with h | h
      ·have:=(hob _ h).1;omega
      ·omega
    ·refine Bt.new (hE.trans' hX5) hp.2.2.2.2 fun q _ h=>?_
     rcases h with h | h
     ·have:=(hob _ h).1;omega
     ·omega
   have HK:=Hd key
   have hn1:¬ (Value.slice Ao ys.length co).ownBlock=some (w.heap.size+1+1):=fun e=>by have:=(hob _ e).1;omega
   have hn2:¬ (Value.slice Ao ys.length co).ownBlock=some wr.heap.size:=fun e=>by have:=(hob _ e).2;omega
   clear hr hu hl hcell hSb hst key hown hOb hRb
   go_wp2_with fail
   refine qg2 (fun W=>W.cell? ⟨w.heap.size+1+1,1,none⟩=some (.slice Ao ys.length co)∧W.cell? ⟨wr.heap.size,0,none⟩=some (.int .i64 t.k)∧W.cell? ⟨wr.heap.size,1,none⟩=some (.int .i64 t.n)∧W.cell? ⟨wr.heap.size,2,none⟩=some (.slice Au t.l.length cu)) (by kernel_rfl) (by rfl) (by kernel_rfl) ⟨Ext.keep (Below.drew ((Ext.refl wr).alloc _)) o1,by go_simp,by go_simp,by go_simp⟩ (fun hHeld=>?_)
   dsimp only [List.dropLast,List.getLastD,List.getLast?,List.getLast]
   (refine tk 0 ?_;try simp only [qai])
   (refine tk 1 ?_;try simp only [qai])
   (refine tk 2 ?_;try simp only [qai])
   refine wpAnyH_ready (rs:=[3]) (by kernel_rfl) (by simp) ?_
   refine AllReadyH.cons rfl (fun K hK=>?_) AllReadyH.nil
   go_simp
   refine (hrec _ bel).mono ?_
   rintro e w5 ⟨A5,c5,rfl,hr5,hx5⟩
   obtain ⟨k5,g8,c8,w8,hr8,hb8,f8,fin8⟩:=HK.out _ _ _ _ bel (by show _<=(World.heap (World.alloc _ _)).size;simp) hx5 hr5
   refine hK.out _ _ (Ext.k4 hx5 hHeld) (fun hHeld5=>?_)
   clear hK K
   try simp only [qai]
   refine wpAnyH_ready (rs:=[4]) (by kernel_rfl) (by simp) ?_
   refine AllReadyH.cons rfl (fun K hK=>?_) AllReadyH.nil
   go_simp
   have hHeld6:=Ext.k4 ((Ext.refl w5).alloc (.cells #[.int .i64 t.k,.int .i64 t.n,.slice A5 t.l.length c5] 159)) hHeld5
   refine hK.out _ _ hHeld6 (fun _=>?_)
   clear hK K
   try simp only [qai]
   refine wpAnyH_ready (rs:=[5]) (by kernel_rfl) (by simp) ?_
   refine AllReadyH.cons rfl (fun K hK=>?_) AllReadyH.nil
   refine qfx rfl _ _ _ rfl _ _ _ rfl rfl hr8 ?_
   have k8:=hb8.cell hHeld6.1 hn1
   refine hK.out _ _ ⟨k8,hb8.cell hHeld6.2.1 hn2,hb8.cell hHeld6.2.2.1 hn2,hb8.cell hHeld6.2.2.2 hn2⟩ (fun hHeld8=>?_)
   clear hK K
   try simp only [qai]
   (refine tk 6 ?_;try simp only [qai])
   refine wpAnyH_done (by kernel_rfl) ?_ _
   show Oper.wp _ _ _ _ _ _
   go_simp
   all_goals
    obtain ⟨q1,q2,q3,q4⟩:=fin8
    have hlen:(x.v.take (k+1)).length=ys.length+1:=by rw [HST.out,List.length_append];rfl
    have HLN:=Hd hlen
    clear hlen
    go_wp2_with fail
    go_roundw
    case rel=>exact ⟨k+1,some ⟨g8,0,none⟩,c8,by omega,by go_num,q4,q3,by show qaf _ _ _ _;rw [HLN.out];exact q1.out,by show qab _ _ _ _ _ _ _ _;rw [HLN.out,HST.out];exact q2.out⟩
    case measure=>simp [intOf];omega
  ·have hkl:x.v.take k=x.v:=List.take_of_length_le (by omega)
   rw [hkl] at hown hOb o1
   have r0:=hRb.out.cell 0 _
   have r1:=hRb.out.cell 1 _
   have f0:=hRb.out.frozen 0
   have f1:=hRb.out.frozen 1
   clear hkl hOb
   go_wp2_with fail
   have hB3:=(hRb.out.set 0 (.int .i64 x.g)).set 1 (.slice Ao x.v.length co)
   refine bodyPost_ret (qrc rfl _ _ (w.heap.size+1) _ _ rfl (hB3.cell 0 _) (hB3.cell 1 _)) rfl ⟨Ao,co,rfl,?_,?_⟩
   ·have hb:Bt (fun q=>q=w.heap.size+1) wr ((wr.setCell ⟨w.heap.size+1,0,none⟩ (.int .i64 x.g)).setCell ⟨w.heap.size+1,1,none⟩ (.slice Ao x.v.length co)) :=
     Bt.set (Z:=fun q=>q=w.heap.size+1) (p:=⟨w.heap.size+1,1,none⟩) (Bt.set (Z:=fun q=>q=w.heap.size+1) (p:=⟨w.heap.size+1,0,none⟩) (Bt.refl _ _) (.inr rfl) _) (.inr rfl) _
    refine qam.good.mono (qam.good.move (hown.out.sl RTm.good (by decide)) (hb.kp (S:=fun b=>w.heap.size+3<=b∨w.heap.size+3<=b) fun q _ h h'=>by omega)) fun q _ h=>by omega
   ·exact ((hE.set (p:=⟨w.heap.size+1,0,none⟩) (by show _<=w.heap.size+1;omega) _).set (p:=⟨w.heap.size+1,1,none⟩) (by show _<=w.heap.size+1;omega) _)
end
end Go.Proofs.YtegenalcheooeaaGreat
