/- Of the proof of a law of the suites: RFacts, CoversE. -/
import Derived.Test.YtegenalcheooeaaGreatB01
import Derived.Test.YtegenalcheooeaaGreatB15
import Derived.Test.YtegenalcheooeaaGreatB16
set_option linter.unusedSectionVars false
set_option linter.unusedSimpArgs false
set_option linter.unusedVariables false
namespace Go.Proofs.YtegenalcheooeaaGreat
open Go.RowKit
attribute [local go_sem] cell?_exto
section

def qcf:List Oper->Nat->(Nat->Value)->Act->Act
 | [],_,_,a=>a
 | o :: l,k,vs,a=>qcf l (k+1) vs (a.put o.dst (vs k))
def qeu:List Oper->Nat->Tmp->Option Nat
 | [],_,_=>none
 | o :: l,k,t=>match qeu l (k+1) t with
  | some j=>some j
  | none=>if o.dst=some t then some k else none
theorem qkp (a:Act) (d:Option Tmp) (v:Value):(a.put d v).tmps.size=a.tmps.size:=by cases d <;> simp [Act.put]
theorem put_defers (a:Act) (d:Option Tmp) (v:Value):(a.put d v).defers=a.defers:=by cases d <;> rfl
theorem put_at (a:Act) (d:Option Tmp) (v:Value) (t:Nat) (ht:t<a.tmps.size):(a.put d v).tmps[t]? = if d=some t then some v else a.tmps[t]?:=by
 cases d with
 | none=>simp [Act.put]
 | some d =>
  by_cases e:d=t
  ·subst e;simp [Act.put,ht]
  ·simp [Act.put,Array.getElem?_setIfInBounds_ne e,e]
theorem qhv:∀ (l:List Oper) (k:Nat) (vs:Nat->Value) (a:Act),(qcf l k vs a).tmps.size=a.tmps.size
 | [],_,_,_=>rfl
 | o :: l,k,vs,a=>by rw [qcf,qhv l,qkp]
theorem qk5:∀ (l:List Oper) (k:Nat) (vs:Nat->Value) (a:Act),(qcf l k vs a).defers=a.defers
 | [],_,_,_=>rfl
 | o :: l,k,vs,a=>by rw [qcf,qk5 l,put_defers]
theorem qh7:∀ (l:List Oper) (k:Nat) (vs:Nat->Value) (a:Act) (t:Nat),t<a.tmps.size->(qcf l k vs a).tmps[t]? = match qeu l k t with
  | some j=>some (vs j)
  | none=>a.tmps[t]?
 | [],_,_,_,_,_=>rfl
 | o :: l,k,vs,a,t,ht=>by
  rw [qcf,qh7 l (k+1) vs _ t (by rw [qkp];exact ht),qeu]
  cases h:qeu l (k+1) t with
  | some j=>rfl
  | none =>
   simp only
   rw [put_at _ _ _ _ ht]
   by_cases e:o.dst=some t
   ·rw [if_pos e,if_pos e]
   ·rw [if_neg e,if_neg e]
theorem qkj:∀ (l:List Oper) (k t j:Nat),qeu l k t=some j->k<=j∧∃ o,l[j-k]? = some o∧o.dst=some t
 | [],_,_,_,h=>by cases h
 | o :: l,k,t,j,h=>by
  rw [qeu] at h
  cases h2:qeu l (k+1) t with
  | some i =>
   rw [h2] at h
   simp only [Option.some.injEq] at h
   subst h
   obtain ⟨h3,o',h4,h5⟩:=qkj l (k+1) t i h2
   refine ⟨by omega,o',?_,h5⟩
   rw [show i-k=(i-(k+1))+1 from by omega]
   simpa using h4
  | none =>
   rw [h2] at h
   simp only at h
   split at h
   ·rename_i e
    injection h with h
    subst h
    exact ⟨Nat.le_refl _,o,by simp,e⟩
   ·cases h
theorem act_ext {a b:Act} (h:∀ t,t<a.tmps.size->a.tmps[t]? = b.tmps[t]?) (hs:a.tmps.size=b.tmps.size) (hd:a.defers=b.defers):a=b:=by
 obtain ⟨x,d⟩:=a
 obtain ⟨y,d'⟩:=b
 simp only at h hs hd
 subst hd
 congr 1
 apply Array.ext_getElem?
 intro t
 by_cases ht:t<x.size
 ·exact h t ht
 ·rw [Array.getElem?_eq_none (by omega),Array.getElem?_eq_none (by omega)]
def qh9 (o:Oper):List Nat:=(o.after.toList.filter (Region.binds .any)).map (·.on)
def qhi (l:List Oper) (n:Nat):Bool:=(List.range l.length).all fun i=>match l[i]? with
 | none=>true
 | some o=>(match o.dst with
  | none=>true
  | some d=>decide (d<n) && qeu l 0 d == some i) && (qh9 o).all fun j=>decide (j<i)
theorem qk0 {l:List Oper} {n:Nat} (h:qhi l n=true) {i:Nat} {o:Oper} (hi:l[i]? = some o):(∀ d,o.dst=some d->d<n∧qeu l 0 d=some i)∧∀ e∈o.after,Region.binds .any e=true->e.on<i:=by
 have hlt:=(List.getElem?_eq_some_iff.1 hi).1
 have h1:=List.all_eq_true.1 h i (List.mem_range.2 hlt)
 rw [hi] at h1
 simp only [Bool.and_eq_true] at h1
 refine ⟨fun d hd=>?_,fun e he hb=>?_⟩
 ·have h2:=h1.1
  rw [hd] at h2
  simpa using h2
 ·have h2:=List.all_eq_true.1 h1.2 e.on (List.mem_map.2 ⟨e,List.mem_filter.2 ⟨by simpa using he,hb⟩,rfl⟩)
  simpa using h2
theorem finA_put {l:List Oper} {a:Act} (hB:qhi l a.tmps.size=true) {i:Nat} {o:Oper} (hi:l[i]? = some o) (vs:Nat->Value) (v:Value):(qcf l 0 vs a).put o.dst v=qcf l 0 (fun j=>if j=i then v else vs j) a:=by
 have hs:=qk0 hB hi
 refine act_ext (fun t ht=>?_) (by rw [qkp,qhv,qhv]) (by rw [put_defers,qk5,qk5])
 rw [qkp,qhv] at ht
 rw [put_at _ _ _ _ (by rw [qhv];exact ht),qh7 _ _ _ _ _ ht,qh7 _ _ _ _ _ ht]
 by_cases e:o.dst=some t
 ·rw [if_pos e,(hs.1 t e).2]
  simp
 ·rw [if_neg e]
  cases hx:qeu l 0 t with
  | none=>rfl
  | some j =>
   obtain ⟨_,o',h4,h5⟩:=qkj l 0 t j hx
   have hji:j≠i:=by
    rintro rfl
    rw [Nat.sub_zero,hi] at h4
    injection h4 with h4
    exact e (h4 ▸ h5)
   simp [hji]
theorem finA_self {l:List Oper} {a:Act} (hB:qhi l a.tmps.size=true):∃ vs,a=qcf l 0 vs a:=by
 refine ⟨fun i=>match l[i]? with
  | some o=>(match o.dst with
   | some d=>a.tmps.getD d undef
   | none=>undef)
  | none=>undef,act_ext (fun t ht=>?_) (by rw [qhv]) (by rw [qk5])⟩
 rw [qh7 _ _ _ _ _ ht]
 cases hx:qeu l 0 t with
 | none=>rfl
 | some j =>
  obtain ⟨_,o',h4,h5⟩:=qkj l 0 t j hx
  rw [Nat.sub_zero] at h4
  simp only [h4,h5]
  simp [ht]
def evF (l:List Oper) (a:Act) (vs:Nat->Value):Operand->Value
 | .tmp t=>match qeu l 0 t with
  | some j=>vs j
  | none=>a.tmps.getD t undef
 | x=>a.eval x
theorem finA_eval {l:List Oper} {a:Act} (hB:qhi l a.tmps.size=true) (vs:Nat->Value):(qcf l 0 vs a).eval=evF l a vs:=by
 funext x
 cases x with
 | tmp t =>
  show (qcf l 0 vs a).tmps.getD t undef=_
  rw [evF]
  by_cases ht:t<a.tmps.size
  ·have h:=qh7 l 0 vs a t ht
   simp only [Array.getD_eq_getD_getElem?,h]
   cases qeu l 0 t <;> rfl
  ·cases hx:qeu l 0 t with
   | none=>simp [qhv,ht]
   | some j =>
    obtain ⟨_,o',h4,h5⟩:=qkj l 0 t j hx
    rw [Nat.sub_zero] at h4
    exact absurd ((qk0 hB h4).1 t h5).1 ht
 | _=>rfl
def vwp (P:Program) (o:Oper) (ev:Operand->Value) (w:World) (R:Value->World->Prop):Prop :=
 match (execOp ev o).run P w with
 | .ok (.value v) w'=>R v w'
 | .ok .skip w'=>R undef w'
 | .ok (.enter f args) w'=>Calls P f args w' fun e w''=>∃ v,e = .returned v∧R v w''
 | _=>False
theorem vwp_wp {P:Program} {o:Oper} {a:Act} {w:World} {R:Value->World->Prop} {K:Act->World->Prop} {Q:Exit->Act->World->Prop} (h:vwp P o a.eval w R) (hK:∀ v w',R v w'->K (a.put o.dst v) w'):o.wp P a w K Q:=by
 unfold vwp at h
 unfold Oper.wp
 generalize (execOp a.eval o).run P w=r at *
 cases r with
 | ok n w' =>
  cases n <;> simp only at h <;> simp only [Oper.upon]
  case value u=>exact hK _ _ h
  case skip=>exact hK _ _ h
  case enter f args =>
   refine h.mono ?_
   rintro e w'' ⟨v,rfl,hv⟩
   exact hK _ _ hv
 | halt x w'=>simp only at h
def asB:Value->Option Bool
 | .bool b=>some b
 | _=>none
theorem qt0 {l:List Oper} {a:Act} (hB:qhi l a.tmps.size=true) (vs:Nat->Value) {g:Nat} {o:Oper} {d:Tmp} (hg:l[g]? = some o) (hd:o.dst=some d):yielded l.toArray (qcf l 0 vs a).tmps g=asB (vs g):=by
 have h:=(qk0 hB hg).1 d hd
 have h2:=qh7 l 0 vs a d h.1
 rw [h.2] at h2
 unfold yielded
 simp only [List.getElem?_toArray,hg,Option.bind_some,hd,h2]
 cases vs g <;> rfl
def qfm (Fs:List (Value->World->Prop)) (i:Nat) (v:Value) (w:World):Prop:=match Fs[i]? with
 | some f=>f v w
 | none=>True
def StepOK (P:Program) (l:List Oper) (a:Act) (w0:World) (Fs:List (Value->World->Prop)) (i:Nat) (o:Oper):Prop:=∀ (vs:Nat->Value) (w:World),Ext w0 w->(∀ j∈qh9 o,qfm Fs j (vs j) w) ->
 match o.guard with
 | none=>vwp P o (evF l a vs) w fun v w'=>Ext w w'∧qfm Fs i v w'
 | some (g,want)=>(∃ o' d,l[g]? = some o'∧o'.dst=some d)∧(asB (vs g)=some want->vwp P o (evF l a vs) w fun v w'=>Ext w w'∧qfm Fs i v w')∧(asB (vs g)≠some want->qfm Fs i undef w)
def qib (P:Program) (l:List Oper) (a:Act) (w0:World) (Fs:List (Value->World->Prop)):List Oper->Nat->Prop
 | [],_=>True
 | o :: r,k=>StepOK P l a w0 Fs k o∧qib P l a w0 Fs r (k+1)
theorem qib.get {P:Program} {l:List Oper} {a:Act} {w0:World} {Fs:List (Value->World->Prop)}:∀ {r:List Oper} {k i:Nat} {o:Oper},qib P l a w0 Fs r k->r[i]? = some o->StepOK P l a w0 Fs (k+i) o
 | o :: r,k,0,o',h,hi=>by
  simp at hi
  subst hi
  exact h.1
 | o :: r,k,i+1,o',h,hi=>by
  have:=qib.get h.2 (i:=i) (by simpa using hi)
  rwa [show k+1+i=k+(i+1) from by omega] at this
 | [],_,_,_,_,hi=>by simp at hi
theorem qq0:∀ (L:List Bool) (i:Nat),L[i]? = some false->(L.set i true).count false+1=L.count false
 | b :: L,0,h=>by
  simp at h
  subst h
  simp
 | b :: L,i+1,h=>by
  have:=qq0 L i (by simpa using h)
  rw [List.set_cons_succ,List.count_cons,List.count_cons]
  omega
 | [],_,h=>by simp at h
theorem quo {L:List Bool} (h:L.count false=0):∀ i,i<L.length->L[i]? = some true:=fun i hi=>by
 rw [List.getElem?_eq_getElem hi]
 have:L[i]≠false:=fun e=>by
  have:=List.count_eq_zero.1 h
  exact this (e ▸ List.getElem_mem hi)
 simpa using this
theorem qq4 {P:Program} {l:List Oper} {Q:Exit->Act->World->Prop} {a0:Act} {w0:World} (Fs:List (Value->World->Prop)) (hB:qhi l a0.tmps.size=true) (hF:∀ f∈Fs,∀ v A B,f v A->Ext A B->f v B)
  (hst:qib P l a0 w0 Fs l 0) (hend:∀ vs w,Ext w0 w->(∀ i,i<l.length->qfm Fs i (vs i) w)->Q .normal (qcf l 0 vs a0) w):∀ (fuel:Nat) (listed:Array Bool) (vs:Nat->Value) (w:World),listed.size=l.length->listed.toList.count false<=fuel ->
  Ext w0 w->(∀ i,listed.getD i false=true->qfm Fs i (vs i) w)->wpAny P .any l.toArray Q fuel listed (qcf l 0 vs a0) w
 | 0,listed,vs,w,hs,hc,hx,hf=>by
  have hall:=quo (Nat.le_zero.1 hc)
  have hg:∀ i,i<l.length->listed.getD i false=true:=fun i hi=>by
   have:=hall i (by simpa [hs] using hi)
   rw [Array.getElem?_toList] at this
   simp [this]
  refine ⟨?_,hend vs w hx fun i hi=>hf i (hg i hi)⟩
  apply List.eq_nil_iff_forall_not_mem.2
  intro i hi
  obtain ⟨h1,o,h2,_⟩:=mem_ready.1 hi
  have hlt:i<l.length:=by simpa using (Array.getElem?_eq_some_iff.1 h2).1
  have h3:=hg i hlt
  have hi':i<listed.size:=by omega
  simp [hi'] at h1 h3
  rw [h1] at h3
  cases h3
 | fuel+1,listed,vs,w,hs,hc,hx,hf=>by
  refine ⟨fun hr=>?_,fun i hi=>?_⟩
  ·-- nothing may come up: all have come up
   have hg:∀ i,i<l.length->listed.getD i false=true:=fun i=>by
    induction i using Nat.strongRecOn with
    | _ i ih =>
    intro hi
    apply Classical.byContradiction
    intro hn
    have hi':i<listed.size:=by omega
    have hmem:i∈Region.ready .any l.toArray listed:=by
     refine mem_ready.2 ⟨?_,l[i],by simp [hi],fun e he hb=>?_⟩
     ·simp [hi'] at hn ⊢
      exact hn
     ·have hlt:=(qk0 hB (List.getElem?_eq_getElem hi)).2 e he hb
      exact ih e.on hlt (by omega)
    rw [hr] at hmem
    cases hmem
   exact hend vs w hx fun i hi=>hf i (hg i hi)
  ·obtain ⟨h1,o,h2,h3⟩:=mem_ready.1 hi
   have hlo:l[i]? = some o:=by simpa using h2
   have hlt:i<l.length:=(List.getElem?_eq_some_iff.1 hlo).1
   have hi':i<listed.size:=by omega
   have hLi:listed.toList[i]? = some false:=by
    rw [Array.getElem?_toList]
    simp [hi'] at h1 ⊢
    exact h1
   have hstep:=hst.get hlo vs w hx fun j hj=>by
    obtain ⟨e,he,rfl⟩:=List.mem_map.1 hj
    obtain ⟨he,hb⟩:=List.mem_filter.1 he
    exact hf _ (h3 e (by simpa using he) hb)
   rw [Nat.zero_add] at hstep
   have hgo:∀ v w',Ext w w'->qfm Fs i v w'->wpAny P .any l.toArray Q fuel (listed.setIfInBounds i true) ((qcf l 0 vs a0).put o.dst v) w':=fun v w' hx' hv=>by
    rw [finA_put hB hlo]
    refine qq4 Fs hB hF hst hend fuel _ _ w' (by simpa using hs) ?_ (hx.trans' hx') fun j hj=>?_
    ·have:=qq0 listed.toList i hLi
     rw [Array.toList_setIfInBounds]
     omega
    ·by_cases e:j=i
     ·subst e
      simpa using hv
     ·simp only [if_neg e]
      rw [getD_set_ne false (Ne.symm e)] at hj
      have h5:=hf j hj
      unfold qfm at h5 ⊢
      cases hq:Fs[j]? with
      | none=>trivial
      | some f =>
       rw [hq] at h5
       exact hF f (List.mem_of_getElem? hq) _ _ _ h5 hx'
   unfold wpOp
   rw [h2]
   simp only
   rw [finA_eval hB vs |>.symm] at hstep
   cases hgd:o.guard with
   | none =>
    rw [hgd] at hstep
    have hw:Region.wanted o (yielded l.toArray (qcf l 0 vs a0).tmps)=true:=by simp [Region.wanted,hgd]
    rw [if_pos hw]
    exact .inl (vwp_wp hstep fun v w' (h:Ext w w'∧qfm Fs i v w')=>hgo v w' h.1 h.2)
   | some gw =>
    obtain ⟨g,want⟩:=gw
    rw [hgd] at hstep
    obtain ⟨⟨o',d,hg1,hg2⟩,hs1,hs2⟩:=hstep
    have hy:=qt0 hB vs hg1 hg2
    by_cases hv:asB (vs g)=some want
    ·have hw:Region.wanted o (yielded l.toArray (qcf l 0 vs a0).tmps)=true:=by simp [Region.wanted,hgd,hy,hv]
     rw [if_pos hw]
     exact .inl (vwp_wp (hs1 hv) fun v w' (h:Ext w w'∧qfm Fs i v w')=>hgo v w' h.1 h.2)
    ·have hw:¬ Region.wanted o (yielded l.toArray (qcf l 0 vs a0).tmps)=true:=by simp [Region.wanted,hgd,hy,hv]
     rw [if_neg hw]
     exact hgo undef w (Ext.refl w) (hs2 hv)
theorem qip {P:Program} {id:Nat} {l:List Oper} {Q:Exit->Act->World->Prop} {a:Act} {w:World} (Fs:List (Value->World->Prop)) (hm:P.follows .mixedOrders=true) (hB:qhi l a.tmps.size=true) (hF:∀ f∈Fs,∀ v A B,f v A->Ext A B->f v B)
  (hst:qib P l a w.drew Fs l 0) (hend:∀ vs w',Ext w w'->(∀ i,i<l.length->qfm Fs i (vs i) w')->Q .normal (qcf l 0 vs a) w'):(Code.region id l.toArray true).wp P Q a w:=by
 refine wp_region_any hm ?_
 obtain ⟨vs,hvs⟩:=finA_self hB
 have h:=qq4 (Q:=Q) Fs hB hF hst (fun vs w' hx hf=>hend vs w' (Ext.trans' (Ext.refl w).drew hx) hf) l.length (Array.replicate l.length false) vs w.drew (by simp) (by simp) (Ext.refl _) (fun i hi=>by
  exfalso
  by_cases h:i<l.length
  ·simp [h] at hi
  ·simp [h] at hi)
 rw [<- hvs] at h
 simpa using h
end
section
open Go.Shelf
def cv0 (s:Sy):Cv:=⟨List.replicate s.ls.length false,List.replicate s.es.length false⟩
def qfy (s:Sy) (ts:List Te):Cv:=ts.foldl (fun c t=>qd8 s t c) (cv0 s)
open Classical in
noncomputable def covR (s:Sy) (ts:List Te):Cv:=if qar s ts=0 then qfy s ts else ⟨[],[]⟩
theorem qmr (s:Sy):∀ (ts:List Te) (c:Cv),(ts.foldl (fun c t=>qd8 s t c) c).l.length=c.l.length∧(ts.foldl (fun c t=>qd8 s t c) c).e.length=c.e.length
 | [],_=>⟨rfl,rfl⟩
 | t :: ts,c=>by
  have h1:=qmr s ts (qd8 s t c)
  have h2:=qr7 s t c
  exact ⟨h1.1.trans h2.1,h1.2.trans h2.2⟩
def CvPost (c:Cv) (err:Int) (w:World) (e:Ending) (w':World):Prop:=∃ v1 v2,e = .returned (.tuple #[v1,v2,.int .i64 err])∧RBs w.heap.size w' c.l v1∧RBs w.heap.size w' c.e v2∧Ext w w'
set_option maxHeartbeats 1000000 in
set_option maxRecDepth 100000 in
theorem Covers_c (S:Nat->Prop) (s:Sy) (cs:List Value) (ts:List Te) (v:Value) (w:World) (hx:RSy S w s cs) (ht:RSl RTe 2 S w ts [v]) :
  Calls Tryz.prog 48 #[.agg cs.toArray,v] w (CvPost (covR s ts) (qar s ts) w):=by
 have hak:=fun W (hW:Ext w W)=>qjj S s cs ts v W (RSy.good.bel hx hW) ((RSl.good RTe.good).bel ht hW)
 obtain ⟨_,vl,ve,rfl,hvl,hve⟩:=id hx
 obtain ⟨Al,cl,rfl,_,_⟩:=hvl.val
 obtain ⟨Ae,ce,rfl,_,_⟩:=hve.val
 obtain ⟨A,c,rfl,hc,hc0⟩:=ht.val
 have HT:=Hd ht
 clear hx ht hvl hve
 by_cases hE:qar s ts=0
 case neg =>
  have hv:covR s ts=⟨[],[]⟩:=if_neg hE
  rw [hv]
  obtain ⟨er,her⟩:∃ er,qar s ts=er:=⟨_,rfl⟩
  rw [her] at hak hE ⊢
  have hE':(er == 0)=false:=beq_eq_false_iff_ne.2 hE
  clear her hv
  go_enter Tryz.func48,Tryz.ntmps48
  go_wp2_with fail
  refine (hak _ bel).mono ?_
  rintro e w1 ⟨_,h1⟩
  obtain ⟨rfl,hx1⟩:=h1 hE
  have hX1:Ext w w1:=bel
  clear h1 hx1
  go_wp2_with fail
  go_ret3
  exact ⟨.slice none 0 0,.slice none 0 0,rfl,qab.nil ..,qab.nil ..,hX1⟩
 have hv:covR s ts=qfy s ts:=if_pos hE
 have hok:=(qey hE).1
 have hn:∀ t∈ts,NTe t:=fun t h=>NTe.of_test ((qey hE).2.2 t h)
 rw [hv,hE]
 rw [hE] at hak
 clear hE hv
 have hnc:=fun W g (hg:qav (fun _=>True) W g s)=>qo1 (fun _=>True) s g W hg (by have:=hok.2.2.1;omega) (by have:=hok.2.2.2.1;omega)
 go_enter Tryz.func48,Tryz.ntmps48
 go_wp2_with fail
 refine (hak _ bel).mono ?_
 rintro e w1 ⟨h1,_⟩
 obtain ⟨g,rfl,hx1,hg,hS⟩:=h1 rfl
 have hX1:Ext w w1:=bel
 have HS:=Hd (hS.mono (S':=fun k=>k<w1.heap.size) fun k h _=>h)
 clear h1 hx1 hg hS hak
 go_wp2_with fail
 refine (hnc _ g (HS.out.mono fun _ _ _=>trivial)).mono ?_
 rintro e w2 ⟨v1,v2,rfl,hr1,hr2,hap,h2⟩
 obtain ⟨A1,k1,rfl,_,_⟩:=(hr1.sl qae.good (by decide)).val
 obtain ⟨A2,k2,rfl,_,_⟩:=(hr2.sl qae.good (by decide)).val
 have hR0:RCv w1.heap.size w2 (cv0 s) (.slice A1 (List.replicate s.ls.length false).length k1) (.slice A2 (List.replicate s.es.length false).length k2):=⟨hr1,hr2,hap⟩
 have hZ0:∀ q,ZCv (.slice A1 (List.replicate s.ls.length false).length k1) (.slice A2 (List.replicate s.es.length false).length k2) q->w1.heap.size<=q∧q<w2.heap.size:=fun q h=>by
  rcases h with h | h
  ·exact qft hr1 h
  ·exact qft hr2 h
 simp only [List.length_replicate] at hR0 hZ0 ⊢
 have HR0:=Hd hR0
 have HZ0:=Hd hZ0
 have HX1:=Hd hX1
 have HX2:=Hd h2
 have hsz2:=h2.size
 clear hr1 hr2 hap hR0 hZ0 h2 hnc
 have HT1:=Hd ((RSl.good RTe.good).mono HT.out (S':=fun k=>k<w1.heap.size) fun b hb _=>by have:=hX1.size;omega)
 go_wp2_with fail
 obtain ⟨Wb,hWb⟩:∃ Wb,w2.alloc (.cells #[.slice A1 s.ls.length k1,.slice A2 s.es.length k2] 145)=Wb:=⟨_,rfl⟩
 have hXb:Ext w2 Wb:=by rw [<- hWb];exact (Ext.refl _).alloc _
 have hb0:Wb.cell? ⟨w2.heap.size,0,none⟩=some (.slice A1 s.ls.length k1):=by subst hWb;go_simp
 have hb1:Wb.cell? ⟨w2.heap.size,1,none⟩=some (.slice A2 s.es.length k2):=by subst hWb;go_simp
 have hbs:w2.heap.size<Wb.heap.size:=by rw [<- hWb];simp
 rw [hWb]
 clear hWb
 go_loopw [25] (fun vi wr=>∃ k:Nat,k<=ts.length∧vi = .int .i64 k∧RCv w1.heap.size wr ((ts.take k).foldl (fun c t=>qd8 s t c) (cv0 s)) (.slice A1 s.ls.length k1) (.slice A2 s.es.length k2)∧wr.cell? ⟨w2.heap.size,0,none⟩=some (.slice A1 s.ls.length k1)∧wr.cell? ⟨w2.heap.size,1,none⟩=some (.slice A2 s.es.length k2)∧Hid (Ext w1 wr)∧w2.heap.size<wr.heap.size) (fun vi _=>ts.length-(intOf vi).toNat)
 case atStart=>exact ⟨0,Nat.zero_le _,rfl,HR0.out.ext hXb,hb0,hb1,HX2.out.trans' hXb,hbs⟩
 case round =>
  obtain ⟨k,hk,rfl,hrc,q0,q1,hE,hsz⟩:=hrel
  have HRC:=Hd hrc
  clear hrc
  by_cases hlt:k<ts.length
  ·obtain ⟨b,off,cs,rfl,hb,hS2,hl,hr,hcell⟩:=((RSl.good RTe.good).bel HT1.out (HX1.out.trans' hE.out)).get k hlt
   obtain ⟨v0,v1,rfl,ha0,ha1⟩:=id hr
   have a0:=hcell.get 0 _
   have a1:=hcell.get 1 _
   simp only [Nat.add_zero] at a0
   have hnt:=hn _ (List.getElem_mem hlt)
   have hfl:=qmr s (ts.take k) (cv0 s)
   have hcv:=fun X (hX:Ext wr X)=>qsf (fun k=>k<w1.heap.size) s hok g ts[k] ((ts.take k).foldl (fun c t=>qd8 s t c) (cv0 s)) w1.heap.size _ _ v0 v1 X (HS.out.bel (hE.out.trans' hX)) (HRC.out.ext hX) (fun _ h=>h) (qaa.good.bel ha0 hX) (qaa.good.bel ha1 hX) (by rw [hfl.1];simp [cv0]) (by rw [hfl.2];simp [cv0]) hnt.1 hnt.2
   obtain ⟨B0,d0,rfl,_,_⟩:=ha0.val
   obtain ⟨B1,d1,rfl,_,_⟩:=ha1.val
   clear ha0 ha1 hr hl hcell hS2 hfl
   go_wp2_with fail
   refine (hcv _ bel).mono ?_
   rintro e w5 ⟨rfl,hr5,hb5⟩
   have hx4:Ext wr (wr.alloc (.cells #[.slice B0 ts[k].tr.length d0,.slice B1 ts[k].mu.length d1] 40)):=(Ext.refl wr).alloc _
   have hne:¬ ZCv (.slice A1 s.ls.length k1) (.slice A2 s.es.length k2) w2.heap.size:=fun h=>by have:=HZ0.out _ h;omega
   have q0':=hb5.cell (Ext.keep hx4 q0) hne
   have q1':=hb5.cell (Ext.keep hx4 q1) hne
   have hX5:Ext w1 w5:=Bt.new (hE.out.trans' hx4) hb5 fun i _ h=>(HZ0.out i h).1
   have hz5:=hb5.size
   have HR5:=Hd hr5
   have HX5:=Hd hX5
   clear hr5 hb5 hX5 q0 q1 hcv
   go_wp2_with fail
   go_roundw
   case rel =>
    refine ⟨k+1,by omega,by go_num,?_,q0',q1',HX5.out,by simp at hz5;omega⟩
    rw [List.take_succ_eq_append_getElem hlt,List.foldl_append]
    exact HR5.out
   case measure=>simp [intOf];omega
  ·obtain rfl:k=ts.length:=by omega
   rw [List.take_length] at HRC
   go_wp2_with fail
   (refine qa1 ?_;(repeat (first | go_big_quiet_step ((fail)) | quiet_step ((fail))));refine wpQuiet_nil ?_)
   intro w5 hx5
   have hX5:Ext w w5:=HX1.out.trans' (hE.out.trans' hx5)
   go_wp2_with fail
   go_ret3
   refine ⟨.slice A1 s.ls.length k1,.slice A2 s.es.length k2,rfl,?_,?_,hX5⟩
   ·exact (HRC.out.l.ext qae.good hx5).base HX1.out.size
   ·exact (HRC.out.e.ext qae.good hx5).base HX1.out.size
end
end Go.Proofs.YtegenalcheooeaaGreat
