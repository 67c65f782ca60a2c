/- Of the proof of a law of the suites: RangeG, Walk. -/
import Derived.Test.YtegenalcheooeaaGreatB13
import Derived.Test.YtegenalcheooeaaGreatB14
set_option linter.unusedSectionVars false
set_option linter.unusedSimpArgs false
set_option linter.unusedVariables false
namespace Go.Proofs.YtegenalcheooeaaGreat
open Go.RowKit
attribute [local go_sem] cell?_exto
section
open Go.Shelf
def SeqG {α:Type} (n:Nat) (P:Program) (g:Nat) (lb:Array Value) (encs:α→Array Value) (K:World→World→Prop) (G:List α→α→World→Prop) (S Sp:List α→Prop) (w:World):Prop :=
 ∀ (l:Nat) (J Jx:List α→World→Prop) (W:World),Ext w W→(∀ pre A B,J pre A→Ext A B→J pre B)→(∀ pre A B,Jx pre A→Ext A B→Jx pre B) →
  (∀ pre x A,J pre A→G pre x A→YieldAt Fence.wide (n-1) P l (encs x) A fun e B =>
   (e = .returned (.bool true)∧J (pre++[x]) B∧K A B)∨(e = .returned (.bool false)∧Jx (pre++[x]) B)) →
  J [] W →
  CallsIn Fence.wide n P g (#[.func (.yield l) #[] #[]]++lb) W fun e B=>(∃ v,e = .returned v)∧((∃ ys,S ys∧J ys B)∨(∃ pre,Sp pre∧Jx pre B))
theorem qn9 {β:Type} {B:Nat} {I:β→World→Prop} (h:OwnFrom B I) {s:β} {X Y:World} (hs:I s X) (he:Ext X Y):I s Y:=h s X Y none hs (qty he) fun r e=>by cases e
set_option maxHeartbeats 1000000 in
set_option maxRecDepth 100000 in
theorem qon {α:Type} {n:Nat} {P:Program} {g:Operand} {ps:Array Tmp} {assign body:Code} {Q:Exit→Act→World→Prop} {a:Act} {w:World}
  {gf:Nat} {lb:Array Value} (h1:1≤n) (hg:a.eval g = .func (.func gf) #[] lb) (eg:∀ args w,(callFunc gf args).run P w = .ok (.enter gf args) w)
  {encs:α→Array Value} {K:World→World→Prop} {G:List α→α→World→Prop} {S Sp:List α→Prop} (hseq:SeqG (n-1) P gf lb encs K G S Sp w) (hps:∀ x,(encs x).size=ps.size)
  (hKt:∀ {A B C:World},K A B→K B C→K A C) (hKb:∀ (W:World) (l:Nat) (o o':Obj),w.heap.size≤l→W.heap[l]? = some o→o.isCells=false→K W (W.putObj l o'))
  (I:List α→World→Prop) (Ix:Code→List α→World→Prop) (hI:OwnFrom w.heap.size I) (hIx:∀ c,OwnFrom w.heap.size (Ix c)) (h0:I [] w) (Ax:List α→α→Act→World→Prop) (hAx:∀ pre x a',OwnFrom w.heap.size (fun (_:Unit) W=>Ax pre x a' W))
  (hassign:∀ (l:Nat) (pre:List α) (x:α) (W:World) (Kc:Act→World→Prop),I pre W→G pre x W→(∀ a' W',KeepsFrom w.heap.size W W'→K W W'→I pre W'→Ax pre x a' W'→Kc a' W') →
   assign.wpIn (Fence.wide.inRound l) (n-1-1) P (Exit.then Kc (fun _ _ _=>False)) { tmps:=(ps.zip (encs x)).foldl (fun t (p,v)=>t.setIfInBounds p v) a.tmps,defers:=[] } W)
  (hbody:∀ (l:Nat) (pre:List α) (x:α) (a':Act) (W:World),w.heap.size≤l→(∃ r,W.heap[l]? = some (.loop r))→I pre W→Ax pre x a' W→body.wpIn (Fence.wide.inRound l) (n-1-1) P (ownPostG w.heap.size K I Ix (pre++[x]) W) a' W)
  (hdone:∀ (D:Nat) (xs:List α) (W:World),w.heap.size≤D→S xs→I xs W→W.heap[D]? = some (.deferred (some []))→Q .normal { a with defers:={ target:=.collected D,args:=#[] } :: a.defers } W)
  (hstop:∀ (D:Nat) (c:Code) (pre:List α) (W:World),w.heap.size≤D→Sp pre→Ix c pre W→W.heap[D]? = some (.deferred (some []))→c.wpIn Fence.wide n P Q { a with defers:={ target:=.collected D,args:=#[] } :: a.defers } W) :
  (Code.rangeFunc g ps assign body).wpIn Fence.wide n P Q a w:=by
 refine wpIn_rangeFunc fun fn hfn=>?_
 rw [show Fence.wide.round=none from rfl]
 obtain ⟨D,hD⟩:∃ D,D=w.heap.size:=⟨_,rfl⟩
 obtain ⟨L,hL⟩:∃ L,L=D+1:=⟨_,rfl⟩
 obtain ⟨R,hR⟩:∃ R:LoopState→Option Code→Loop,R=fun st pe=>{ state:=st,pending:=pe,fn,tmps:=a.tmps,params:=ps,assign,body,defers:=D }:=⟨_,rfl⟩
 obtain ⟨V,hV⟩:∃ V,V=(w.alloc (.deferred (some []))).alloc (.loop (R .ready none)):=⟨_,rfl⟩
 have hext:Ext w V:=by rw [hV];exact ((Ext.refl w).alloc _).alloc _
 have hVL:V.heap[L]? = some (.loop (R .ready none)):=by
  have h:=World.alloc_heap_new (w.alloc (.deferred (some []))) (.loop (R .ready none))
  rw [World.size_alloc,← hD,← hL] at h
  rw [hV]
  exact h
 have hVD:V.heap[D]? = some (.deferred (some [])):=by
  rw [hV,hD]
  exact (Below.heap_alloc _ _ _ (by simp)).trans (World.alloc_heap_new w _)
 have both:∀ {X Y:World} {o1 o2:Obj},X.heap[L]? = some o1→X.heap[D]? = some o2→KeepsFrom w.heap.size X Y→o1.isCells=false→o2.isCells=false→Y.heap[L]? = some o1∧Y.heap[D]? = some o2 :=
  fun h2 h3 hk c1 c2=>⟨hk.same _ _ (by omega) h2 c1,hk.same _ _ (by omega) h3 c2⟩
 have turn:∀ {X:World} {o1 o2:Obj} (o3:Obj),X.heap[L]? = some o1→X.heap[D]? = some o2→(X.putObj L o3).heap[L]? = some o3∧(X.putObj L o3).heap[D]? = some o2 :=
  fun o3 h2 h3=>⟨World.putObj_heap_same (Array.getElem?_eq_some_iff.1 h2).1,(World.putObj_heap_other (by omega)).trans h3⟩
 have extk:∀ {X Y:World},Ext X Y→KeepsFrom w.heap.size X Y:=fun h=>qer h _
 refine ⟨L,[{ target:=.collected D,args:=#[] }],V,{ target:=.fn (.func gf) lb,args:=#[.func (.yield L) #[] #[]] },V,gf,#[.func (.yield L) #[] #[]]++lb,V,?_,?_,fun _ _=>trivial,?_,fun _=>h1,?_⟩
 ·have h:=run_enterLoop_outer (P:=P) (w:=w) fn a.tmps ps assign body
  rw [hL,hV,hR,hD]
  exact h
 ·simp only [resolve,hg]
  simp [go_sem]
 ·simp [invoke,go_sem,eg]
 have hcall:=hseq L (fun pre W=>I pre W∧W.heap[L]? = some (.loop (R .ready none))∧W.heap[D]? = some (.deferred (some [])))
  (fun pre W=>∃ c,Ix c pre W∧W.heap[L]? = some (.loop (R .done (some c)))∧W.heap[D]? = some (.deferred (some []))) V hext
  (fun pre A B h he=>⟨qn9 hI h.1 he,both h.2.1 h.2.2 (extk he) rfl rfl⟩)
  (fun pre A B h he=>by obtain ⟨c,h2,h3,h4⟩:=h;exact ⟨c,qn9 (hIx c) h2 he,both h3 h4 (extk he) rfl rfl⟩)
  (fun pre x A hJ hGx=>?_) ⟨qn9 hI h0 hext,hVL,hVD⟩
 ·-- behind the iterator
  refine hcall.mono ?_
  rintro e W ⟨⟨v,rfl⟩,⟨ys,hS,hi,h2,h3⟩ | ⟨pre,hSp,c,hi,h2,h3⟩⟩
  ·refine ⟨none,W.putObj L (.loop { R .ready none with state:=.exhausted }),?_,?_⟩
   ·have h:=run_endLoop (P:=P) h2 (by rw [hR];simp)
    rw [hR] at h ⊢
    exact h
   ·exact hdone D ys _ (by omega) hS (hI.putObj _ hi (by omega) h2 rfl) (turn _ h2 h3).2
  ·refine ⟨some c,W.putObj L (.loop { R .done (some c) with state:=.exhausted }),?_,?_⟩
   ·have h:=run_endLoop (P:=P) h2 (by rw [hR];simp)
    rw [hR] at h ⊢
    exact h
   ·exact hstop D c pre _ (by omega) hSp ((hIx c).putObj _ hi (by omega) h2 rfl) (turn _ h2 h3).2
 ·-- a round
  obtain ⟨hi,h2,h3⟩:=hJ
  have hy:=run_yield (P:=P) (args:=encs x) h2 (by rw [hR];exact hps x)
  rw [hR] at hy
  refine ⟨fn,_,assign,body,hy,roundIn_of_wpIn hfn (hassign L pre x A _ hi hGx fun a1 B hkf hkk hi1 hax=>?_)⟩
  clear hy
  obtain ⟨h4,h5⟩:=both h2 h3 hkf rfl rfl
  obtain ⟨C,hC⟩:∃ C,C=B.putObj L (.loop { R .ready none with state:=.busy }):=⟨_,rfl⟩
  have h67:=turn (.loop { R .ready none with state:=.busy }) h4 h5
  have hiC:=hI.putObj (.loop { R .ready none with state:=.busy }) hi1 (by omega) h4 rfl
  have haC:=(hAx pre x a1).putObj (s:=()) (.loop { R .ready none with state:=.busy }) hax (by omega) h4 rfl
  have hkC:=hKb B L _ (.loop { R .ready none with state:=.busy }) (by omega) h4 rfl
  rw [← hC] at h67 hiC haC hkC
  refine ⟨C,?_,wpIn_mono (hbody L pre x a1 C (by omega) ⟨_,h67.1⟩ hiC haC) ?_⟩
  ·have h:=run_beginRound (P:=P) h4 (by rw [hR])
   rw [hC]
   rw [hR] at h ⊢
   exact h
  have close:∀ (jump:Option Code) (E:World),KeepsFrom w.heap.size C E→∃ o,(Instr.endRound L jump).run P E = .ok (.bool jump.isNone) (E.putObj L (.loop (R (if jump.isNone then .ready else .done) jump)))∧E.heap[L]? = some o∧o.isCells=false ∧
    (E.putObj L (.loop (R (if jump.isNone then .ready else .done) jump))).heap[L]? = some (.loop (R (if jump.isNone then .ready else .done) jump))∧(E.putObj L (.loop (R (if jump.isNone then .ready else .done) jump))).heap[D]? = some (.deferred (some [])):=fun jump E hk=>by
   obtain ⟨h8,h9⟩:=both h67.1 h67.2 hk rfl rfl
   have h:=run_endRound (P:=P) jump h8
   refine ⟨_,?_,h8,rfl,turn _ h8 h9⟩
   rw [hR] at h ⊢
   exact h
  have leave:∀ (c:Code) (E:World),KeepsFrom w.heap.size C E→Ix c (pre++[x]) E→∃ r E',(Instr.endRound L (some c)).run P E = .ok r E'∧((Ending.returned r = .returned (.bool true)∧(I (pre++[x]) E'∧E'.heap[L]? = some (.loop (R .ready none))∧E'.heap[D]? = some (.deferred (some [])))∧K A E') ∨
    (Ending.returned r = .returned (.bool false)∧∃ c,Ix c (pre++[x]) E'∧E'.heap[L]? = some (.loop (R .done (some c)))∧E'.heap[D]? = some (.deferred (some [])))):=fun c E hk hx=>by
   obtain ⟨o,r1,r2,r3,r4⟩:=close (some c) E hk
   exact ⟨_,_,r1,.inr ⟨rfl,c,(hIx c).putObj _ hx (by omega) r2 r3,r4⟩⟩
  rintro e a3 E hp
  cases e with
  | normal =>
   obtain ⟨hk,hkk3,hi3⟩:=hp
   obtain ⟨o,r1,r2,r3,r4⟩:=close none E hk
   exact ⟨_,_,r1,.inl ⟨rfl,⟨hI.putObj _ hi3 (by omega) r2 r3,r4⟩,hKt hkk (hKt (hKt hkC hkk3) (hKb E L _ _ (by omega) r2 r3))⟩⟩
  | ret=>exact leave .ret E hp.1 hp.2
  | exit id=>exact leave (.exit id) E hp.1 hp.2
  | goto t=>exact leave (.goto t) E hp.1 hp.2
  | panic ch=>exact hp.elim
  | outgrown=>exact hp.elim
end
section
set_option maxHeartbeats 1000000
set_option maxRecDepth 100000
/- suite.walk and suite.after: walked. -/
open Go.Shelf
attribute [local go_sem] Oper.semAt_some
def qan (s:Sy) (tr:List Lb):List Int:=tr.foldl (fun l x=>qa7 s x l) (qap s [0])
theorem qi7 (s:Sy) (tr:List Lb) (x:Lb):qan s (tr++[x])=qa7 s x (qan s tr):=by simp [qan]
theorem qqi (s:Sy) (tr:List Lb) (k:Nat) (h:k<tr.length):qan s (tr.take (k+1))=qa7 s tr[k] (qan s (tr.take k)):=by rw [List.take_succ_eq_append_getElem h,qi7]
theorem qse (s:Sy):∀ (f i:Nat) (l:List Int),(qbc s f i l).length+qcn s (qbc s f i l)≤l.length+qcn s l
 | 0,_,_=>by rw [qbc];exact Nat.le_refl _
 | f+1,i,l=>by
  rw [qbc]
  split
  ·exact Nat.le_trans (qse s f (i+1) _) (qgb s _ l).1
  ·exact Nat.le_refl _
theorem qju (s:Sy) (l:List Int):(qap s l).length≤l.length+qcn s l:=by
 rw [qap,qlo]
 have:=qse s (l.length+s.es.length) 0 l
 omega
theorem qnz (s:Sy) (x:Lb) (l:List Int):(qa7 s x l).length≤s.es.length:=Nat.le_trans (qju s _) (qmd s x l)
theorem qlv (s:Sy) (tr:List Lb):(qan s tr).length≤s.es.length+1:=by
 rcases List.eq_nil_or_concat tr with rfl | ⟨tr',x,rfl⟩
 ·have h1:=qju s [0]
  have:=qf8 s [0]
  simp only [List.length_cons,List.length_nil] at h1
  show (qap s [0]).length≤_
  omega
 ·have:=qnz s x (qan s tr')
  rw [List.concat_eq_append,qi7]
  omega
def Kc (Zb:Nat→Prop) (n0:Nat) (A B:World):Prop:=A.heap.size≤B.heap.size∧∀ k o,A.heap[k]? = some o→¬ Zb k→(o.isCells=true∨k<n0)→B.heap[k]? = some o
theorem kc_t {Zb:Nat→Prop} {n0:Nat} {A B C:World} (h:Kc Zb n0 A B) (k:Kc Zb n0 B C):Kc Zb n0 A C:=⟨Nat.le_trans h.1 k.1,fun i o hi hz hc=>k.2 i o (h.2 i o hi hz hc) hz hc⟩
theorem kc_b {Zb:Nat→Prop} {n0:Nat} (W:World) (l:Nat) (o o':Obj) (hl:n0≤l) (h:W.heap[l]? = some o) (hc:o.isCells=false):Kc Zb n0 W (W.putObj l o') :=
 ⟨by simp,fun k u hk _ hc'=>(World.putObj_heap_other (fun e=>by
  subst e
  rw [h] at hk
  cases hk
  rcases hc' with hc' | hc'
  ·rw [hc] at hc';cases hc'
  ·omega)).trans hk⟩
theorem Kc.of_bt {Zb:Nat→Prop} {n0:Nat} {A B:World} (h:Bt Zb A B):Kc Zb n0 A B:=⟨h.size,fun k _ hk hz _=>(h.block k (Array.getElem?_eq_some_iff.1 hk).1 hz).trans hk⟩
theorem Kc.kp {Zb S:Nat→Prop} {n0:Nat} {A B:World} (h:Kc Zb n0 A B) (hS:∀ k,S k→k<n0∧¬ Zb k):Kp S A B :=
 ⟨h.1,fun k hk hs=>by
  obtain ⟨o,ho⟩:∃ o,A.heap[k]? = some o:=⟨_,Array.getElem?_eq_getElem hk⟩
  rw [ho]
  exact h.2 k o ho (hS k hs).2 (.inr (hS k hs).1)⟩
theorem Kc.rown {Zb:Nat→Prop} {n0:Nat} {A B:World} {xs:List Int} {v:Value} (h:Kc Zb n0 A B) (hZ:∀ k,Zb k→k<n0) (hr:qab qac 1 3 n0 (fun _=>False) A xs v):qab qac 1 3 n0 (fun _=>False) B xs v:=by
 obtain ⟨news,⟨h1,h2⟩,h3⟩:=hr
 refine ⟨news,⟨h1,h2.imp id ?_⟩,h3.imp fun x _ cs h=>h⟩
 rintro ⟨g,cap,cur,rfl,hg,hh,hrest⟩
 exact ⟨g,cap,cur,rfl,hg,h.2 g _ hh (fun hz=>by have:=hZ g hz;omega) (.inl rfl),hrest⟩
theorem qlc {base B:Nat} {xs:List Int} {v:Value} {β:Type}:OwnFrom B (fun (_:β) W=>qab qac 1 3 base (fun _=>False) W xs v):=by
 intro _ X Y r h hg hr
 obtain ⟨news,h2,h3⟩:=h
 refine ⟨news,⟨h2.1,h2.2.imp id ?_⟩,h3.imp fun _ _ _ hx=>hx⟩
 rintro ⟨gg,cap,cur,rfl,hgg,hh,hrest⟩
 refine ⟨gg,cap,cur,rfl,hgg,(hg.block gg (Array.getElem?_eq_some_iff.1 hh).1 fun e=>?_).trans hh,hrest⟩
 obtain ⟨_,o',h4,h5⟩:=hr gg e.symm
 rw [hh] at h4
 cases h4
 cases h5
theorem qjy {S:Nat→Prop} (w:World) (x:Int) (hx:I64 x) (hS:S w.heap.size):RSl qac 1 S (w.alloc (.cells #[.int .i64 x] 3)) [x] [.slice (some ⟨w.heap.size,0,none⟩) 1 1] :=
 ⟨_,1,rfl,by simp,by decide,.inr ⟨w.heap.size,0,rfl,by simp,hS,⟨[.int .i64 x],rfl,⟨rfl,hx⟩,fun i v h=>by have:=cell_one_new w (.int .i64 x) 3 i v h;rwa [Addr.add_lit] at this⟩,trivial⟩⟩
def qii (x:Nat×Value):Array Value:=#[.int .i64 (x.1:Int),x.2]
def walkG (s:Sy) (tr:List Lb) (n0:Nat) (pre:List (Nat×Value)) (x:Nat×Value) (A:World):Prop:=x.1=pre.length∧pre.length≤tr.length∧qab qac 1 3 n0 (fun _=>False) A (qan s (tr.take pre.length)) x.2
theorem walk1_in (n:Nat) (hn:1≤n) (Zb S:Nat→Prop) (n0:Nat) (s:Sy) (hok:qai s) (g:Nat) (tr:List Lb) (v:Value) (Bs Bt l:Nat) (hSZ:∀ k,S k→k<n0∧¬ Zb k) (hZb:∀ k,Zb k→k<n0) (J Jx:List (Nat×Value)→World→Prop) (W:World) (hn0:n0≤W.heap.size)
  (hJ:∀ pre A B,J pre A→Ext A B→J pre B)
  (hY:∀ pre x A,J pre A→walkG s tr n0 pre x A→YieldAt Fence.wide (n-1) Tryz.prog l (qii x) A fun e B =>
   (e = .returned (.bool true)∧J (pre++[x]) B∧Kc Zb n0 A B)∨(e = .returned (.bool false)∧Jx (pre++[x]) B))
  (hS:qau S W g s) (ht:qaa S W tr [v]) (hBs:S Bs) (hBt:S Bt) (hcs:W.cell? ⟨Bs,0,none⟩=some (.pointer (some ⟨g,0,none⟩))) (hct:W.cell? ⟨Bt,0,none⟩=some v) (htr:tr.length≤4611686018427387903) (h0:J [] W) :
  CallsIn Fence.wide n Tryz.prog 220 #[.func (.yield l) #[] #[],.pointer (some ⟨Bs,0,none⟩),.pointer (some ⟨Bt,0,none⟩)] W fun e W'=>(∃ v,e = .returned v) ∧
   ((∃ ys,ys.length=tr.length+1∧J ys W')∨(∃ pre,pre.length≤tr.length+1∧Jx pre W')):=by
 obtain ⟨At,ct,rfl,hct1,hct0⟩:=ht.val
 have hcalm:=fun W1 (hW:Ext W W1)=>qlg (fun _=>True) s hok g [0] _ _ ((hS.mono fun _ _ _=>trivial).bel (hW.trans' ((Ext.refl W1).alloc _))) (qjy W1 0 ⟨by decide,by decide⟩ trivial) (by decide)
 have HY:=Hd hY
 have HS:=Hd hS
 have HT:=Hd ht
 have HJ:=Hd hJ
 have HSZ:=Hd hSZ
 have HZB:=Hd hZb
 have H0:=Hd h0
 clear hY hS ht hJ hSZ hZb h0
 refine callsIn_of_wp Tryz.func220 rfl trivial ?_ rfl
 simp only [Tryz.ntmps220,List.size_toArray,List.length_cons,List.length_nil,Nat.reduceAdd,Nat.reduceSub,Array.replicate_succ,Array.replicate_zero,List.push_toArray,List.append_toArray,List.nil_append,List.cons_append]
 gi_wp2_with fail
 refine ⟨trivial,?_⟩
 gi_at_call 208
 refine (callsIn_wide.2 (hcalm W (Ext.refl _))).mono ?_
 rintro e w1 ⟨v1,rfl,ho1,hx1⟩
 have hX1:Ext W w1:=((Ext.refl W).alloc _).trans' hx1
 have hO1:=Hd (ho1.base (base':=n0) (by simp;omega))
 obtain ⟨A1,c1,rfl,hc1,hc10⟩:=(ho1.sl qac.good (by decide)).val
 have hJ1:=Hd (HJ.out _ _ _ H0.out hX1)
 clear ho1 hx1 hcalm
 gi_wp2_with fail
 gi_loopw [4,5] (fun vl i wr=>∃ (k:Nat) (A:Option Addr) (c:Nat) (pre:List (Nat×Value)),k≤tr.length∧i = .int .i64 k∧pre.length=k∧vl = .slice A (qan s (tr.take k)).length c∧qab qac 1 3 n0 (fun _=>False) wr (qan s (tr.take k)) (.slice A (qan s (tr.take k)).length c)∧J pre wr∧Kc Zb n0 W wr) (fun _ i _=>tr.length-(intOf i).toNat)
 case atStart=>exact ⟨0,A1,c1,[],Nat.zero_le _,rfl,rfl,rfl,hO1.out,hJ1.out,Kc.of_bt hX1.bt⟩
 case round =>
  obtain ⟨k,A,c,pre,hk,rfl,hpl,rfl,hown,hJs,hK⟩:=hrel
  obtain ⟨fn,tmps,assign,body,hy,hRd⟩:=HY.out pre (k,.slice A (qan s (tr.take k)).length c) wr hJs ⟨hpl.symm,by omega,by rw [hpl];exact hown⟩
  unfold qii at hy
  simp only at hy
  have HO:=Hd hown
  have HP:=Hd hpl
  clear hown hJs hpl
  gi_wp2
  refine hRd.mono ?_
  rintro e W3 (⟨rfl,hJ3,hk3⟩ | ⟨rfl,hJx3⟩)
  ·have hK3:=kc_t hK hk3
   have hkp:=hK3.kp HSZ.out
   have b1:W3.cell? ⟨Bs,0,none⟩=some (.pointer (some ⟨g,0,none⟩)):=(World.cell?_of_block (a:=⟨Bs,0,none⟩) (hkp.block Bs (World.block_lt_of_cell? W _ hcs) hBs)).trans hcs
   have b2:W3.cell? ⟨Bt,0,none⟩=some (.slice At tr.length ct):=(World.cell?_of_block (a:=⟨Bt,0,none⟩) (hkp.block Bt (World.block_lt_of_cell? W _ hct) hBt)).trans hct
   have HS3:=Hd (HS.out.move hkp)
   have HT3:=Hd (qaa.good.move HT.out hkp)
   have HO3:=Hd (hk3.rown HZB.out HO.out)
   have HJ3:=Hd hJ3
   have HK3:=Hd hK3
   clear hJ3 hK3 hkp hk3 hK
   by_cases hlt:k<tr.length
   ·obtain ⟨b,off,cs,hA,hb,hT,hl,hr,hcell⟩:=HT3.out.get k hlt
    obtain rfl:=hA
    obtain ⟨ig,vx,rfl,hvx⟩:=id hr
    have t0:=hcell.get 0 _
    have t1:=hcell.get 1 _
    simp only [Nat.add_zero] at t0
    have hbeh:=fun X (hX:Ext W3 X)=>(qpd (fun _=>True) s hok g (qan s (tr.take k)) tr[k] _ vx X ((HS3.out.mono fun _ _ _=>trivial).bel hX) ((RSl.good qac.good).bel ((RSl.good qac.good).mono (HO3.out.sl qac.good (by decide)) fun _ _ _=>trivial) hX) (RLb.good.bel (RLb.good.mono hr fun _ _ _=>trivial) hX) (by have:=qlv s (tr.take k);have:=hok.2.2.2.1;omega)).mono fun e w' h=>qfy.at h (b':=n0) (by have:=hX.size;have:=HK3.out.1;omega)
    have hst:=Hd (qqi s tr k hlt)
    clear hcell hl hr hvx hT
    gi_wp2_with fail
    refine wpIn_wide.2 ?_
    go_region_held3 (fun W=>W.cell? ⟨Bs,0,none⟩=some (.pointer (some ⟨g,0,none⟩))∧W.cell? ⟨Bt,0,none⟩=some (.slice (some ⟨b,off,none⟩) tr.length ct)∧W.cell? ⟨b,off+k*2,none⟩=some (.int .i64 tr[k].g)∧W.cell? ⟨b,off+k*2+1,none⟩=some vx)
     (first | (refine ⟨?_,?_,?_,?_⟩ <;> go_simp <;> done) | exact Ext.k4 hx1 (by assumption) | exact Ext.k4 (qaf.ext hx1) (by assumption) | exact Ext.k4 ((Ext.refl _).alloc _) (by assumption))
     (first | (go_at_call 221;refine (hbeh _ bel).mono ?_;rintro e w4 ⟨A4,c4,rfl,ho4,hx1⟩))
    gi_wp2_with fail
    go_roundw
    case rel =>
     refine ⟨k+1,A4,c4,pre++[(k,.slice A (qan s (tr.take k)).length c)],by omega,by go_num,by simp [HP.out],?_,?_,HJ.out _ _ _ HJ3.out bel,kc_t HK3.out (Kc.of_bt (Ext.bt bel))⟩
     ·rw [hst.out]
     ·rw [hst.out]
      exact ho4.ext qac.good bel
    case measure=>simp [intOf];omega
   ·have hke:Hid (k=tr.length):=by show _=_;omega
    gi_wp2
    go_end0
    exact ⟨⟨_,rfl⟩,.inl ⟨_,by simp [HP.out,hke.out],HJ3.out⟩⟩
  ·gi_wp2
   go_end0
   exact ⟨⟨_,rfl⟩,.inr ⟨_,by simp [HP.out];omega,hJx3⟩⟩
theorem qnt (n:Nat) (p:Option Addr) (A:Option Addr) (m c:Nat) (w:World) :
  CallsIn Fence.wide n Tryz.prog 150 #[.pointer p,.slice A m c] w fun e w'=>e = .returned (.func (.func 220) #[] #[.pointer (some ⟨w.heap.size,0,none⟩),.pointer (some ⟨w.heap.size+1,0,none⟩)]) ∧
   w'=(w.alloc (.cells #[.pointer p] 111)).alloc (.cells #[.slice A m c] 22):=by
 refine callsIn_wide.2 ?_
 go_enter Tryz.func150,Tryz.ntmps150
 go_wp2_with fail
 go_ret
 exact ⟨rfl,rfl⟩
theorem qmk (n:Nat) (hn:1≤n) (Zb S:Nat→Prop) (s:Sy) (hok:qai s) (g:Nat) (tr:List Lb) (v:Value) (Bs Bt:Nat) (w:World) (hSZ:∀ k,S k→k<w.heap.size∧¬ Zb k) (hZb:∀ k,Zb k→k<w.heap.size)
  (hS:qau S w g s) (ht:qaa S w tr [v]) (hBs:S Bs) (hBt:S Bt) (hcs:w.cell? ⟨Bs,0,none⟩=some (.pointer (some ⟨g,0,none⟩))) (hct:w.cell? ⟨Bt,0,none⟩=some v) (htr:tr.length≤4611686018427387903) :
  SeqG n Tryz.prog 220 #[.pointer (some ⟨Bs,0,none⟩),.pointer (some ⟨Bt,0,none⟩)] qii (Kc Zb w.heap.size) (walkG s tr w.heap.size) (fun ys=>ys.length=tr.length+1) (fun pre=>pre.length≤tr.length+1) w:=fun l J Jx W hW hJ hJx hY h0 =>
 walk1_in n hn Zb S w.heap.size s hok g tr v Bs Bt l hSZ hZb J Jx W hW.size hJ hY (hS.bel hW) (qaa.good.bel ht hW) hBs hBt (Ext.keep hW hcs) (Ext.keep hW hct) htr h0
end
end Go.Proofs.YtegenalcheooeaaGreat
