/- Of the proof of a law of the suites: LibITm, LibILbs, RFacts. -/
import Derived.Test.YtegenalcheooeaaGreatB01
import Derived.Test.YtegenalcheooeaaGreatB03
set_option linter.unusedSectionVars false
set_option linter.unusedSimpArgs false
set_option linter.unusedVariables false
namespace Go.Proofs.YtegenalcheooeaaGreat
open Go.RowKit
attribute [local go_sem] cell?_exto
section
set_option maxHeartbeats 1000000
set_option maxRecDepth 100000
/- slices.IndexFunc and ContainsFunc at each element type of the program: what they come to,whatever function value they are given. -/
theorem idxFTm {σ:Type} (J:σ->World->Prop) (step:σ->Tm->Bool×σ) (S:Nat->Prop) (w:World) (xs:List (Tm)) (v:Value) (hx:RSl RTm 3 S w xs [v]) (g:Nat) (lb:Array Value)
  (eg:∀ args w,(callFunc g args).run Tryz.prog w = .ok (.enter g args) w) (hJ:∀ s W,J s W->Kp S w W)
  (hp:∀ x∈xs,∀ s cs W,J s W->RTm S W x cs->Calls Tryz.prog g (#[.agg cs.toArray]++lb) W fun e w'=>e = .returned (.bool (step s x).1)∧J (step s x).2 w') (s0:σ) (h0:J s0 w) :
  Calls Tryz.prog 206 #[v,.func (.func g) #[] lb] w fun e w'=>e = .returned (.int .i64 (qaq step s0 xs).1)∧J (qaq step s0 xs).2 w':=by
 obtain ⟨A,c,rfl,hc,hc0⟩:=hx.val
 have HX:=Hd hx
 have HP:=Hd hp
 have HJ:=Hd hJ
 clear hx hp hJ
 go_enter Tryz.func206,Tryz.ntmps206
 go_wp2
 go_loopw [5,8] (fun _ i wr=>∃ k:Nat,k<=xs.length∧i = .int .i64 k∧Hid (∃ s,J s wr∧qaq step s0 xs=((qaq step s (xs.drop k)).1+(if (qaq step s (xs.drop k)).1<0 then 0 else (k:Int)),(qaq step s (xs.drop k)).2))) (fun _ i _=>xs.length-(intOf i).toNat)
 case atStart=>exact ⟨0,Nat.zero_le _,rfl,s0,h0,by simp⟩
 case round =>
  obtain ⟨k,hk,rfl,s,hs,hf⟩:=hrel
  by_cases hlt:k<xs.length
  ·obtain ⟨b,off,cs,rfl,hb,hS,hl,hr,hcell⟩:=((RSl.good RTm.good).move HX.out (HJ.out _ _ hs)).get k hlt
   have hcon:=HP.out xs[k] (List.getElem_mem hlt) s cs wr hs hr
   obtain ⟨c0,c1,c2,rfl⟩:∃ c0 c1 c2,cs=[c0,c1,c2]:=by
    match cs,hl with
    | [c0,c1,c2],_=>exact ⟨c0,c1,c2,rfl⟩
   have g0:=(by simpa using hcell.get 0 _:wr.cell? ⟨b,off+k*3,none⟩=some c0)
   have g1:=hcell.get 1 _
   have g2:=hcell.get 2 _
   rw [List.drop_eq_getElem_cons hlt,qaq] at hf
   clear hcell hl hS hr
   cases hq:(step s xs[k]).1 with
   | true =>
    rw [hq] at hcon hf
    have Hf:=Hd hf
    clear hf
    go_wp2_with fail
    refine hcon.mono ?_
    rintro e w' ⟨rfl,hs'⟩
    go_wp2_with fail
    go_ret
    rw [Hf.out]
    exact ⟨by simp,hs'⟩
   | false =>
    rw [hq] at hcon hf
    have Hf:=Hd hf
    clear hf
    go_wp2_with fail
    refine hcon.mono ?_
    rintro e w' ⟨rfl,hs'⟩
    go_wp2_with fail
    go_roundw
    case rel =>
     refine ⟨k+1,by omega,by go_num,_,hs',?_⟩
     rw [Hf.out]
     exact qhq _ _
    case measure=>simp [intOf];omega
  ·have hd:xs.drop k=[]:=List.drop_of_length_le (by omega)
   rw [hd,qaq] at hf
   have Hf:=Hd hf
   clear hf
   go_wp2
   go_ret
   rw [Hf.out]
   exact ⟨by simp,hs⟩
theorem conFTm {σ:Type} (J:σ->World->Prop) (step:σ->Tm->Bool×σ) (S:Nat->Prop) (w:World) (xs:List (Tm)) (v:Value) (hx:RSl RTm 3 S w xs [v]) (g:Nat) (lb:Array Value)
  (eg:∀ args w,(callFunc g args).run Tryz.prog w = .ok (.enter g args) w) (hJ:∀ s W,J s W->Kp S w W)
  (hp:∀ x∈xs,∀ s cs W,J s W->RTm S W x cs->Calls Tryz.prog g (#[.agg cs.toArray]++lb) W fun e w'=>e = .returned (.bool (step s x).1)∧J (step s x).2 w') (s0:σ) (h0:J s0 w) :
  Calls Tryz.prog 137 #[v,.func (.func g) #[] lb] w fun e w'=>e = .returned (.bool (qco step s0 xs).1)∧J (qco step s0 xs).2 w':=by
 obtain ⟨A,c,rfl,hc,hc0⟩:=hx.val
 have hcon:=idxFTm J step S w xs _ hx g lb eg hJ hp s0 h0
 rw [qha]
 clear hx hp hJ
 go_enter Tryz.func137,Tryz.ntmps137
 go_wp2_with fail
 refine hcon.mono ?_
 rintro e w' ⟨rfl,hs'⟩
 go_wp2_with fail
 all_goals go_ret
 all_goals exact ⟨by simp,hs'⟩
theorem conPTm (p:Tm->Bool) (S:Nat->Prop) (w:World) (xs:List (Tm)) (v:Value) (hx:RSl RTm 3 S w xs [v]) (g:Nat) (lb:Array Value)
  (eg:∀ args w,(callFunc g args).run Tryz.prog w = .ok (.enter g args) w)
  (hp:∀ x∈xs,∀ cs W,Ext w W->RTm S W x cs->Calls Tryz.prog g (#[.agg cs.toArray]++lb) W fun e w'=>e = .returned (.bool (p x))∧Ext W w') :
  Calls Tryz.prog 137 #[v,.func (.func g) #[] lb] w fun e w'=>e = .returned (.bool (xs.any p))∧Ext w w' :=
 (conFTm (fun (_:Unit) W=>Ext w W) (fun s x=>(p x,s)) S w xs v hx g lb eg (fun _ _ h=>Ext.kp h) (fun x hx s cs W hW hr=>(hp x hx cs W hW hr).mono fun e w' ⟨he,hb⟩=>⟨he,hW.trans' hb⟩) () (Ext.refl w)).mono
  fun e w' ⟨he,hb⟩=>⟨by rw [he,qh0],hb⟩
end
section
set_option maxHeartbeats 1000000
set_option maxRecDepth 100000
/- slices.IndexFunc and ContainsFunc at each element type of the program: what they come to,whatever function value they are given. -/
theorem idxFLbs {σ:Type} (J:σ->World->Prop) (step:σ->List Lb->Bool×σ) (S:Nat->Prop) (w:World) (xs:List (List Lb)) (v:Value) (hx:RSl qaa 1 S w xs [v]) (g:Nat) (lb:Array Value)
  (eg:∀ args w,(callFunc g args).run Tryz.prog w = .ok (.enter g args) w) (hJ:∀ s W,J s W->Kp S w W)
  (hp:∀ x∈xs,∀ s cs W,J s W->qaa S W x cs->Calls Tryz.prog g (#[cs.headD undef]++lb) W fun e w'=>e = .returned (.bool (step s x).1)∧J (step s x).2 w') (s0:σ) (h0:J s0 w) :
  Calls Tryz.prog 95 #[v,.func (.func g) #[] lb] w fun e w'=>e = .returned (.int .i64 (qaq step s0 xs).1)∧J (qaq step s0 xs).2 w':=by
 obtain ⟨A,c,rfl,hc,hc0⟩:=hx.val
 have HX:=Hd hx
 have HP:=Hd hp
 have HJ:=Hd hJ
 clear hx hp hJ
 go_enter Tryz.func95,Tryz.ntmps95
 go_wp2
 go_loopw [5,8] (fun _ i wr=>∃ k:Nat,k<=xs.length∧i = .int .i64 k∧Hid (∃ s,J s wr∧qaq step s0 xs=((qaq step s (xs.drop k)).1+(if (qaq step s (xs.drop k)).1<0 then 0 else (k:Int)),(qaq step s (xs.drop k)).2))) (fun _ i _=>xs.length-(intOf i).toNat)
 case atStart=>exact ⟨0,Nat.zero_le _,rfl,s0,h0,by simp⟩
 case round =>
  obtain ⟨k,hk,rfl,s,hs,hf⟩:=hrel
  by_cases hlt:k<xs.length
  ·obtain ⟨b,off,cs,rfl,hb,hS,hl,hr,hcell⟩:=((RSl.good qaa.good).move HX.out (HJ.out _ _ hs)).get k hlt
   have hcon:=HP.out xs[k] (List.getElem_mem hlt) s cs wr hs hr
   obtain ⟨c0,rfl⟩:∃ c0,cs=[c0]:=by
    match cs,hl with
    | [c0],_=>exact ⟨c0,rfl⟩
   have g0:=(by simpa using hcell.get 0 _:wr.cell? ⟨b,off+k,none⟩=some c0)
   rw [List.drop_eq_getElem_cons hlt,qaq] at hf
   clear hcell hl hS hr
   cases hq:(step s xs[k]).1 with
   | true =>
    rw [hq] at hcon hf
    have Hf:=Hd hf
    clear hf
    go_wp2_with fail
    refine hcon.mono ?_
    rintro e w' ⟨rfl,hs'⟩
    go_wp2_with fail
    go_ret
    rw [Hf.out]
    exact ⟨by simp,hs'⟩
   | false =>
    rw [hq] at hcon hf
    have Hf:=Hd hf
    clear hf
    go_wp2_with fail
    refine hcon.mono ?_
    rintro e w' ⟨rfl,hs'⟩
    go_wp2_with fail
    go_roundw
    case rel =>
     refine ⟨k+1,by omega,by go_num,_,hs',?_⟩
     rw [Hf.out]
     exact qhq _ _
    case measure=>simp [intOf];omega
  ·have hd:xs.drop k=[]:=List.drop_of_length_le (by omega)
   rw [hd,qaq] at hf
   have Hf:=Hd hf
   clear hf
   go_wp2
   go_ret
   rw [Hf.out]
   exact ⟨by simp,hs⟩
theorem conFLbs {σ:Type} (J:σ->World->Prop) (step:σ->List Lb->Bool×σ) (S:Nat->Prop) (w:World) (xs:List (List Lb)) (v:Value) (hx:RSl qaa 1 S w xs [v]) (g:Nat) (lb:Array Value)
  (eg:∀ args w,(callFunc g args).run Tryz.prog w = .ok (.enter g args) w) (hJ:∀ s W,J s W->Kp S w W)
  (hp:∀ x∈xs,∀ s cs W,J s W->qaa S W x cs->Calls Tryz.prog g (#[cs.headD undef]++lb) W fun e w'=>e = .returned (.bool (step s x).1)∧J (step s x).2 w') (s0:σ) (h0:J s0 w) :
  Calls Tryz.prog 25 #[v,.func (.func g) #[] lb] w fun e w'=>e = .returned (.bool (qco step s0 xs).1)∧J (qco step s0 xs).2 w':=by
 obtain ⟨A,c,rfl,hc,hc0⟩:=hx.val
 have hcon:=idxFLbs J step S w xs _ hx g lb eg hJ hp s0 h0
 rw [qha]
 clear hx hp hJ
 go_enter Tryz.func25,Tryz.ntmps25
 go_wp2_with fail
 refine hcon.mono ?_
 rintro e w' ⟨rfl,hs'⟩
 go_wp2_with fail
 all_goals go_ret
 all_goals exact ⟨by simp,hs'⟩
theorem conPLbs (p:List Lb->Bool) (S:Nat->Prop) (w:World) (xs:List (List Lb)) (v:Value) (hx:RSl qaa 1 S w xs [v]) (g:Nat) (lb:Array Value)
  (eg:∀ args w,(callFunc g args).run Tryz.prog w = .ok (.enter g args) w)
  (hp:∀ x∈xs,∀ cs W,Ext w W->qaa S W x cs->Calls Tryz.prog g (#[cs.headD undef]++lb) W fun e w'=>e = .returned (.bool (p x))∧Ext W w') :
  Calls Tryz.prog 25 #[v,.func (.func g) #[] lb] w fun e w'=>e = .returned (.bool (xs.any p))∧Ext w w' :=
 (conFLbs (fun (_:Unit) W=>Ext w W) (fun s x=>(p x,s)) S w xs v hx g lb eg (fun _ _ h=>Ext.kp h) (fun x hx s cs W hW hr=>(hp x hx cs W hW hr).mono fun e w' ⟨he,hb⟩=>⟨he,hW.trans' hb⟩) () (Ext.refl w)).mono
  fun e w' ⟨he,hb⟩=>⟨by rw [he,qh0],hb⟩
theorem idxPLbs (p:List Lb->Bool) (S:Nat->Prop) (w:World) (xs:List (List Lb)) (v:Value) (hx:RSl qaa 1 S w xs [v]) (g:Nat) (lb:Array Value)
  (eg:∀ args w,(callFunc g args).run Tryz.prog w = .ok (.enter g args) w)
  (hp:∀ x∈xs,∀ cs W,Ext w W->qaa S W x cs->Calls Tryz.prog g (#[cs.headD undef]++lb) W fun e w'=>e = .returned (.bool (p x))∧Ext W w') :
  Calls Tryz.prog 95 #[v,.func (.func g) #[] lb] w fun e w'=>e = .returned (.int .i64 (qbn p xs))∧Ext w w' :=
 (idxFLbs (fun (_:Unit) W=>Ext w W) (fun s x=>(p x,s)) S w xs v hx g lb eg (fun _ _ h=>Ext.kp h) (fun x hx s cs W hW hr=>(hp x hx cs W hW hr).mono fun e w' ⟨he,hb⟩=>⟨he,hW.trans' hb⟩) () (Ext.refl w)).mono
  fun e w' ⟨he,hb⟩=>⟨by rw [he,qh7],hb⟩
end
section

def qca:List Oper->Nat->(Nat->Value)->Act->Act
 | [],_,_,a=>a
 | o :: l,k,vs,a=>qca l (k+1) vs (a.put o.dst (vs k))
def qeg:List Oper->Nat->Tmp->Option Nat
 | [],_,_=>none
 | o :: l,k,t=>match qeg l (k+1) t with
  | some j=>some j
  | none=>if o.dst=some t then some k else none
theorem qkk (a:Act) (d:Option Tmp) (v:Value):(a.put d v).tmps.size=a.tmps.size:=by cases d <;> simp [Act.put]
theorem put_defers (a:Act) (d:Option Tmp) (v:Value):(a.put d v).defers=a.defers:=by cases d <;> rfl
theorem put_at (a:Act) (d:Option Tmp) (v:Value) (t:Nat) (ht:t<a.tmps.size):(a.put d v).tmps[t]? = if d=some t then some v else a.tmps[t]?:=by
 cases d with
 | none=>simp [Act.put]
 | some d =>
  by_cases e:d=t
  ·subst e;simp [Act.put,ht]
  ·simp [Act.put,Array.getElem?_setIfInBounds_ne e,e]
theorem qgz:∀ (l:List Oper) (k:Nat) (vs:Nat->Value) (a:Act),(qca l k vs a).tmps.size=a.tmps.size
 | [],_,_,_=>rfl
 | o :: l,k,vs,a=>by rw [qca,qgz l,qkk]
theorem qjp:∀ (l:List Oper) (k:Nat) (vs:Nat->Value) (a:Act),(qca l k vs a).defers=a.defers
 | [],_,_,_=>rfl
 | o :: l,k,vs,a=>by rw [qca,qjp l,put_defers]
theorem qho:∀ (l:List Oper) (k:Nat) (vs:Nat->Value) (a:Act) (t:Nat),t<a.tmps.size->(qca l k vs a).tmps[t]? = match qeg l k t with
  | some j=>some (vs j)
  | none=>a.tmps[t]?
 | [],_,_,_,_,_=>rfl
 | o :: l,k,vs,a,t,ht=>by
  rw [qca,qho l (k+1) vs _ t (by rw [qkk];exact ht),qeg]
  cases h:qeg l (k+1) t with
  | some j=>rfl
  | none =>
   simp only
   rw [put_at _ _ _ _ ht]
   by_cases e:o.dst=some t
   ·rw [if_pos e,if_pos e]
   ·rw [if_neg e,if_neg e]
theorem qk0:∀ (l:List Oper) (k t j:Nat),qeg l k t=some j->k<=j∧∃ o,l[j-k]? = some o∧o.dst=some t
 | [],_,_,_,h=>by cases h
 | o :: l,k,t,j,h=>by
  rw [qeg] at h
  cases h2:qeg l (k+1) t with
  | some i =>
   rw [h2] at h
   simp only [Option.some.injEq] at h
   subst h
   obtain ⟨h3,o',h4,h5⟩:=qk0 l (k+1) t i h2
   refine ⟨by omega,o',?_,h5⟩
   rw [show i-k=(i-(k+1))+1 from by omega]
   simpa using h4
  | none =>
   rw [h2] at h
   simp only at h
   split at h
   ·rename_i e
    injection h with h
    subst h
    exact ⟨Nat.le_refl _,o,by simp,e⟩
   ·cases h
theorem act_ext {a b:Act} (h:∀ t,t<a.tmps.size->a.tmps[t]? = b.tmps[t]?) (hs:a.tmps.size=b.tmps.size) (hd:a.defers=b.defers):a=b:=by
 obtain ⟨x,d⟩:=a
 obtain ⟨y,d'⟩:=b
 simp only at h hs hd
 subst hd
 congr 1
 apply Array.ext_getElem?
 intro t
 by_cases ht:t<x.size
 ·exact h t ht
 ·rw [Array.getElem?_eq_none (by omega),Array.getElem?_eq_none (by omega)]
def qid (o:Oper):List Nat:=(o.after.toList.filter (Region.binds .any)).map (·.on)
def qhb (l:List Oper) (n:Nat):Bool:=(List.range l.length).all fun i=>match l[i]? with
 | none=>true
 | some o=>(match o.dst with
  | none=>true
  | some d=>decide (d<n) && qeg l 0 d == some i) && (qid o).all fun j=>decide (j<i)
theorem qk9 {l:List Oper} {n:Nat} (h:qhb l n=true) {i:Nat} {o:Oper} (hi:l[i]? = some o):(∀ d,o.dst=some d->d<n∧qeg l 0 d=some i)∧∀ e∈o.after,Region.binds .any e=true->e.on<i:=by
 have hlt:=(List.getElem?_eq_some_iff.1 hi).1
 have h1:=List.all_eq_true.1 h i (List.mem_range.2 hlt)
 rw [hi] at h1
 simp only [Bool.and_eq_true] at h1
 refine ⟨fun d hd=>?_,fun e he hb=>?_⟩
 ·have h2:=h1.1
  rw [hd] at h2
  simpa using h2
 ·have h2:=List.all_eq_true.1 h1.2 e.on (List.mem_map.2 ⟨e,List.mem_filter.2 ⟨by simpa using he,hb⟩,rfl⟩)
  simpa using h2
theorem finA_put {l:List Oper} {a:Act} (hB:qhb l a.tmps.size=true) {i:Nat} {o:Oper} (hi:l[i]? = some o) (vs:Nat->Value) (v:Value):(qca l 0 vs a).put o.dst v=qca l 0 (fun j=>if j=i then v else vs j) a:=by
 have hs:=qk9 hB hi
 refine act_ext (fun t ht=>?_) (by rw [qkk,qgz,qgz]) (by rw [put_defers,qjp,qjp])
 rw [qkk,qgz] at ht
 rw [put_at _ _ _ _ (by rw [qgz];exact ht),qho _ _ _ _ _ ht,qho _ _ _ _ _ ht]
 by_cases e:o.dst=some t
 ·rw [if_pos e,(hs.1 t e).2]
  simp
 ·rw [if_neg e]
  cases hx:qeg l 0 t with
  | none=>rfl
  | some j =>
   obtain ⟨_,o',h4,h5⟩:=qk0 l 0 t j hx
   have hji:j≠i:=by
    rintro rfl
    rw [Nat.sub_zero,hi] at h4
    injection h4 with h4
    exact e (h4 ▸ h5)
   simp [hji]
theorem finA_self {l:List Oper} {a:Act} (hB:qhb l a.tmps.size=true):∃ vs,a=qca l 0 vs a:=by
 refine ⟨fun i=>match l[i]? with
  | some o=>(match o.dst with
   | some d=>a.tmps.getD d undef
   | none=>undef)
  | none=>undef,act_ext (fun t ht=>?_) (by rw [qgz]) (by rw [qjp])⟩
 rw [qho _ _ _ _ _ ht]
 cases hx:qeg l 0 t with
 | none=>rfl
 | some j =>
  obtain ⟨_,o',h4,h5⟩:=qk0 l 0 t j hx
  rw [Nat.sub_zero] at h4
  simp only [h4,h5]
  simp [ht]
def evF (l:List Oper) (a:Act) (vs:Nat->Value):Operand->Value
 | .tmp t=>match qeg l 0 t with
  | some j=>vs j
  | none=>a.tmps.getD t undef
 | x=>a.eval x
theorem finA_eval {l:List Oper} {a:Act} (hB:qhb l a.tmps.size=true) (vs:Nat->Value):(qca l 0 vs a).eval=evF l a vs:=by
 funext x
 cases x with
 | tmp t =>
  show (qca l 0 vs a).tmps.getD t undef=_
  rw [evF]
  by_cases ht:t<a.tmps.size
  ·have h:=qho l 0 vs a t ht
   simp only [Array.getD_eq_getD_getElem?,h]
   cases qeg l 0 t <;> rfl
  ·cases hx:qeg l 0 t with
   | none=>simp [qgz,ht]
   | some j =>
    obtain ⟨_,o',h4,h5⟩:=qk0 l 0 t j hx
    rw [Nat.sub_zero] at h4
    exact absurd ((qk9 hB h4).1 t h5).1 ht
 | _=>rfl
def vwp (P:Program) (o:Oper) (ev:Operand->Value) (w:World) (R:Value->World->Prop):Prop :=
 match (execOp ev o).run P w with
 | .ok (.value v) w'=>R v w'
 | .ok .skip w'=>R undef w'
 | .ok (.enter f args) w'=>Calls P f args w' fun e w''=>∃ v,e = .returned v∧R v w''
 | _=>False
theorem vwp_wp {P:Program} {o:Oper} {a:Act} {w:World} {R:Value->World->Prop} {K:Act->World->Prop} {Q:Exit->Act->World->Prop} (h:vwp P o a.eval w R) (hK:∀ v w',R v w'->K (a.put o.dst v) w'):o.wp P a w K Q:=by
 unfold vwp at h
 unfold Oper.wp
 generalize (execOp a.eval o).run P w=r at *
 cases r with
 | ok n w' =>
  cases n <;> simp only at h <;> simp only [Oper.upon]
  case value u=>exact hK _ _ h
  case skip=>exact hK _ _ h
  case enter f args =>
   refine h.mono ?_
   rintro e w'' ⟨v,rfl,hv⟩
   exact hK _ _ hv
 | halt x w'=>simp only at h
def asB:Value->Option Bool
 | .bool b=>some b
 | _=>none
theorem qso {l:List Oper} {a:Act} (hB:qhb l a.tmps.size=true) (vs:Nat->Value) {g:Nat} {o:Oper} {d:Tmp} (hg:l[g]? = some o) (hd:o.dst=some d):yielded l.toArray (qca l 0 vs a).tmps g=asB (vs g):=by
 have h:=(qk9 hB hg).1 d hd
 have h2:=qho l 0 vs a d h.1
 rw [h.2] at h2
 unfold yielded
 simp only [List.getElem?_toArray,hg,Option.bind_some,hd,h2]
 cases vs g <;> rfl
def qfb (Fs:List (Value->World->Prop)) (i:Nat) (v:Value) (w:World):Prop:=match Fs[i]? with
 | some f=>f v w
 | none=>True
def StepOK (P:Program) (l:List Oper) (a:Act) (w0:World) (Fs:List (Value->World->Prop)) (i:Nat) (o:Oper):Prop:=∀ (vs:Nat->Value) (w:World),Ext w0 w->(∀ j∈qid o,qfb Fs j (vs j) w) ->
 match o.guard with
 | none=>vwp P o (evF l a vs) w fun v w'=>Ext w w'∧qfb Fs i v w'
 | some (g,want)=>(∃ o' d,l[g]? = some o'∧o'.dst=some d)∧(asB (vs g)=some want->vwp P o (evF l a vs) w fun v w'=>Ext w w'∧qfb Fs i v w')∧(asB (vs g)≠some want->qfb Fs i undef w)
def qhw (P:Program) (l:List Oper) (a:Act) (w0:World) (Fs:List (Value->World->Prop)):List Oper->Nat->Prop
 | [],_=>True
 | o :: r,k=>StepOK P l a w0 Fs k o∧qhw P l a w0 Fs r (k+1)
theorem qhw.get {P:Program} {l:List Oper} {a:Act} {w0:World} {Fs:List (Value->World->Prop)}:∀ {r:List Oper} {k i:Nat} {o:Oper},qhw P l a w0 Fs r k->r[i]? = some o->StepOK P l a w0 Fs (k+i) o
 | o :: r,k,0,o',h,hi=>by
  simp at hi
  subst hi
  exact h.1
 | o :: r,k,i+1,o',h,hi=>by
  have:=qhw.get h.2 (i:=i) (by simpa using hi)
  rwa [show k+1+i=k+(i+1) from by omega] at this
 | [],_,_,_,_,hi=>by simp at hi
theorem qoa:∀ (L:List Bool) (i:Nat),L[i]? = some false->(L.set i true).count false+1=L.count false
 | b :: L,0,h=>by
  simp at h
  subst h
  simp
 | b :: L,i+1,h=>by
  have:=qoa L i (by simpa using h)
  rw [List.set_cons_succ,List.count_cons,List.count_cons]
  omega
 | [],_,h=>by simp at h
theorem qui {L:List Bool} (h:L.count false=0):∀ i,i<L.length->L[i]? = some true:=fun i hi=>by
 rw [List.getElem?_eq_getElem hi]
 have:L[i]≠false:=fun e=>by
  have:=List.count_eq_zero.1 h
  exact this (e ▸ List.getElem_mem hi)
 simpa using this
theorem qp4 {P:Program} {l:List Oper} {Q:Exit->Act->World->Prop} {a0:Act} {w0:World} (Fs:List (Value->World->Prop)) (hB:qhb l a0.tmps.size=true) (hF:∀ f∈Fs,∀ v A B,f v A->Ext A B->f v B)
  (hst:qhw P l a0 w0 Fs l 0) (hend:∀ vs w,Ext w0 w->(∀ i,i<l.length->qfb Fs i (vs i) w)->Q .normal (qca l 0 vs a0) w):∀ (fuel:Nat) (listed:Array Bool) (vs:Nat->Value) (w:World),listed.size=l.length->listed.toList.count false<=fuel ->
  Ext w0 w->(∀ i,listed.getD i false=true->qfb Fs i (vs i) w)->wpAny P .any l.toArray Q fuel listed (qca l 0 vs a0) w
 | 0,listed,vs,w,hs,hc,hx,hf=>by
  have hall:=qui (Nat.le_zero.1 hc)
  have hg:∀ i,i<l.length->listed.getD i false=true:=fun i hi=>by
   have:=hall i (by simpa [hs] using hi)
   rw [Array.getElem?_toList] at this
   simp [this]
  refine ⟨?_,hend vs w hx fun i hi=>hf i (hg i hi)⟩
  apply List.eq_nil_iff_forall_not_mem.2
  intro i hi
  obtain ⟨h1,o,h2,_⟩:=mem_ready.1 hi
  have hlt:i<l.length:=by simpa using (Array.getElem?_eq_some_iff.1 h2).1
  have h3:=hg i hlt
  have hi':i<listed.size:=by omega
  simp [hi'] at h1 h3
  rw [h1] at h3
  cases h3
 | fuel+1,listed,vs,w,hs,hc,hx,hf=>by
  refine ⟨fun hr=>?_,fun i hi=>?_⟩
  ·-- nothing may come up: all have come up
   have hg:∀ i,i<l.length->listed.getD i false=true:=fun i=>by
    induction i using Nat.strongRecOn with
    | _ i ih =>
    intro hi
    apply Classical.byContradiction
    intro hn
    have hi':i<listed.size:=by omega
    have hmem:i∈Region.ready .any l.toArray listed:=by
     refine mem_ready.2 ⟨?_,l[i],by simp [hi],fun e he hb=>?_⟩
     ·simp [hi'] at hn ⊢
      exact hn
     ·have hlt:=(qk9 hB (List.getElem?_eq_getElem hi)).2 e he hb
      exact ih e.on hlt (by omega)
    rw [hr] at hmem
    cases hmem
   exact hend vs w hx fun i hi=>hf i (hg i hi)
  ·obtain ⟨h1,o,h2,h3⟩:=mem_ready.1 hi
   have hlo:l[i]? = some o:=by simpa using h2
   have hlt:i<l.length:=(List.getElem?_eq_some_iff.1 hlo).1
   have hi':i<listed.size:=by omega
   have hLi:listed.toList[i]? = some false:=by
    rw [Array.getElem?_toList]
    simp [hi'] at h1 ⊢
    exact h1
   have hstep:=hst.get hlo vs w hx fun j hj=>by
    obtain ⟨e,he,rfl⟩:=List.mem_map.1 hj
    obtain ⟨he,hb⟩:=List.mem_filter.1 he
    exact hf _ (h3 e (by simpa using he) hb)
   rw [Nat.zero_add] at hstep
   have hgo:∀ v w',Ext w w'->qfb Fs i v w'->wpAny P .any l.toArray Q fuel (listed.setIfInBounds i true) ((qca l 0 vs a0).put o.dst v) w':=fun v w' hx' hv=>by
    rw [finA_put hB hlo]
    refine qp4 Fs hB hF hst hend fuel _ _ w' (by simpa using hs) ?_ (hx.trans' hx') fun j hj=>?_
    ·have:=qoa listed.toList i hLi
     rw [Array.toList_setIfInBounds]
     omega
    ·by_cases e:j=i
     ·subst e
      simpa using hv
     ·simp only [if_neg e]
      rw [getD_set_ne false (Ne.symm e)] at hj
      have h5:=hf j hj
      unfold qfb at h5 ⊢
      cases hq:Fs[j]? with
      | none=>trivial
      | some f =>
       rw [hq] at h5
       exact hF f (List.mem_of_getElem? hq) _ _ _ h5 hx'
   unfold wpOp
   rw [h2]
   simp only
   rw [finA_eval hB vs |>.symm] at hstep
   cases hgd:o.guard with
   | none =>
    rw [hgd] at hstep
    have hw:Region.wanted o (yielded l.toArray (qca l 0 vs a0).tmps)=true:=by simp [Region.wanted,hgd]
    rw [if_pos hw]
    exact .inl (vwp_wp hstep fun v w' (h:Ext w w'∧qfb Fs i v w')=>hgo v w' h.1 h.2)
   | some gw =>
    obtain ⟨g,want⟩:=gw
    rw [hgd] at hstep
    obtain ⟨⟨o',d,hg1,hg2⟩,hs1,hs2⟩:=hstep
    have hy:=qso hB vs hg1 hg2
    by_cases hv:asB (vs g)=some want
    ·have hw:Region.wanted o (yielded l.toArray (qca l 0 vs a0).tmps)=true:=by simp [Region.wanted,hgd,hy,hv]
     rw [if_pos hw]
     exact .inl (vwp_wp (hs1 hv) fun v w' (h:Ext w w'∧qfb Fs i v w')=>hgo v w' h.1 h.2)
    ·have hw:¬ Region.wanted o (yielded l.toArray (qca l 0 vs a0).tmps)=true:=by simp [Region.wanted,hgd,hy,hv]
     rw [if_neg hw]
     exact hgo undef w (Ext.refl w) (hs2 hv)
theorem qhz {P:Program} {id:Nat} {l:List Oper} {Q:Exit->Act->World->Prop} {a:Act} {w:World} (Fs:List (Value->World->Prop)) (hm:P.follows .mixedOrders=true) (hB:qhb l a.tmps.size=true) (hF:∀ f∈Fs,∀ v A B,f v A->Ext A B->f v B)
  (hst:qhw P l a w.drew Fs l 0) (hend:∀ vs w',Ext w w'->(∀ i,i<l.length->qfb Fs i (vs i) w')->Q .normal (qca l 0 vs a) w'):(Code.region id l.toArray true).wp P Q a w:=by
 refine wp_region_any hm ?_
 obtain ⟨vs,hvs⟩:=finA_self hB
 have h:=qp4 (Q:=Q) Fs hB hF hst (fun vs w' hx hf=>hend vs w' (Ext.trans' (Ext.refl w).drew hx) hf) l.length (Array.replicate l.length false) vs w.drew (by simp) (by simp) (Ext.refl _) (fun i hi=>by
  exfalso
  by_cases h:i<l.length
  ·simp [h] at hi
  ·simp [h] at hi)
 rw [<- hvs] at h
 simpa using h
end
end Go.Proofs.YtegenalcheooeaaGreat
