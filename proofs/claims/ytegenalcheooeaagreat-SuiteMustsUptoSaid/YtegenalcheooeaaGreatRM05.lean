/- Of the proof of a law of the suites: PMust. -/
import Derived.Test.YtegenalcheooeaaGreatB23
import Derived.Test.YtegenalcheooeaaGreatB29
import Derived.Test.YtegenalcheooeaaGreatB32
set_option linter.unusedSectionVars false
set_option linter.unusedSimpArgs false
set_option linter.unusedVariables false
namespace Go.Proofs.YtegenalcheooeaaGreat
open Go.RowKit
attribute [local go_sem] cell?_exto
section

def Inc (l:List Lb):Prop:=l.Pairwise fun a b=>qao a b<0
theorem Inc.of_get {l:List Lb} (h:∀ i,(hi:i+1<l.length)→qao l[i] l[i+1]<0):Inc l:=by
 induction l with
 | nil=>exact List.Pairwise.nil
 | cons a r ih =>
  have hr:Inc r:=ih fun i hi=>h (i+1) (by simpa using hi)
  refine List.pairwise_cons.2 ⟨fun b hb=>?_,hr⟩
  cases r with
  | nil=>simp at hb
  | cons c r =>
   have h0:qao a c<0:=h 0 (by simp)
   rcases List.mem_cons.1 hb with rfl | hb
   ·exact h0
   ·exact qcv.trans _ _ _ h0 ((List.pairwise_cons.1 hr).1 b hb)
theorem Inc.get {l:List Lb} (h:Inc l) {i j:Nat} (hij:i<j) (hj:j<l.length):qao (l[i]'(by omega)) l[j]<0:=List.pairwise_iff_getElem.1 h i j (by omega) hj hij
theorem qhg (x:Lb):¬ qao x x<0:=by have:=qcv.refl x;omega
theorem Inc.nodup {l:List Lb} (h:Inc l):l.Nodup:=List.Pairwise.imp (fun {a b} h e=>by subst e;exact qhg _ h) h
theorem qkn (p:Nat→Bool) (n:Nat) (hm:∀ a b,a≤b→p b=true→p a=true):∀ (f i j:Nat),i≤j→j-i≤f→(∀ k,k<i→p k=true)→(∀ k,j≤k→p k=false)→(∀ k,k<bsI p f i j→p k=true)∧∀ k,bsI p f i j≤k→p k=false
 | 0,i,j,hij,hf,h1,h2=>by
  rw [bsI]
  exact ⟨h1,fun k hk=>h2 k (by omega)⟩
 | f+1,i,j,hij,hf,h1,h2=>by
  rw [bsI]
  split
  ·split
   ·rename_i hp
    exact qkn p n hm f _ j (by omega) (by omega) (fun k hk=>hm k _ (by omega) hp) h2
   ·rename_i hp
    refine qkn p n hm f i _ (by omega) (by omega) h1 fun k hk=>?_
    cases hpk:p k
    ·rfl
    ·exact absurd (hm _ k hk hpk) hp
  ·exact ⟨h1,fun k hk=>h2 k (by omega)⟩
theorem bsP_mono {l:List Lb} (h:Inc l) (x:Lb) (a b:Nat) (hab:a≤b) (hb:bsP l x b=true):bsP l x a=true:=by
 by_cases hl:b<l.length
 ·rw [qgt hl,decide_eq_true_eq] at hb
  rw [qgt (by omega),decide_eq_true_eq]
  by_cases e:a=b
  ·subst e;exact hb
  ·exact qcv.trans _ _ _ (h.get (by omega) hl) hb
 ·simp [bsP,List.getElem?_eq_none (Nat.le_of_not_lt hl)] at hb
theorem qqq {l:List Lb} (h:Inc l) (x:Lb):(∀ k,k<qch l x→bsP l x k=true)∧∀ k,qch l x≤k→bsP l x k=false :=
 qkn _ 0 (bsP_mono h x) l.length 0 l.length (Nat.zero_le _) (by omega) (fun k hk=>absurd hk (by omega)) fun k hk=>by simp [bsP,List.getElem?_eq_none hk]
theorem qqy {l:List Lb} (h:Inc l) (x:Lb):qc4 x l=true↔x∈l:=by
 have hs:=qqq h x
 constructor
 ·intro hi
  by_cases hb:qch l x<l.length
  ·rw [qc4,qn8 hb,decide_eq_true_eq] at hi
   rw [← qcv.eq _ _ hi]
   exact List.getElem_mem hb
  ·rw [qc4,qm7 hb] at hi
   cases hi
 ·intro hx
  obtain ⟨i,hi,rfl⟩:=List.mem_iff_getElem.1 hx
  have e:qch l l[i]=i:=by
   refine Nat.le_antisymm (Nat.le_of_not_lt fun hlt=>?_) (Nat.le_of_not_lt fun hlt=>?_)
   ·have:=hs.1 i hlt
    rw [qgt hi,decide_eq_true_eq] at this
    exact qhg _ this
   ·have:=hs.2 _ (Nat.le_refl _)
    rw [qgt (by omega),decide_eq_false_iff_not] at this
    exact this (h.get hlt hi)
  rw [qc4,e,qn8 hi,decide_eq_true_eq]
  exact qcv.refl _
theorem Inc.sub {l m:List Lb} (h:Inc l) (hs:m.Sublist l):Inc m:=List.Pairwise.sublist hs h
theorem Inc.sublist:∀ {b a:List Lb},Inc a→Inc b→(∀ x∈a,x∈b)→a.Sublist b
 | [],a,_,_,h=>by
  cases a with
  | nil=>exact List.Sublist.refl _
  | cons x a=>exact absurd (h x (by simp)) (by simp)
 | y :: b,[],_,_,_=>List.nil_sublist _
 | y :: b,x :: a,ha,hb,h=>by
  have ha':=List.pairwise_cons.1 ha
  have hb':=List.pairwise_cons.1 hb
  by_cases e:x=y
  ·subst e
   refine List.Sublist.cons_cons _ (Inc.sublist ha'.2 hb'.2 fun z hz=>?_)
   rcases List.mem_cons.1 (h z (List.mem_cons_of_mem _ hz)) with rfl | hz'
   ·exact absurd (ha'.1 _ hz) (qhg _)
   ·exact hz'
  ·refine List.Sublist.cons _ (Inc.sublist ha hb'.2 fun z hz=>?_)
   rcases List.mem_cons.1 (h z hz) with rfl | hz'
   ·exfalso
    have hx:x∈b:=by
     rcases List.mem_cons.1 (h x (by simp)) with hx | hx
     ·exact absurd hx e
     ·exact hx
    rcases List.mem_cons.1 hz with hz | hz
    ·exact e hz.symm
    ·exact qhg _ (qcv.trans _ _ _ (ha'.1 _ hz) (hb'.1 _ hx))
   ·exact hz'
theorem subB_iff {a b:List Lb} (hb:Inc b):subB a b=true↔∀ x∈a,x∈b:=by
 unfold subB
 rw [Bool.not_eq_true',List.any_eq_false]
 refine forall_congr' fun x=>forall_congr' fun _=>?_
 rw [← qqy hb x]
 cases qc4 x b <;> simp
theorem qit {a b:List Lb} (hb:Inc b):qd3 a b=true↔∃ x∈a,x∈b:=by
 unfold qd3
 rw [List.any_eq_true]
 exact exists_congr fun x=>and_congr_right fun _=>qqy hb x
theorem qjl (l:List Lb) (x y:Lb):y∈qci l x↔y∈l∨y=x:=by
 refine ⟨qtf l x y,fun h=>?_⟩
 rw [qci]
 rcases h with h | rfl
 ·rw [← List.take_append_drop (qch l x) l] at h
  rcases List.mem_append.1 h with h | h
  ·simp [h]
  ·simp [h]
 ·simp
theorem qo9 {l:List Lb} (h:Inc l) (x:Lb) (hx:x∉l):Inc (qci l x):=by
 have hs:=qqq h x
 have hlt:∀ y∈l.take (qch l x),qao y x<0:=fun y hy=>by
  obtain ⟨i,hi,rfl⟩:=List.mem_iff_getElem.1 hy
  rw [List.length_take] at hi
  have:=hs.1 i (by omega)
  rw [qgt (by omega),decide_eq_true_eq] at this
  rw [List.getElem_take]
  exact this
 have hgt:∀ y∈l.drop (qch l x),qao x y<0:=fun y hy=>by
  have hyl:=List.mem_of_mem_drop hy
  obtain ⟨i,hi,rfl⟩:=List.mem_iff_getElem.1 hy
  rw [List.length_drop] at hi
  have:=hs.2 (qch l x+i) (by omega)
  rw [qgt (by omega),decide_eq_false_iff_not] at this
  rw [List.getElem_drop] at hyl ⊢
  have h2:=(qcv.sgn x (l[qch l x+i]'(by omega)))
  have h3:qao (l[qch l x+i]'(by omega)) x≠0:=fun e=>hx (qcv.eq _ _ e ▸ hyl)
  omega
 refine List.pairwise_append.2 ⟨List.pairwise_append.2 ⟨h.sub (List.take_sublist _ _),List.pairwise_singleton _ _,fun a ha b hb=>?_⟩,h.sub (List.drop_sublist _ _),fun a ha b hb=>?_⟩
 ·rw [List.mem_singleton.1 hb]
  exact hlt a ha
 ·rcases List.mem_append.1 ha with ha | ha
  ·exact qcv.trans _ _ _ (hlt a ha) (hgt b hb)
  ·rw [List.mem_singleton.1 ha]
   exact hgt b hb
section
variable {α:Type} {cf:α→α→Int} {eq:α→α→Bool}
theorem qpe (he:∀ x y,eq x y=true↔x=y):∀ (ys:List α) (p x:α),(x=p∨x∈qdo eq p ys)↔x∈p :: ys
 | [],p,x=>by simp [qdo]
 | y :: ys,p,x=>by
  have ih:=qpe he ys y x
  rw [qdo]
  by_cases h:eq y p=true
  ·have e:=(he y p).1 h
   subst e
   rw [if_pos h,ih]
   simp
  ·rw [if_neg h,List.mem_cons,ih,List.mem_cons,List.mem_cons,List.mem_cons]
theorem qsr (he:∀ x y,eq x y=true↔x=y) (l:List α) (x:α):x∈qbv eq l↔x∈l:=by
 cases l with
 | nil=>rw [qbv]
 | cons p ys=>rw [qbv,List.mem_cons,qpe he]
theorem qq6 (h:qc6 cf) (he:∀ x y,eq x y=true↔x=y):∀ (ys:List α) (p:α),Srt cf (p :: ys)→(p :: qdo eq p ys).Pairwise fun a b=>cf a b<0
 | [],p,_=>by rw [qdo];exact List.pairwise_singleton _ _
 | y :: ys,p,hs=>by
  have hs':=List.pairwise_cons.1 hs
  have ih:=qq6 h he ys y hs'.2
  rw [qdo]
  by_cases e:eq y p=true
  ·rw [if_pos e]
   have e':=(he y p).1 e
   subst e'
   exact ih
  ·rw [if_neg e]
   have hpy:cf p y<0:=by
    have h1:=hs'.1 y (by simp)
    have h2:cf p y≠0:=fun h0=>e ((he y p).2 (h.eq p y h0).symm)
    omega
   refine List.pairwise_cons.2 ⟨fun z hz=>?_,ih⟩
   rcases List.mem_cons.1 hz with rfl | hz
   ·exact hpy
   ·exact h.trans _ _ _ hpy ((List.pairwise_cons.1 ih).1 z hz)
theorem qkc (h:qc6 cf) (he:∀ x y,eq x y=true↔x=y) (l:List α) (hs:Srt cf l):(qbv eq l).Pairwise fun a b=>cf a b<0:=by
 cases l with
 | nil=>exact List.Pairwise.nil
 | cons p ys=>exact qq6 h he ys p hs
end
theorem qkt (x y:List Lb):qcd x y=true↔x=y:=by unfold qcd;rw [decide_eq_true_eq];exact qej.iff x y
theorem qih (l:List (List Lb)) (x:List Lb):x∈qb4 (qbw l)↔x∈l:=(qsr qkt _ x).trans (qg8 l x)
structure MOK (pre:List Lb→Prop) (ls:List (List Lb)):Prop where
 inc:∀ m∈ls,Inc m
 hit:∀ m∈ls,∀ a,pre a→∃ x∈m,x∈a
 cov:∀ S:Lb→Prop,(∀ a,pre a→∃ x∈a,S x)→∃ m∈ls,∀ x∈m,S x
 anti:∀ a∈ls,∀ b∈ls,(∀ x∈a,x∈b)→a=b
 nodup:ls.Nodup
 own:∀ m∈ls,∀ x∈m,∃ a,pre a∧x∈a
theorem qna {a b:List Lb} (ha:Inc a):qff a b=true↔b.length<a.length∧∀ x∈b,x∈a:=by
 rw [qff,Bool.and_eq_true,decide_eq_true_eq,subB_iff ha]
theorem MOK.congr {p q:List Lb→Prop} {ls:List (List Lb)} (h:MOK p ls) (e:∀ a,p a↔q a):MOK q ls:=by
 have:p=q:=funext fun a=>propext (e a)
 exact this ▸ h
theorem qpu {s:Sy} (h:qai s):Inc s.ls:=Inc.of_get fun i hi=>by
 have:=(h.2.2.2.2.1 (i+1) hi).2 (by omega)
 simpa using this
theorem qmp (p:Int→Bool):∀ (i:Nat) (xs:List Lb),(qbh p i xs).Sublist xs
 | _,[]=>List.Sublist.refl _
 | i,x :: xs=>by
  rw [qbh]
  split
  ·exact (qmp p (i+1) xs).cons_cons x
  ·exact (qmp p (i+1) xs).cons x
theorem qtg (p:Int→Bool) (x:Lb):∀ (i:Nat) (xs:List Lb),x∈qbh p i xs↔∃ k,∃ h:k<xs.length,xs[k]=x∧p ((i+k:Nat):Int)=true
 | i,[]=>by simp [qbh]
 | i,y :: xs=>by
  have ih:=qtg p x (i+1) xs
  have hx:(x∈qbh p (i+1) xs)↔∃ k,∃ h:k+1<(y :: xs).length,(y :: xs)[k+1]=x∧p ((i+(k+1):Nat):Int)=true:=by
   rw [ih]
   refine exists_congr fun k=>?_
   constructor
   ·rintro ⟨h,e,hp⟩
    exact ⟨by simpa using h,by simpa using e,by rw [show i+(k+1)=i+1+k by omega];exact hp⟩
   ·rintro ⟨h,e,hp⟩
    exact ⟨by simpa using h,by simpa using e,by rw [show i+1+k=i+(k+1) by omega];exact hp⟩
  rw [qbh]
  constructor
  ·intro h
   split at h
   ·rename_i hp
    rcases List.mem_cons.1 h with rfl | h
    ·exact ⟨0,by simp,rfl,by simpa using hp⟩
    ·obtain ⟨k,hk,e,hp⟩:=hx.1 h
     exact ⟨k+1,hk,e,hp⟩
   ·obtain ⟨k,hk,e,hp⟩:=hx.1 h
    exact ⟨k+1,hk,e,hp⟩
  ·rintro ⟨k,hk,e,hp⟩
   cases k with
   | zero =>
    have hp':p (i:Int)=true:=by simpa using hp
    have e':y=x:=e
    rw [if_pos hp',e']
    exact List.mem_cons_self ..
   | succ k =>
    have:=hx.2 ⟨k,hk,e,hp⟩
    split
    ·exact List.mem_cons_of_mem _ this
    ·exact this
theorem qqe {s:Sy} (h:qai s) (t:Int):Inc (qa9 s t):=(qpu h).sub (qmp _ _ _)
theorem qjv (s:Sy) (t:Int) (x:Lb):x∈qa9 s t↔∃ k,∃ h:k<s.ls.length,s.ls[k]=x∧qa0 x.g=true∧∃ st∈qap s [t],∃ j∈qat s.es st,s.es[j].l=(k:Int):=by
 rw [qa9,qtg]
 refine exists_congr fun k=>exists_congr fun h=>?_
 constructor
 ·rintro ⟨e,hp⟩
  rw [Nat.zero_add,qc9,List.any_eq_true] at hp
  obtain ⟨st,hst,hp⟩:=hp
  obtain ⟨j,hj,hp⟩:=List.any_eq_true.1 hp
  rw [qhr,Bool.and_eq_true,decide_eq_true_eq] at hp
  have hv:=hp.2
  rw [qgz s _ hp.1 h] at hv
  exact ⟨e,by rw [← e];exact hv,st,hst,j,hj,hp.1⟩
 ·rintro ⟨e,hv,st,hst,j,hj,hl⟩
  refine ⟨e,?_⟩
  rw [Nat.zero_add,qc9,List.any_eq_true]
  refine ⟨st,hst,List.any_eq_true.2 ⟨j,hj,?_⟩⟩
  rw [qhr,Bool.and_eq_true,decide_eq_true_eq,qgz s _ hl h,e]
  exact ⟨hl,hv⟩
end
end Go.Proofs.YtegenalcheooeaaGreat
