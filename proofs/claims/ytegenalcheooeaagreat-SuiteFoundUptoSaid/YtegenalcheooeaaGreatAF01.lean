/- Of the proof of a law of the suites: PMust. -/
import Derived.Test.YtegenalcheooeaaGreatB05
import Derived.Test.YtegenalcheooeaaGreatB24
import Derived.Test.YtegenalcheooeaaGreatB25
set_option linter.unusedSectionVars false
set_option linter.unusedSimpArgs false
set_option linter.unusedVariables false
namespace Go.Proofs.YtegenalcheooeaaGreat
open Go.RowKit
attribute [local go_sem] cell?_exto
section

def Inc (l:List Lb):Prop:=l.Pairwise fun a b=>qan a b<0
theorem Inc.of_get {l:List Lb} (h:∀ i,(hi:i+1<l.length)->qan l[i] l[i+1]<0):Inc l:=by
 induction l with
 | nil=>exact List.Pairwise.nil
 | cons a r ih =>
  have hr:Inc r:=ih fun i hi=>h (i+1) (by simpa using hi)
  refine List.pairwise_cons.2 ⟨fun b hb=>?_,hr⟩
  cases r with
  | nil=>simp at hb
  | cons c r =>
   have h0:qan a c<0:=h 0 (by simp)
   rcases List.mem_cons.1 hb with rfl | hb
   ·exact h0
   ·exact qbr.trans _ _ _ h0 ((List.pairwise_cons.1 hr).1 b hb)
theorem Inc.get {l:List Lb} (h:Inc l) {i j:Nat} (hij:i<j) (hj:j<l.length):qan (l[i]'(by omega)) l[j]<0:=List.pairwise_iff_getElem.1 h i j (by omega) hj hij
theorem ql2 (l:List Lb):qfw l=true↔Inc l:=⟨fun h=>Inc.of_get ((qjd l).1 h),fun h=>(qjd l).2 fun i hi=>h.get (Nat.lt_succ_self i) hi⟩
theorem qkz (x:Lb):¬ qan x x<0:=by have:=qbr.refl x;omega
theorem qni (p:Nat->Bool) (n:Nat) (hm:∀ a b,a<=b->p b=true->p a=true):∀ (f i j:Nat),i<=j->j-i<=f->(∀ k,k<i->p k=true)->(∀ k,j<=k->p k=false)->(∀ k,k<bsI p f i j->p k=true)∧∀ k,bsI p f i j<=k->p k=false
 | 0,i,j,hij,hf,h1,h2=>by
  rw [bsI]
  exact ⟨h1,fun k hk=>h2 k (by omega)⟩
 | f+1,i,j,hij,hf,h1,h2=>by
  rw [bsI]
  split
  ·split
   ·rename_i hp
    exact qni p n hm f _ j (by omega) (by omega) (fun k hk=>hm k _ (by omega) hp) h2
   ·rename_i hp
    refine qni p n hm f i _ (by omega) (by omega) h1 fun k hk=>?_
    cases hpk:p k
    ·rfl
    ·exact absurd (hm _ k hk hpk) hp
  ·exact ⟨h1,fun k hk=>h2 k (by omega)⟩
theorem bsP_mono {l:List Lb} (h:Inc l) (x:Lb) (a b:Nat) (hab:a<=b) (hb:bsP l x b=true):bsP l x a=true:=by
 by_cases hl:b<l.length
 ·rw [qgz hl,decide_eq_true_eq] at hb
  rw [qgz (by omega),decide_eq_true_eq]
  by_cases e:a=b
  ·subst e;exact hb
  ·exact qbr.trans _ _ _ (h.get (by omega) hl) hb
 ·simp [bsP,List.getElem?_eq_none (Nat.le_of_not_lt hl)] at hb
theorem qru {l:List Lb} (h:Inc l) (x:Lb):(∀ k,k<qcg l x->bsP l x k=true)∧∀ k,qcg l x<=k->bsP l x k=false :=
 qni _ 0 (bsP_mono h x) l.length 0 l.length (Nat.zero_le _) (by omega) (fun k hk=>absurd hk (by omega)) fun k hk=>by simp [bsP,List.getElem?_eq_none hk]
theorem qpm {l:List Lb} (h:Inc l) (x:Lb):qc5 x l=true↔x∈l:=by
 have hs:=qru h x
 constructor
 ·intro hi
  by_cases hb:qcg l x<l.length
  ·rw [qc5,qnu hb,decide_eq_true_eq] at hi
   rw [<- qbr.eq _ _ hi]
   exact List.getElem_mem hb
  ·rw [qc5,qmp hb] at hi
   cases hi
 ·intro hx
  obtain ⟨i,hi,rfl⟩:=List.mem_iff_getElem.1 hx
  have e:qcg l l[i]=i:=by
   refine Nat.le_antisymm (Nat.le_of_not_lt fun hlt=>?_) (Nat.le_of_not_lt fun hlt=>?_)
   ·have:=hs.1 i hlt
    rw [qgz hi,decide_eq_true_eq] at this
    exact qkz _ this
   ·have:=hs.2 _ (Nat.le_refl _)
    rw [qgz (by omega),decide_eq_false_iff_not] at this
    exact this (h.get hlt hi)
  rw [qc5,e,qnu hi,decide_eq_true_eq]
  exact qbr.refl _
theorem Inc.sub {l m:List Lb} (h:Inc l) (hs:m.Sublist l):Inc m:=List.Pairwise.sublist hs h
theorem Inc.sublist:∀ {b a:List Lb},Inc a->Inc b->(∀ x∈a,x∈b)->a.Sublist b
 | [],a,_,_,h=>by
  cases a with
  | nil=>exact List.Sublist.refl _
  | cons x a=>exact absurd (h x (by simp)) (by simp)
 | y :: b,[],_,_,_=>List.nil_sublist _
 | y :: b,x :: a,ha,hb,h=>by
  have ha':=List.pairwise_cons.1 ha
  have hb':=List.pairwise_cons.1 hb
  by_cases e:x=y
  ·subst e
   refine List.Sublist.cons_cons _ (Inc.sublist ha'.2 hb'.2 fun z hz=>?_)
   rcases List.mem_cons.1 (h z (List.mem_cons_of_mem _ hz)) with rfl | hz'
   ·exact absurd (ha'.1 _ hz) (qkz _)
   ·exact hz'
  ·refine List.Sublist.cons _ (Inc.sublist ha hb'.2 fun z hz=>?_)
   rcases List.mem_cons.1 (h z hz) with rfl | hz'
   ·exfalso
    have hx:x∈b:=by
     rcases List.mem_cons.1 (h x (by simp)) with hx | hx
     ·exact absurd hx e
     ·exact hx
    rcases List.mem_cons.1 hz with hz | hz
    ·exact e hz.symm
    ·exact qkz _ (qbr.trans _ _ _ (ha'.1 _ hz) (hb'.1 _ hx))
   ·exact hz'
theorem subB_iff {a b:List Lb} (hb:Inc b):subB a b=true↔∀ x∈a,x∈b:=by
 unfold subB
 rw [Bool.not_eq_true',List.any_eq_false]
 refine forall_congr' fun x=>forall_congr' fun _=>?_
 rw [<- qpm hb x]
 cases qc5 x b <;> simp
theorem qj8 {a b:List Lb} (hb:Inc b):qek a b=true↔∃ x∈a,x∈b:=by
 unfold qek
 rw [List.any_eq_true]
 exact exists_congr fun x=>and_congr_right fun _=>qpm hb x
theorem qkd (l:List Lb) (x y:Lb):y∈qck l x↔y∈l∨y=x:=by
 refine ⟨qs7 l x y,fun h=>?_⟩
 rw [qck]
 rcases h with h | rfl
 ·rw [<- List.take_append_drop (qcg l x) l] at h
  rcases List.mem_append.1 h with h | h
  ·simp [h]
  ·simp [h]
 ·simp
theorem addL_inc {l:List Lb} (h:Inc l) (x:Lb) (hx:x∉l):Inc (qck l x):=by
 have hs:=qru h x
 have hlt:∀ y∈l.take (qcg l x),qan y x<0:=fun y hy=>by
  obtain ⟨i,hi,rfl⟩:=List.mem_iff_getElem.1 hy
  rw [List.length_take] at hi
  have:=hs.1 i (by omega)
  rw [qgz (by omega),decide_eq_true_eq] at this
  rw [List.getElem_take]
  exact this
 have hgt:∀ y∈l.drop (qcg l x),qan x y<0:=fun y hy=>by
  have hyl:=List.mem_of_mem_drop hy
  obtain ⟨i,hi,rfl⟩:=List.mem_iff_getElem.1 hy
  rw [List.length_drop] at hi
  have:=hs.2 (qcg l x+i) (by omega)
  rw [qgz (by omega),decide_eq_false_iff_not] at this
  rw [List.getElem_drop] at hyl ⊢
  have h2:=(qbr.sgn x (l[qcg l x+i]'(by omega)))
  have h3:qan (l[qcg l x+i]'(by omega)) x≠0:=fun e=>hx (qbr.eq _ _ e ▸ hyl)
  omega
 refine List.pairwise_append.2 ⟨List.pairwise_append.2 ⟨h.sub (List.take_sublist _ _),List.pairwise_singleton _ _,fun a ha b hb=>?_⟩,h.sub (List.drop_sublist _ _),fun a ha b hb=>?_⟩
 ·rw [List.mem_singleton.1 hb]
  exact hlt a ha
 ·rcases List.mem_append.1 ha with ha | ha
  ·exact qbr.trans _ _ _ (hlt a ha) (hgt b hb)
  ·rw [List.mem_singleton.1 ha]
   exact hgt b hb
section
variable {α:Type} {cf:α->α->Int} {eq:α->α->Bool}
theorem qr6 (he:∀ x y,eq x y=true↔x=y):∀ (ys:List α) (p x:α),(x=p∨x∈qcl eq p ys)↔x∈p :: ys
 | [],p,x=>by simp [qcl]
 | y :: ys,p,x=>by
  have ih:=qr6 he ys y x
  rw [qcl]
  by_cases h:eq y p=true
  ·have e:=(he y p).1 h
   subst e
   rw [if_pos h,ih]
   simp
  ·rw [if_neg h,List.mem_cons,ih,List.mem_cons,List.mem_cons,List.mem_cons]
theorem qlm (he:∀ x y,eq x y=true↔x=y) (l:List α) (x:α):x∈qay eq l↔x∈l:=by
 cases l with
 | nil=>rw [qay]
 | cons p ys=>rw [qay,List.mem_cons,qr6 he]
theorem qq6 (h:qde cf) (he:∀ x y,eq x y=true↔x=y):∀ (ys:List α) (p:α),Srt cf (p :: ys)->(p :: qcl eq p ys).Pairwise fun a b=>cf a b<0
 | [],p,_=>by rw [qcl];exact List.pairwise_singleton _ _
 | y :: ys,p,hs=>by
  have hs':=List.pairwise_cons.1 hs
  have ih:=qq6 h he ys y hs'.2
  rw [qcl]
  by_cases e:eq y p=true
  ·rw [if_pos e]
   have e':=(he y p).1 e
   subst e'
   exact ih
  ·rw [if_neg e]
   have hpy:cf p y<0:=by
    have h1:=hs'.1 y (by simp)
    have h2:cf p y≠0:=fun h0=>e ((he y p).2 (h.eq p y h0).symm)
    omega
   refine List.pairwise_cons.2 ⟨fun z hz=>?_,ih⟩
   rcases List.mem_cons.1 hz with rfl | hz
   ·exact hpy
   ·exact h.trans _ _ _ hpy ((List.pairwise_cons.1 ih).1 z hz)
theorem qkk (h:qde cf) (he:∀ x y,eq x y=true↔x=y) (l:List α) (hs:Srt cf l):(qay eq l).Pairwise fun a b=>cf a b<0:=by
 cases l with
 | nil=>exact List.Pairwise.nil
 | cons p ys=>exact qq6 h he ys p hs
end
theorem qrp (x y:List Lb):qch x y=true↔x=y:=by unfold qch;rw [decide_eq_true_eq];exact ordS.iff x y
theorem qk1 (l:List (List Lb)) (x:List Lb):x∈qcj (qb9 l)↔x∈l:=(qlm qrp _ x).trans (qgk l x)
theorem sc_nodup (l:List (List Lb)):(qcj (qb9 l)).Nodup:=List.Pairwise.imp (fun {a b} h e=>by subst e;have:=ordS.refl a;omega) (qkk ordS qrp _ (qi9 ordS l))
structure MOK (pre:List Lb->Prop) (ls:List (List Lb)):Prop where
 inc:∀ m∈ls,Inc m
 hit:∀ m∈ls,∀ a,pre a->∃ x∈m,x∈a
 cov:∀ S:Lb->Prop,(∀ a,pre a->∃ x∈a,S x)->∃ m∈ls,∀ x∈m,S x
 anti:∀ a∈ls,∀ b∈ls,(∀ x∈a,x∈b)->a=b
 nodup:ls.Nodup
 own:∀ m∈ls,∀ x∈m,∃ a,pre a∧x∈a
theorem qvd {a b:List Lb} (ha:Inc a):qfg a b=true↔b.length<a.length∧∀ x∈b,x∈a:=by
 rw [qfg,Bool.and_eq_true,decide_eq_true_eq,subB_iff ha]
theorem mok_step {pre:List Lb->Prop} {ls:List (List Lb)} (h:MOK pre ls) (a:List Lb) (ha:Inc a):MOK (fun b=>pre b∨b=a) (qez (qdv ls a)):=by
 have hn:∀ m,m∈qdv ls a↔∃ m0∈ls,m∈qfe a m0:=fun m=>by rw [qdv,qk1,qcm,List.mem_flatMap]
 have hstep:∀ m0∈ls,∀ m,m∈qfe a m0->(m=m0∧∃ x∈m0,x∈a)∨∃ x∈a,x∉m0∧m=qck m0 x:=fun m0 hm0 m hm=>by
  rw [qfe] at hm
  split at hm
  ·rename_i hc
   exact .inl ⟨List.mem_singleton.1 hm,(qj8 ha).1 hc⟩
  ·rename_i hc
   obtain ⟨x,hx,rfl⟩:=List.mem_map.1 hm
   exact .inr ⟨x,hx,fun hx2=>hc ((qj8 ha).2 ⟨x,hx2,hx⟩),rfl⟩
 have hinc:∀ m∈qdv ls a,Inc m:=fun m hm=>by
  obtain ⟨m0,hm0,hm⟩:=(hn m).1 hm
  rcases hstep m0 hm0 m hm with ⟨rfl,_⟩ | ⟨x,hx,hx2,rfl⟩
  ·exact h.inc _ hm0
  ·exact addL_inc (h.inc _ hm0) x hx2
 have hlc:∀ m,m∈qez (qdv ls a)↔m∈qdv ls a∧∀ b∈qdv ls a,¬ (b.length<m.length∧∀ x∈b,x∈m):=fun m=>by
  rw [qez,leastOf,List.mem_filter,qk1]
  refine and_congr_right fun hm=>?_
  rw [Bool.not_eq_true',List.any_eq_false]
  refine forall_congr' fun b=>?_
  rw [qk1]
  refine forall_congr' fun hb=>?_
  rw [qvd (hinc m hm)]
 refine ⟨fun m hm=>hinc m ((hlc m).1 hm).1,fun m hm b hb=>?_,fun S hS=>?_,fun b hb c hc hbc=>?_,(sc_nodup _).sublist List.filter_sublist,fun m hm x hx=>?_⟩
 ·obtain ⟨m0,hm0,hm1⟩:=(hn m).1 ((hlc m).1 hm).1
  rcases hstep m0 hm0 m hm1 with ⟨rfl,hc⟩ | ⟨x,hx,hx2,rfl⟩
  ·rcases hb with hb | rfl
   ·exact h.hit _ hm0 b hb
   ·exact hc
  ·rcases hb with hb | rfl
   ·obtain ⟨y,hy,hyb⟩:=h.hit _ hm0 b hb
    exact ⟨y,(qkd _ _ _).2 (.inl hy),hyb⟩
   ·exact ⟨x,(qkd _ _ _).2 (.inr rfl),hx⟩
 ·have go:∀ (n:Nat) (m:List Lb),m.length<=n->m∈qdv ls a->(∀ x∈m,S x)->∃ m'∈qez (qdv ls a),∀ x∈m',S x:=by
   intro n
   induction n with
   | zero =>
    intro m hml hm hmS
    exact ⟨m,(hlc m).2 ⟨hm,fun b hb hx=>by omega⟩,hmS⟩
   | succ n ih =>
    intro m hml hm hmS
    by_cases hx:∃ b∈qdv ls a,b.length<m.length∧∀ x∈b,x∈m
    ·obtain ⟨b,hb,hbl,hbm⟩:=hx
     exact ih b (by omega) hb fun x hx=>hmS x (hbm x hx)
    ·exact ⟨m,(hlc m).2 ⟨hm,fun b hb hbx=>hx ⟨b,hb,hbx⟩⟩,hmS⟩
  obtain ⟨m0,hm0,hmS⟩:=h.cov S fun b hb=>hS b (.inl hb)
  by_cases hc:qek m0 a=true
  ·exact go m0.length m0 (Nat.le_refl _) ((hn m0).2 ⟨m0,hm0,by rw [qfe,if_pos hc];simp⟩) hmS
  ·obtain ⟨x,hx,hxS⟩:=hS a (.inr rfl)
   refine go _ (qck m0 x) (Nat.le_refl _) ((hn _).2 ⟨m0,hm0,by rw [qfe,if_neg hc];exact List.mem_map.2 ⟨x,hx,rfl⟩⟩) fun y hy=>?_
   rcases (qkd _ _ _).1 hy with hy | rfl
   ·exact hmS y hy
   ·exact hxS
 ·have hb':=(hlc b).1 hb
  have hc':=(hlc c).1 hc
  by_cases hl:b.length<c.length
  ·exact absurd ⟨hl,hbc⟩ (hc'.2 b hb'.1)
  ·exact (Inc.sublist (hinc b hb'.1) (hinc c hc'.1) hbc).eq_of_length_le (by omega)
 ·obtain ⟨m0,hm0,hm1⟩:=(hn m).1 ((hlc m).1 hm).1
  rcases hstep m0 hm0 m hm1 with ⟨rfl,_⟩ | ⟨y,hy,_,rfl⟩
  ·obtain ⟨b,hb,hxb⟩:=h.own _ hm0 x hx
   exact ⟨b,.inl hb,hxb⟩
  ·rcases (qkd _ _ _).1 hx with hx | rfl
   ·obtain ⟨b,hb,hxb⟩:=h.own _ hm0 x hx
    exact ⟨b,.inl hb,hxb⟩
   ·exact ⟨a,.inr rfl,hy⟩
theorem MOK.congr {p q:List Lb->Prop} {ls:List (List Lb)} (h:MOK p ls) (e:∀ a,p a↔q a):MOK q ls:=by
 have:p=q:=funext fun a=>propext (e a)
 exact this ▸ h
theorem qow:∀ (bs ls r:List (List Lb)) (pre:List Lb->Prop),(∀ a∈bs,Inc a)->MOK pre ls->qc4 bs ls=some r->MOK (fun b=>pre b∨b∈bs) r
 | [],ls,r,pre,_,h,e=>by
  rw [qc4] at e
  injection e with e
  subst e
  exact h.congr fun a=>by simp
 | a :: bs,ls,r,pre,hb,h,e=>by
  rw [qc4] at e
  split at e
  ·cases e
  ·exact (qow bs _ r _ (fun b hb'=>hb b (List.mem_cons_of_mem _ hb')) (mok_step h a (hb a (by simp))) e).congr fun b=>by simp [or_assoc]
theorem mok_nil:MOK (fun _=>False) [[]]:={
 inc:=fun m hm=>by rw [List.mem_singleton.1 hm];exact List.Pairwise.nil
 hit:=fun _ _ _ h=>h.elim
 cov:=fun S _=>⟨[],by simp,by simp⟩
 anti:=fun a ha b hb _=>by rw [List.mem_singleton.1 ha,List.mem_singleton.1 hb]
 nodup:=by simp
 own:=fun m hm x hx=>by rw [List.mem_singleton.1 hm] at hx;simp at hx }
theorem okSy_inc {s:Sy} (h:qag s):Inc s.ls:=Inc.of_get fun i hi=>by
 have:=(h.2.2.2.2.1 (i+1) hi).2 (by omega)
 simpa using this
theorem qns (p:Int->Bool):∀ (i:Nat) (xs:List Lb),(qbf p i xs).Sublist xs
 | _,[]=>List.Sublist.refl _
 | i,x :: xs=>by
  rw [qbf]
  split
  ·exact (qns p (i+1) xs).cons_cons x
  ·exact (qns p (i+1) xs).cons x
theorem qq3 (p:Int->Bool) (x:Lb):∀ (i:Nat) (xs:List Lb),x∈qbf p i xs↔∃ k,∃ h:k<xs.length,xs[k]=x∧p ((i+k:Nat):Int)=true
 | i,[]=>by simp [qbf]
 | i,y :: xs=>by
  have ih:=qq3 p x (i+1) xs
  have hx:(x∈qbf p (i+1) xs)↔∃ k,∃ h:k+1<(y :: xs).length,(y :: xs)[k+1]=x∧p ((i+(k+1):Nat):Int)=true:=by
   rw [ih]
   refine exists_congr fun k=>?_
   constructor
   ·rintro ⟨h,e,hp⟩
    exact ⟨by simpa using h,by simpa using e,by rw [show i+(k+1)=i+1+k by omega];exact hp⟩
   ·rintro ⟨h,e,hp⟩
    exact ⟨by simpa using h,by simpa using e,by rw [show i+1+k=i+(k+1) by omega];exact hp⟩
  rw [qbf]
  constructor
  ·intro h
   split at h
   ·rename_i hp
    rcases List.mem_cons.1 h with rfl | h
    ·exact ⟨0,by simp,rfl,by simpa using hp⟩
    ·obtain ⟨k,hk,e,hp⟩:=hx.1 h
     exact ⟨k+1,hk,e,hp⟩
   ·obtain ⟨k,hk,e,hp⟩:=hx.1 h
    exact ⟨k+1,hk,e,hp⟩
  ·rintro ⟨k,hk,e,hp⟩
   cases k with
   | zero =>
    have hp':p (i:Int)=true:=by simpa using hp
    have e':y=x:=e
    rw [if_pos hp',e']
    exact List.mem_cons_self ..
   | succ k =>
    have:=hx.2 ⟨k,hk,e,hp⟩
    split
    ·exact List.mem_cons_of_mem _ this
    ·exact this
theorem accL_inc {s:Sy} (h:qag s) (t:Int):Inc (qa7 s t):=(okSy_inc h).sub (qns _ _ _)
theorem qjk (s:Sy) (t:Int) (x:Lb):x∈qa7 s t↔∃ k,∃ h:k<s.ls.length,s.ls[k]=x∧qa0 x.g=true∧∃ st∈qau s [t],∃ j∈qaw s.es st,s.es[j].l=(k:Int):=by
 rw [qa7,qq3]
 refine exists_congr fun k=>exists_congr fun h=>?_
 constructor
 ·rintro ⟨e,hp⟩
  rw [Nat.zero_add,qc3,List.any_eq_true] at hp
  obtain ⟨st,hst,hp⟩:=hp
  obtain ⟨j,hj,hp⟩:=List.any_eq_true.1 hp
  rw [qhq,Bool.and_eq_true,decide_eq_true_eq] at hp
  have hv:=hp.2
  rw [qgj s _ hp.1 h] at hv
  exact ⟨e,by rw [<- e];exact hv,st,hst,j,hj,hp.1⟩
 ·rintro ⟨e,hv,st,hst,j,hj,hl⟩
  refine ⟨e,?_⟩
  rw [Nat.zero_add,qc3,List.any_eq_true]
  refine ⟨st,hst,List.any_eq_true.2 ⟨j,hj,?_⟩⟩
  rw [qhq,Bool.and_eq_true,decide_eq_true_eq,qgj s _ hl h,e]
  exact ⟨hl,hv⟩
theorem accL_okV {s:Sy} (h:qag s) (t:Int) (x:Lb) (hx:x∈qa7 s t):okV x=true:=by
 obtain ⟨k,hk,e,hv,_⟩:=(qjk s t x).1 hx
 have:=(h.2.2.2.2.1 k hk).1
 rw [e] at this
 rw [okV,this,hv]
 rfl
theorem qgr {s:Sy} (sts:List Int) {l:List Lb} (hl:Inc l):qbx s sts l=false↔∀ t∈sts,∃ x∈qa7 s t,x∈l:=by
 unfold qbx
 rw [List.any_eq_false]
 refine forall_congr' fun t=>forall_congr' fun _=>?_
 rw [<- qj8 hl]
 cases qek (qa7 s t) l <;> simp
theorem mustsL_ok {s:Sy} (h:qag s) {sts:List Int} {r:List (List Lb)} (e:qbk s sts=some r) (hs:sts≠[]):MOK (fun a=>∃ t∈sts,a=qa7 s t) r:=by
 rw [qbk,if_neg hs] at e
 have hm:∀ a,a∈qcj (qb9 (sts.map (qa7 s)))↔∃ t∈sts,a=qa7 s t:=fun a=>by
  rw [qk1,List.mem_map]
  exact exists_congr fun t=>and_congr_right fun _=>eq_comm
 refine (qow _ _ r _ (fun a ha=>?_) mok_nil e).congr fun a=>?_
 ·obtain ⟨t,_,rfl⟩:=(hm a).1 ha
  exact accL_inc h t
 ·rw [hm]
  simp
structure MustsLaw (s:Sy) (sts:List Int) (r:List (List Lb)):Prop where
 set:∀ m∈r,qb6 m=true
 ne:∀ m∈r,m≠[]
 no:∀ m∈r,qbx s sts m=false
 cov:∀ l,Inc l->sts≠[]->qbx s sts l=false->∃ m∈r,∀ x∈m,x∈l
 anti:∀ a∈r,∀ b∈r,(∀ x∈a,x∈b)->a=b
 nodup:r.Nodup
 least:∀ m∈r,∀ l,l.Sublist m->l.length<m.length->qbx s sts l=true
theorem qlu {s:Sy} (h:qag s) {sts:List Int} {r:List (List Lb)} (e:qbk s sts=some r):MustsLaw s sts r:=by
 by_cases hs:sts=[]
 ·rw [qbk,if_pos hs] at e
  injection e with e
  subst e
  exact ⟨by simp,by simp,by simp,fun _ _ h=>absurd hs h,by simp,List.Pairwise.nil,by simp⟩
 ·have hM:=mustsL_ok h e hs
  have hlen:∀ m∈r,m.length<=64:=by have:=(qk3 s sts).2;rw [e] at this;exact this
  have hno:∀ m∈r,qbx s sts m=false:=fun m hm=>(qgr sts (hM.inc m hm)).2 fun t ht=>by
   obtain ⟨x,hx,hxa⟩:=hM.hit m hm _ ⟨t,ht,rfl⟩
   exact ⟨x,hxa,hx⟩
  have hcov:∀ l,Inc l->sts≠[]->qbx s sts l=false->∃ m∈r,∀ x∈m,x∈l:=fun l hl _ hr=>hM.cov (· ∈ l) fun a ⟨t,ht,ha⟩=>by
   rw [ha]
   exact (qgr sts hl).1 hr t ht
  refine ⟨fun m hm=>?_,fun m hm hm0=>?_,hno,hcov,hM.anti,hM.nodup,fun m hm l hl hll=>?_⟩
  ·rw [qb6,Bool.and_eq_true,Bool.and_eq_true,decide_eq_true_eq,ql2,List.all_eq_true]
   refine ⟨⟨hM.inc m hm,hlen m hm⟩,fun x hx=>?_⟩
   obtain ⟨a,⟨t,_,rfl⟩,hxa⟩:=hM.own m hm x hx
   exact accL_okV h t x hxa
  ·obtain ⟨t,ht⟩:=List.exists_mem_of_ne_nil sts hs
   obtain ⟨x,hx,_⟩:=hM.hit m hm _ ⟨t,ht,rfl⟩
   rw [hm0] at hx
   simp at hx
  ·cases hr:qbx s sts l
   ·exfalso
    obtain ⟨m',hm',hsub⟩:=hcov l ((hM.inc m hm).sub hl) hs hr
    have:=hM.anti m' hm' m hm fun x hx=>hl.subset (hsub x hx)
    subst this
    have h1:=(Inc.sublist (hM.inc _ hm') ((hM.inc _ hm').sub hl) hsub).length_le
    omega
   ·rfl
end
end Go.Proofs.YtegenalcheooeaaGreat
