/- Of the proof of a law of the suites: PCalm, RPlain, RPlain2, RPlain3, RPlain4. -/
import Derived.Test.YtegenalcheooeaaGreatB27
import Derived.Test.YtegenalcheooeaaGreatRM04
import Derived.Test.YtegenalcheooeaaGreatRM05
set_option linter.unusedSectionVars false
set_option linter.unusedSimpArgs false
set_option linter.unusedVariables false
namespace Go.Proofs.YtegenalcheooeaaGreat
open Go.RowKit
attribute [local go_sem] cell?_exto
section

def Tau (s:Sy) (y z:Int):Prop:=∃ j:Fin s.es.length,s.es[j].f=y∧qhe s s.es[j].l = -1∧s.es[j].t=z
theorem qhy (es:List Ed) (n:Int) (j:Fin es.length):j∈qat es n↔es[j].f=n:=by simp [qat,List.mem_filter,List.mem_finRange]
theorem qvg (s:Sy) (l:List Int) (e:Ed) (z:Int):z∈qco s l e↔z∈l∨(qhe s e.l = -1∧e.t=z):=by
 unfold qco
 split
 ·rename_i h
  rw [List.mem_append,List.mem_singleton]
  refine or_congr_right ⟨fun e=>⟨h.1,e.symm⟩,fun e=>e.2.symm⟩
 ·rename_i h
  refine ⟨.inl,fun hz=>hz.elim id fun ⟨h1,h2⟩=>?_⟩
  rw [← h2]
  exact Classical.byContradiction fun hn=>h ⟨h1,hn⟩
theorem qk8 (s:Sy) (z:Int):∀ (is:List (Fin s.es.length)) (l:List Int),z∈qa6 s is l↔z∈l∨∃ j∈is,qhe s s.es[j].l = -1∧s.es[j].t=z
 | [],l=>by simp [qa6]
 | i :: is,l=>by
  have ih:=qk8 s z is (qco s l s.es[i])
  have e:qa6 s (i :: is) l=qa6 s is (qco s l s.es[i]):=rfl
  rw [e,ih,qvg]
  simp only [List.mem_cons,exists_eq_or_imp]
  rw [or_assoc]
theorem qqp (s:Sy):∀ (is:List (Fin s.es.length)) (l:List Int),∃ m,qa6 s is l=l++m
 | [],l=>⟨[],by simp [qa6]⟩
 | i :: is,l=>by
  obtain ⟨m,hm⟩:=qqp s is (qco s l s.es[i])
  have e:qa6 s (i :: is) l=qa6 s is (qco s l s.es[i]):=rfl
  rw [e,hm]
  unfold qco
  split
  ·exact ⟨_,by rw [List.append_assoc]⟩
  ·exact ⟨m,rfl⟩
theorem qmh (s:Sy):∀ (f i:Nat) (l:List Int),l.length+qcn s l≤i+f→(∀ y∈l.take i,∀ z,Tau s y z→z∈l)→(∀ y∈qbc s f i l,∀ z,Tau s y z→z∈qbc s f i l)∧∀ y∈l,y∈qbc s f i l
 | 0,i,l,hf,hc=>by
  rw [qbc]
  rw [List.take_of_length_le (by omega)] at hc
  exact ⟨hc,fun y h=>h⟩
 | f+1,i,l,hf,hc=>by
  rw [qbc]
  split
  ·rename_i hi
   obtain ⟨m,hm⟩:=qqp s (qat s.es l[i]) l
   have hp:=(qgb s (qat s.es l[i]) l).1
   have hsub:∀ y∈l,y∈qa6 s (qat s.es l[i]) l:=fun y hy=>(qk8 s y _ l).2 (.inl hy)
   have:=qmh s f (i+1) (qa6 s (qat s.es l[i]) l) (by omega) fun y hy z hz=>by
    have ht:(qa6 s (qat s.es l[i]) l).take (i+1)=l.take i++[l[i]]:=by
     rw [hm,List.take_append_of_le_length (by omega),List.take_succ_eq_append_getElem hi]
    rw [ht,List.mem_append,List.mem_singleton] at hy
    rcases hy with hy | hy
    ·exact hsub z (hc y hy z hz)
    ·obtain ⟨j,h1,h2,h3⟩:=hz
     exact (qk8 s z _ l).2 (.inr ⟨j,(qhy _ _ _).2 (h1.trans hy),h2,h3⟩)
   exact ⟨this.1,fun y hy=>this.2 y (hsub y hy)⟩
  ·rw [List.take_of_length_le (by omega)] at hc
   exact ⟨hc,fun y h=>h⟩
theorem qpg (s:Sy) (R:Int→Prop) (hR:∀ y z,R y→Tau s y z→R z):∀ (f i:Nat) (l:List Int),(∀ y∈l,R y)→∀ y∈qbc s f i l,R y
 | 0,i,l,hl=>by rw [qbc];exact hl
 | f+1,i,l,hl=>by
  rw [qbc]
  split
  ·rename_i hi
   refine qpg s R hR f (i+1) _ fun y hy=>?_
   rcases (qk8 s y _ l).1 hy with hy | ⟨j,hj,h1,h2⟩
   ·exact hl y hy
   ·exact hR _ y (hl _ (List.getElem_mem hi)) ⟨j,(qhy _ _ _).1 hj,h1,h2⟩
  ·exact hl
def qnv (s:Sy) (l:List Int):Prop:=∀ y∈l,∀ z,Tau s y z→z∈l
theorem ql1 (s:Sy) (l:List Int):qnv s (qap s l):=fun y hy z hz=>by
 unfold qap at hy ⊢
 rw [qkk] at hy ⊢
 exact (qmh s _ 0 l (by have:=qf8 s l;omega) (by simp)).1 y hy z hz
theorem qmz (s:Sy) (l:List Int) (y:Int) (hy:y∈l):y∈qap s l:=by
 unfold qap
 rw [qkk]
 exact (qmh s _ 0 l (by have:=qf8 s l;omega) (by simp)).2 y hy
theorem qlw (s:Sy) (R:Int→Prop) (hR:∀ y z,R y→Tau s y z→R z) (l:List Int) (hl:∀ y∈l,R y):∀ y∈qap s l,R y:=fun y hy=>by
 unfold qap at hy
 rw [qkk] at hy
 exact qpg s R hR _ 0 l hl y hy
theorem qua (s:Sy) (x:Lb) (l:List Int) (e:Ed) (z:Int):z∈qe1 s x l e↔z∈l∨(qe2 s e.l (fun y=>qa0 y.g && decide (qao y x=0))=true∧e.t=z):=by
 unfold qe1
 split
 ·rename_i h
  rw [List.mem_append,List.mem_singleton]
  refine or_congr_right ⟨fun e=>⟨h.1,e.symm⟩,fun e=>e.2.symm⟩
 ·rename_i h
  refine ⟨.inl,fun hz=>hz.elim id fun ⟨h1,h2⟩=>?_⟩
  rw [← h2]
  exact Classical.byContradiction fun hn=>h ⟨h1,hn⟩
theorem qp9 (s:Sy) (x:Lb) (z:Int):∀ (is:List (Fin s.es.length)) (l:List Int),z∈qb0 s x is l↔z∈l∨∃ j∈is,qe2 s s.es[j].l (fun y=>qa0 y.g && decide (qao y x=0))=true∧s.es[j].t=z
 | [],l=>by simp [qb0]
 | i :: is,l=>by
  have ih:=qp9 s x z is (qe1 s x l s.es[i])
  have e:qb0 s x (i :: is) l=qb0 s x is (qe1 s x l s.es[i]):=rfl
  rw [e,ih,qua]
  simp only [List.mem_cons,exists_eq_or_imp]
  rw [or_assoc]
theorem qn2 (s:Sy) (x:Lb) (sts:List Int) (z:Int):z∈qb3 s x sts↔∃ j:Fin s.es.length,s.es[j].f∈sts∧qe2 s s.es[j].l (fun y=>qa0 y.g && decide (qao y x=0))=true∧s.es[j].t=z:=by
 have:∀ (sts l:List Int),z∈sts.foldl (fun l st=>qb0 s x (qat s.es st) l) l↔z∈l∨∃ j:Fin s.es.length,s.es[j].f∈sts∧qe2 s s.es[j].l (fun y=>qa0 y.g && decide (qao y x=0))=true∧s.es[j].t=z:=by
  intro sts
  induction sts with
  | nil=>intro l;simp
  | cons st sts ih =>
   intro l
   rw [List.foldl_cons,ih,qp9,or_assoc]
   refine or_congr_right ⟨?_,?_⟩
   ·rintro (⟨j,hj,h⟩ | ⟨j,hj,h⟩)
    ·exact ⟨j,by rw [(qhy _ _ _).1 hj];simp,h⟩
    ·exact ⟨j,List.mem_cons_of_mem _ hj,h⟩
   ·rintro ⟨j,hj,h⟩
    rcases List.mem_cons.1 hj with hj | hj
    ·exact .inl ⟨j,(qhy _ _ _).2 hj,h⟩
    ·exact .inr ⟨j,hj,h⟩
 rw [qb3,this]
 simp
end
section

theorem qt9 (s:Sy) (bs:List Bool):qc2 s bs=marksOf s.n.toNat (qap s (mkL bs)):=by
 unfold qc2 qap
 exact qmb fun i _=>(qkk _ _).symm
theorem qry (s:Sy) {l l':List Int} (h:∀ y∈l,y∈l'):∀ y∈qap s l,y∈qap s l' :=
 qlw s (fun y=>y∈qap s l') (fun y z hy hz=>ql1 s l' y hy z hz) l fun y hy=>qmz s l' y (h y hy)
theorem qpi (s:Sy) {l l':List Int} (h:∀ y,y∈l↔y∈l') (y:Int):y∈qap s l↔y∈qap s l' :=
 ⟨qry s (fun y hy=>(h y).1 hy) y,qry s (fun y hy=>(h y).2 hy) y⟩
theorem qqh (n:Nat) (l:List Int) (hl:∀ x∈l,0≤x∧x<n) (y:Int):y∈mkL (marksOf n l)↔y∈l:=by
 rw [qhq]
 constructor
 ·rintro ⟨i,hi,hm,rfl⟩
  rw [qd6 hi,qez,decide_eq_true_eq] at hm
  exact hm
 ·intro hy
  have:=hl y hy
  refine ⟨y.toNat,by rw [qbz];omega,?_,by omega⟩
  rw [qd6 (by rw [qbz];omega),qez,decide_eq_true_eq,Int.toNat_of_nonneg this.1]
  exact hy
theorem qmy (s:Sy) (n:Nat) (hn:s.n=(n:Int)) (l:List Int) (hl:∀ x∈l,0≤x∧x<n):qc2 s (marksOf n l)=marksOf n (qap s l):=by
 rw [qt9,hn,Int.toNat_natCast]
 exact qmb fun i _=>qpi s (qqh n l hl) _
theorem bs0_marks {n:Nat} (h:0<n):bs0 n=marksOf n [0]:=by
 rw [bs0,← qk0,qjr]
 rfl
theorem qr5 (s:Sy) (n:Nat) (hn:s.n=(n:Int)) (h:0<n):qc2 s (bs0 n)=marksOf n (qap s [0]):=by
 rw [bs0_marks h]
 exact qmy s n hn [0] fun x hx=>by
  rw [List.mem_singleton] at hx
  omega
end
section

theorem mvL_iff (s:Sy) (x:Lb) (bs:List Bool) (y:Int):y∈mvL s x bs s.es.length↔∃ j:Fin s.es.length,mvB s x bs s.es[j]=true∧s.es[j].t=y:=by
 rw [mvL,List.take_length,List.mem_map]
 constructor
 ·rintro ⟨e,he,rfl⟩
  obtain ⟨h1,h2⟩:=List.mem_filter.1 he
  obtain ⟨i,hi,rfl⟩:=List.getElem_of_mem h1
  exact ⟨⟨i,hi⟩,h2,rfl⟩
 ·rintro ⟨j,h,rfl⟩
  exact ⟨s.es[j],List.mem_filter.2 ⟨List.getElem_mem _,h⟩,rfl⟩
theorem qiy {s:Sy} (h:qai s) (j:Fin s.es.length):0≤s.es[j].f∧s.es[j].f<s.n∧0≤s.es[j].t∧s.es[j].t<s.n∧0≤s.es[j].l∧s.es[j].l<s.ls.length:=by
 have:=(h.2.2.2.2.2 j.1 j.2).1
 rwa [qhf] at this
theorem mvB_iff {s:Sy} (hok:qai s) {n:Nat} (hn:s.n=(n:Int)) (l:List Int) (x:Lb) (hv:qa0 x.g=true) (j:Fin s.es.length):mvB s x (marksOf n l) s.es[j]=true↔s.es[j].f∈l∧qe2 s s.es[j].l (fun y=>qa0 y.g && decide (qao y x=0))=true:=by
 obtain ⟨h1,h2,h3,h4,h5,h6⟩:=qiy hok j
 obtain ⟨fi,hfi⟩:∃ fi:Nat,s.es[j].f=(fi:Int):=⟨s.es[j].f.toNat,by omega⟩
 obtain ⟨li,hli⟩:∃ li:Nat,s.es[j].l=(li:Int):=⟨s.es[j].l.toNat,by omega⟩
 have hl:li<s.ls.length:=by omega
 have hf:fi<(marksOf n l).length:=by rw [qbz];omega
 rw [qgz s _ hli hl,mvB,hfi,hli,Int.toNat_natCast,Int.toNat_natCast,qd6 hf,qez,List.getElem?_eq_getElem hl]
 simp only [Bool.and_eq_true,decide_eq_true_eq,qck]
 constructor
 ·rintro ⟨ha,hb⟩
  refine ⟨ha,?_,hb⟩
  rw [qcv.eq _ _ hb]
  exact hv
 ·rintro ⟨ha,_,hb⟩
  exact ⟨ha,hb⟩
theorem qr9 {s:Sy} (hok:qai s) {n:Nat} (hn:s.n=(n:Int)) (l:List Int) (x:Lb) (hv:qa0 x.g=true):mvM s n (marksOf n l) x=marksOf n (qa7 s x l):=by
 rw [mvM,qmy s n hn _ fun y hy=>by
  obtain ⟨j,_,rfl⟩:=(mvL_iff ..).1 hy
  have:=qiy hok j
  omega]
 refine qmb fun i _=>?_
 refine qpi s (fun y=>?_) _
 rw [mvL_iff,qn2]
 constructor
 ·rintro ⟨j,h,e⟩
  obtain ⟨h1,h2⟩:=(mvB_iff hok hn l x hv j).1 h
  exact ⟨j,h1,h2,e⟩
 ·rintro ⟨j,h1,h2,e⟩
  exact ⟨j,(mvB_iff hok hn l x hv j).2 ⟨h1,h2⟩,e⟩
theorem qlf {s:Sy} (hok:qai s) {n:Nat} (hn:s.n=(n:Int)) (tr:List Lb) (hv:∀ x∈tr,qa0 x.g=true):qde s n tr=marksOf n (qan s tr):=by
 have:∀ (tr:List Lb) (l:List Int),(∀ x∈tr,qa0 x.g=true)→tr.foldl (mvM s n) (marksOf n l)=marksOf n (tr.foldl (fun l x=>qa7 s x l) l):=by
  intro tr
  induction tr with
  | nil=>intro l _;rfl
  | cons x tr ih =>
   intro l h
   rw [List.foldl_cons,List.foldl_cons,qr9 hok hn l x (h x (by simp)),ih _ fun y hy=>h y (by simp [hy])]
 rw [qde,qan,qr5 s n hn (by have:=hok.1;omega),this tr _ hv]
end
section

theorem qu2 {s:Sy} {l:List Int} {e:Ed} (h:l.Nodup):(qco s l e).Nodup:=by
 unfold qco
 split
 ·rename_i hc
  rw [List.nodup_append]
  refine ⟨h,by simp,?_⟩
  intro a ha b hb e
  rw [List.mem_singleton] at hb
  subst hb
  subst e
  exact hc.2 ha
 ·exact h
theorem qsx {s:Sy}:∀ (is:List (Fin s.es.length)) (l:List Int),l.Nodup→(qa6 s is l).Nodup
 | [],_,h=>h
 | i :: is,l,h=>qsx is _ (qu2 (e:=s.es[i]) h)
theorem qrp {s:Sy}:∀ (f i:Nat) (l:List Int),l.Nodup→(qbc s f i l).Nodup
 | 0,_,_,h=>by rw [qbc];exact h
 | f+1,i,l,h=>by
  rw [qbc]
  split
  ·exact qrp f _ _ (qsx _ _ h)
  ·exact h
theorem qtd:∀ (l l':List Int),l.Pairwise (· < ·)→l'.Pairwise (· < ·)→(∀ y,y∈l↔y∈l')→l=l'
 | [],l',_,_,h=>by
  cases l' with
  | nil=>rfl
  | cons y l'=>exact absurd ((h y).2 (by simp)) (by simp)
 | x :: l,[],_,_,h=>absurd ((h x).1 (by simp)) (by simp)
 | x :: l,y :: l',h1,h2,h=>by
  obtain ⟨a1,a2⟩:=List.pairwise_cons.1 h1
  obtain ⟨b1,b2⟩:=List.pairwise_cons.1 h2
  have e:x=y:=by
   rcases List.mem_cons.1 ((h x).1 (by simp)) with e | e
   ·exact e
   ·rcases List.mem_cons.1 ((h y).2 (by simp)) with e' | e'
    ·exact e'.symm
    ·have:=a1 y e'
     have:=b1 x e
     omega
  subst e
  congr 1
  refine qtd l l' a2 b2 fun z=>?_
  have hz:=h z
  simp only [List.mem_cons] at hz
  constructor
  ·intro hm
   have:=a1 z hm
   rcases hz.1 (.inr hm) with e | e
   ·omega
   ·exact e
  ·intro hm
   have:=b1 z hm
   rcases hz.2 (.inr hm) with e | e
   ·omega
   ·exact e
theorem qq2 (bs:List Bool):(mkL bs).Pairwise (· < ·):=by
 unfold mkL mkT
 rw [List.pairwise_map]
 refine List.Pairwise.imp (fun {a b} (h:a<b)=>by omega) ((List.pairwise_lt_range).filter _)
theorem qsk (n:Nat) (l:List Int) (hl:∀ x∈l,0≤x∧x<n) (hr:l.Pairwise (· < ·)):mkL (marksOf n l)=l :=
 qtd _ _ (qq2 _) hr (qqh n l hl)
theorem qj1 (s:Sy) {l:List Int} (h:l.Nodup):(qap s l).Pairwise (· < ·):=by
 have h1:(qap s l).Pairwise (· ≤ ·):=qkg _
 have h2:(qap s l).Nodup:=(qiq _).nodup_iff.2 (qrp _ _ _ h)
 exact List.Pairwise.imp₂ (fun {a b} (h:a≤b) (h':a≠b)=>by omega) h1 h2
theorem qtm {s:Sy} {x:Lb} {l:List Int} {e:Ed} (h:l.Nodup):(qe1 s x l e).Nodup:=by
 unfold qe1
 split
 ·rename_i hc
  rw [List.nodup_append]
  refine ⟨h,by simp,?_⟩
  intro a ha b hb e
  rw [List.mem_singleton] at hb
  subst hb
  subst e
  exact hc.2 ha
 ·exact h
theorem qpz {s:Sy} {x:Lb}:∀ (is:List (Fin s.es.length)) (l:List Int),l.Nodup→(qb0 s x is l).Nodup
 | [],_,h=>h
 | i :: is,l,h=>qpz is _ (qtm (e:=s.es[i]) h)
theorem qo0 (s:Sy) (x:Lb) (sts:List Int):(qb3 s x sts).Nodup:=by
 have:∀ (sts l:List Int),l.Nodup→(sts.foldl (fun l st=>qb0 s x (qat s.es st) l) l).Nodup:=by
  intro sts
  induction sts with
  | nil=>exact fun l h=>h
  | cons st sts ih=>exact fun l h=>ih _ (qpz _ l h)
 exact this sts [] List.nodup_nil
theorem qsj (s:Sy) (tr:List Lb):(qan s tr).Pairwise (· < ·):=by
 rcases List.eq_nil_or_concat tr with rfl | ⟨tr',x,rfl⟩
 ·exact qj1 s (l:=[0]) (by simp)
 ·rw [List.concat_eq_append,qi7]
  exact qj1 s (qo0 s x _)
end
section

theorem qkx {s:Sy} (hok:qai s) (l:List Int) (hl:∀ y∈l,0≤y∧y<s.n):∀ y∈qap s l,0≤y∧y<s.n :=
 qlw s (fun y=>0≤y∧y<s.n) (fun y z _ ht=>by
  obtain ⟨j,_,_,rfl⟩:=ht
  have:=qiy hok j
  omega) l hl
theorem qly {s:Sy} (hok:qai s) (x:Lb) (l:List Int):∀ y∈qa7 s x l,0≤y∧y<s.n :=
 qkx hok _ fun y hy=>by
  obtain ⟨j,_,_,rfl⟩:=(qn2 s x l y).1 hy
  have:=qiy hok j
  omega
theorem qns {s:Sy} (hok:qai s) (tr:List Lb):∀ y∈qan s tr,0≤y∧y<s.n:=by
 rcases List.eq_nil_or_concat tr with rfl | ⟨tr',x,rfl⟩
 ·exact qkx hok [0] fun y hy=>by
   rw [List.mem_singleton] at hy
   have:=hok.1
   omega
 ·rw [List.concat_eq_append,qi7]
  exact qly hok x _
end
end Go.Proofs.YtegenalcheooeaaGreat
