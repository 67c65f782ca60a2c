/- Of the proof of a law of the suites: PSound, RAccepted, RHas, PRefB, PFound. -/
import Derived.Test.YtegenalcheooeaaGreatAF01
import Derived.Test.YtegenalcheooeaaGreatAF02
import Derived.Test.YtegenalcheooeaaGreatAF03
import Derived.Test.YtegenalcheooeaaGreatAF04
import Derived.Test.YtegenalcheooeaaGreatAF08
import Derived.Test.YtegenalcheooeaaGreatB05
set_option linter.unusedSectionVars false
set_option linter.unusedSimpArgs false
set_option linter.unusedVariables false
namespace Go.Proofs.YtegenalcheooeaaGreat
open Go.RowKit
attribute [local go_sem] cell?_exto
section

theorem qtc {tr:List Lb} {x:Lb} (h:tr.all okV=true) (hx:okV x=true):(tr++[x]).all okV=true:=by simp [List.all_append,h,hx]
structure PlOk (s:Sy) (d:Nat) (p:Pl):Prop where
 st:p.st=qal s p.tr
 ne:p.st≠[]
 ok:p.tr.all okV=true
 len:p.tr.length<=d
theorem qu6 {s:Sy} (hok:qag s) {d:Nat} {lev:List Pl} (h:∀ p∈lev,PlOk s d p):∀ p∈qcw s lev,PlOk s (d+1) p:=fun p hp=>by
 obtain ⟨q,hq,hp⟩:=List.mem_flatMap.1 hp
 obtain ⟨x,hx,hp⟩:=List.mem_flatMap.1 hp
 unfold qfn at hp
 split at hp
 ·rename_i hc
  rw [List.mem_singleton.1 hp]
  have hq':=h q hq
  obtain ⟨j,hj,rfl⟩:=List.mem_iff_getElem.1 hx
  refine ⟨?_,fun e=>?_,qtc hq'.ok ?_,?_⟩
  ·show qc2 s _ q.st=qal s (q.tr++[_])
   rw [qh8,hq'.st]
  ·rw [show qc2 s s.ls[j] q.st=[] from e] at hc
   exact absurd hc.2 (by simp)
  ·rw [okV,(hok.2.2.2.2.1 j hj).1,hc.1]
   rfl
  ·show (q.tr++[_]).length<=_
   rw [List.length_append,List.length_singleton]
   exact Nat.succ_le_succ hq'.len
 ·cases hp
theorem PlOk.mono {s:Sy} {d e:Nat} {p:Pl} (h:PlOk s d p) (hde:d<=e):PlOk s e p:=⟨h.st,h.ne,h.ok,Nat.le_trans h.len hde⟩
theorem qqs {s:Sy} (hok:qag s) (D:Nat):∀ (d k:Nat) (out lev r:List Pl),k+d=D->(∀ p∈out,PlOk s D p)->(∀ p∈lev,PlOk s k p)->qeo s d out lev=some r->∀ p∈r,PlOk s D p
 | 0,k,out,lev,r,_,ho,_,e=>by
  rw [qeo] at e
  injection e with e
  exact e ▸ ho
 | d+1,k,out,lev,r,hk,ho,hl,e=>by
  rw [qeo] at e
  split at e
  ·cases e
  ·have hn:=qu6 hok hl
   refine qqs hok D d (k+1) _ _ r (by omega) (fun p hp=>?_) hn e
   rcases List.mem_append.1 hp with hp | hp
   ·exact ho p hp
   ·exact (hn p hp).mono (by omega)
theorem quw {s:Sy} (hok:qag s) {d:Nat} {r:List Pl} (e:qe2 s d=some r):∀ p∈r,PlOk s d p:=by
 have h0:PlOk s 0 ⟨[],qau s [0]⟩:=⟨rfl,qrd s,rfl,Nat.le_refl _⟩
 exact qqs hok d d 0 _ _ r (by omega) (fun p hp=>by rw [List.mem_singleton.1 hp];exact h0.mono (Nat.zero_le _)) (fun p hp=>by rw [List.mem_singleton.1 hp];exact h0) e
theorem qqj (s:Sy):∀ (ps:List Pl) (out r:List Te),out.length<=4000->qdg s ps out=some r->r.length<=4000∧(∀ p∈ps,∃ ms,qbk s p.st=some ms)∧∀ t,t∈r↔t∈out∨∃ p∈ps,∃ ms,qbk s p.st=some ms∧∃ m∈ms,t=⟨p.tr,m⟩
 | [],out,r,ho,e=>by
  rw [qdg] at e
  injection e with e
  subst e
  exact ⟨ho,by simp,by simp⟩
 | p :: ps,out,r,ho,e=>by
  rw [qdg] at e
  cases hm:qbk s p.st with
  | none=>rw [hm] at e;cases e
  | some ms =>
   rw [hm] at e
   simp only at e
   split at e
   ·cases e
   ·rename_i hl
    obtain ⟨h1,h2,h3⟩:=qqj s ps _ r (by omega) e
    refine ⟨h1,fun q hq=>?_,fun t=>?_⟩
    ·rcases List.mem_cons.1 hq with rfl | hq
     ·exact ⟨ms,hm⟩
     ·exact h2 q hq
    ·rw [h3,List.mem_append,or_assoc]
     refine or_congr_right ⟨?_,?_⟩
     ·rintro (h | ⟨q,hq,h⟩)
      ·obtain ⟨m,hmm,rfl⟩:=List.mem_map.1 h
       exact ⟨p,by simp,ms,hm,m,hmm,rfl⟩
      ·exact ⟨q,List.mem_cons_of_mem _ hq,h⟩
     ·rintro ⟨q,hq,ms',hm',m,hmm,rfl⟩
      rcases List.mem_cons.1 hq with rfl | hq
      ·rw [hm] at hm'
       injection hm' with hm'
       subst hm'
       exact .inl (List.mem_map.2 ⟨m,hmm,rfl⟩)
      ·exact .inr ⟨q,hq,ms',hm',m,hmm,rfl⟩
structure GenLaw (s:Sy) (d:Nat) (ts:List Te):Prop where
 len:ts.length<=4000
 test:∀ t∈ts,qdi t=true
 deep:∀ t∈ts,t.tr.length<=d
 no:∀ t∈ts,qbg s t=false
 cov:∀ t∈ts,∀ l,Inc l->qbx s (qal s t.tr) l=false->∃ m,⟨t.tr,m⟩∈ts∧∀ x∈m,x∈l
theorem ql3 {s:Sy} (hok:qag s) {d:Nat} (hd:d<=8) {ts:List Te} (e:qb3 s d=some ts):GenLaw s d ts:=by
 unfold qb3 at e
 cases hp:qe2 s d with
 | none=>rw [hp] at e;cases e
 | some pls =>
  rw [hp] at e
  have hpl:=quw hok hp
  obtain ⟨h1,h2,h3⟩:=qqj s pls [] ts (by simp) e
  have hin:∀ t∈ts,∃ p∈pls,∃ ms,qbk s p.st=some ms∧t.mu∈ms∧t.tr=p.tr:=fun t ht=>by
   rcases (h3 t).1 ht with h | ⟨p,hp,ms,hms,m,hm,rfl⟩
   ·cases h
   ·exact ⟨p,hp,ms,hms,hm,rfl⟩
  refine ⟨h1,fun t ht=>?_,fun t ht=>?_,fun t ht=>?_,fun t ht l hl hr=>?_⟩
  ·obtain ⟨p,hp,ms,hms,hm,e⟩:=hin t ht
   have hL:=qlu hok hms
   have hne:=hL.ne _ hm
   rw [qdi,hL.set _ hm,qbl,e,(hpl p hp).ok]
   have h8:=(hpl p hp).len
   have h0:0<t.mu.length:=List.length_pos_iff.2 hne
   simp only [Bool.and_true,Bool.and_eq_true,decide_eq_true_eq]
   exact ⟨by omega,h0⟩
  ·obtain ⟨p,hp,ms,hms,hm,e⟩:=hin t ht
   rw [e]
   exact (hpl p hp).len
  ·obtain ⟨p,hp,ms,hms,hm,e⟩:=hin t ht
   rw [qbg,e,<- (hpl p hp).st]
   exact (qlu hok hms).no _ hm
  ·obtain ⟨p,hp,ms,hms,hm,e⟩:=hin t ht
   rw [e,<- (hpl p hp).st] at hr
   obtain ⟨m,hm',hsub⟩:=(qlu hok hms).cov l hl (hpl p hp).ne hr
   exact ⟨m,(h3 _).2 (.inr ⟨p,hp,ms,hms,m,hm',by rw [e]⟩),hsub⟩
theorem qme {α:Type} (p:α->Bool) (l:List α):qa8 p l<0↔∀ x∈l,p x=false:=by
 induction l with
 | nil=>simp [qa8]
 | cons x l ih =>
  have:=qjq p l
  rw [qa8]
  cases hx:p x with
  | true=>simp [hx]
  | false =>
   simp only [Bool.false_eq_true,if_false,List.mem_cons,forall_eq_or_imp]
   rw [<- ih]
   constructor
   ·intro h
    refine ⟨hx,?_⟩
    split at h <;> omega
   ·rintro ⟨_,h⟩
    rw [if_pos h]
    omega
theorem genE_ok {s:Sy} {d:Int} (h:qee s d=0):qag s∧0<=d∧d<=8∧qb3 s d.toNat=some (qbi s d):=by
 unfold qee at h
 split at h
 ·rename_i hok
  split at h
  ·rename_i hd
   refine ⟨hok,hd.1,hd.2,?_⟩
   rw [qbi,if_pos ⟨hok,hd⟩]
   cases hg:qb3 s d.toNat with
   | none=>rw [hg] at h;cases h
   | some ts=>rfl
  ·cases h
 ·cases h
theorem qjb {k:Sy} (hk:qag k) {ts:List Te} (hl:ts.length<=4000) (h:∀ t∈ts,qdi t=true):qar k ts=0:=by
 rw [qar,if_pos hk,qi3,if_pos hl,if_pos (List.all_eq_true.2 h)]
end
section
open Go.Shelf
end
section
open Go.Shelf
end
section
theorem set_inc {l:List Lb} (h:qb6 l=true):Inc l:=by
 rw [qb6,Bool.and_eq_true,Bool.and_eq_true] at h
 exact (ql2 l).1 h.1.1
end
section

def SubE (a b:Sy):Prop:=∀ j:Fin a.es.length,∃ i:Fin b.es.length,b.es[i].f=a.es[j].f∧b.es[i].t=a.es[j].t∧qa4 b.ls b.es[i].l=qa4 a.ls a.es[j].l
theorem sub_tau {a b:Sy} (ha:qag a) (hb:qag b) (h:SubE a b) {y z:Int} (ht:Tau a y z):Tau b y z:=by
 obtain ⟨j,e1,e2,e3⟩:=ht
 obtain ⟨i,f1,f2,f3⟩:=h j
 have hi:=qed hb i
 have hj:=qed ha j
 refine ⟨i,f1.trans e1,?_,f2.trans e3⟩
 rw [qk6 ⟨hi.2.2.2.2.1,hi.2.2.2.2.2⟩,f3,<- qk6 ⟨hj.2.2.2.2.1,hj.2.2.2.2.2⟩]
 exact e2
theorem qnf {a b:Sy} (ha:qag a) (hb:qag b) (h:SubE a b) {l l':List Int} (hl:∀ y∈l,y∈l'):∀ y∈qau a l,y∈qau b l' :=
 qim a (fun y=>y∈qau b l') (fun y z hy hz=>qjm b l' y hy z (sub_tau ha hb h hz)) l fun y hy=>qic b l' y (hl y hy)
theorem sub_after {a b:Sy} (ha:qag a) (hb:qag b) (h:SubE a b) (tr:List Lb):∀ y∈qal a tr,y∈qal b tr:=by
 have key:∀ n,n<=tr.length->∀ y∈qal a (tr.take n),y∈qal b (tr.take n):=by
  intro n
  induction n with
  | zero=>intro _;exact qnf ha hb h fun y h=>h
  | succ n ih =>
   intro hn
   rw [qie _ _ _ (by omega),qie _ _ _ (by omega)]
   refine qnf ha hb h fun y hy=>?_
   obtain ⟨j,e1,e2,e3⟩:=(qg4 _ _ _ y).1 hy
   obtain ⟨i,f1,f2,f3⟩:=h j
   have hi:=qed hb i
   have hj:=qed ha j
   refine (qg4 _ _ _ y).2 ⟨i,?_,?_,f2.trans e3⟩
   ·rw [f1];exact ih (by omega) _ e1
   ·rw [qjx ⟨hj.2.2.2.2.1,hj.2.2.2.2.2⟩] at e2
    rw [qjx ⟨hi.2.2.2.2.1,hi.2.2.2.2.2⟩,f3]
    exact e2
 have:=key tr.length (Nat.le_refl _)
 rwa [List.take_length] at this
theorem acc_ed {s:Sy} (hok:qag s) (t:Int) (x:Lb):x∈qa7 s t↔qa0 x.g=true∧∃ j:Fin s.es.length,s.es[j].f∈qau s [t]∧qa4 s.ls s.es[j].l=x:=by
 rw [qjk]
 constructor
 ·rintro ⟨k,hk,e,hv,st,hst,j,hj,hl⟩
  refine ⟨hv,j,by rw [(qgm _ _ _).1 hj];exact hst,?_⟩
  rw [hl,qea s.ls k hk,e]
 ·rintro ⟨hv,j,hj,hl⟩
  have h:=qed hok j
  obtain ⟨k,hk⟩:∃ k:Nat,s.es[j].l=k:=⟨s.es[j].l.toNat,by omega⟩
  have hk':k<s.ls.length:=by omega
  refine ⟨k,hk',?_,hv,_,hj,j,(qgm _ _ _).2 rfl,hk⟩
  rw [hk,qea s.ls k hk'] at hl
  exact hl
theorem sub_acc {a b:Sy} (ha:qag a) (hb:qag b) (h:SubE a b) (t:Int):∀ x∈qa7 a t,x∈qa7 b t:=fun x hx=>by
 obtain ⟨hv,j,hj,e⟩:=(acc_ed ha t x).1 hx
 obtain ⟨i,f1,_,f3⟩:=h j
 exact (acc_ed hb t x).2 ⟨hv,i,by rw [f1];exact qnf ha hb h (fun _ h=>h) _ hj,f3.trans e⟩
theorem same_fail {a b:Sy} (ha:qag a) (hb:qag b) (h:SubE a b) (h':SubE b a) {t:Te} (hi:Inc t.mu) (hf:qbg a t=false):qbg b t=false:=by
 rw [qbg,qgr _ hi] at hf ⊢
 intro y hy
 obtain ⟨x,hx,hm⟩:=hf y (sub_after hb ha h' _ y hy)
 exact ⟨x,sub_acc ha hb h y x hx,hm⟩
def muNo (s:Sy) (m:Mu):Prop:=qcv s m∧∃ i:Nat,m.e=i∧i<s.es.length∧((m.k=2∧m.t=(qbz s i).t)∨(m.k=3∧m.l=(qbz s i).l))
theorem no_arc {s:Sy} {m:Mu} (h:muNo s m) (i:Nat):qdx s m i (qbz s i)=[qit s (qbz s i)]:=by
 obtain ⟨_,j,e,_,h⟩:=h
 unfold qdx
 split
 ·rename_i hi
  obtain rfl:i=j:=by omega
  rcases h with ⟨hk,ht⟩ | ⟨hk,hl⟩
  ·rw [if_neg (by omega),if_pos hk,ht];rfl
  ·rw [if_neg (by omega),if_neg (by omega),hl];rfl
 ·rfl
theorem no_mem {s:Sy} {m:Mu} (h:muNo s m) (a:Ar):a∈qd7 s m↔∃ j:Fin s.es.length,a=qit s s.es[j]:=by
 rw [qd7,muP,List.mem_flatMap]
 constructor
 ·rintro ⟨i,hi,ha⟩
  have hi:=List.mem_range.1 hi
  rw [no_arc h,List.mem_singleton,qen hi] at ha
  exact ⟨⟨i,hi⟩,ha⟩
 ·rintro ⟨j,rfl⟩
  refine ⟨j.1,List.mem_range.2 j.2,?_⟩
  rw [no_arc h,List.mem_singleton,qen j.2]
  rfl
theorem no_sub {s:Sy} {m:Mu} (h:muNo s m):SubE (qci s m) s:=fun j=>by
 obtain ⟨a,ha,e1,e2,e3,e4⟩:=(qkl s.n (qd7 s m)).1 _ (List.getElem_mem j.2)
 obtain ⟨i,rfl⟩:=(no_mem h _).1 ha
 exact ⟨i,e1.symm,e2.symm,(qne e3 e4).symm⟩
theorem no_sub' {s:Sy} {m:Mu} (h:muNo s m):SubE s (qci s m):=fun j=>by
 obtain ⟨e,he,e1,e2,e3,e4⟩:=(qkl s.n (qd7 s m)).2 (qit s s.es[j]) ((no_mem h _).2 ⟨j,rfl⟩)
 obtain ⟨i,hi,rfl⟩:=List.getElem_of_mem he
 exact ⟨⟨i,hi⟩,e1,e2,qne e3 e4⟩
theorem no_found {s:Sy} (hok:qag s) {d:Nat} (hd:d<=8) {ts:List Te} (e:qb3 s d=some ts) {m:Mu} (h:muNo s m):qa8 (qbg (qci s m)) ts<0:=by
 have hg:=ql3 hok hd e
 refine (qme _ _).2 fun t ht=>?_
 have hi:=hg.test t ht
 rw [qdi,Bool.and_eq_true,Bool.and_eq_true] at hi
 exact same_fail hok (qi7 hok h.1) (no_sub' h) (no_sub h) (set_inc hi.2) (hg.no t ht)
end
end Go.Proofs.YtegenalcheooeaaGreat
