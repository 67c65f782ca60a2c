/- Of the proof of a law of the suites: PBuild, RVal, RVis, RFirst, ROut, RListed, RMarks, RSys, RClosed, RClosed2, RStart, RMoved, RAfter, PCalm, RPlain, RPlain2, RPlain3, RPlain4, PAfter. -/
import Derived.Test.YtegenalcheooeaaGreatAF02
import Derived.Test.YtegenalcheooeaaGreatAF03
import Derived.Test.YtegenalcheooeaaGreatAF04
import Derived.Test.YtegenalcheooeaaGreatAF05
import Derived.Test.YtegenalcheooeaaGreatB05
import Derived.Test.YtegenalcheooeaaGreatB06
import Derived.Test.YtegenalcheooeaaGreatB07
import Derived.Test.YtegenalcheooeaaGreatB11
import Derived.Test.YtegenalcheooeaaGreatB12
import Derived.Test.YtegenalcheooeaaGreatB16
import Derived.Test.YtegenalcheooeaaGreatB18
import Derived.Test.YtegenalcheooeaaGreatB20
import Derived.Test.YtegenalcheooeaaGreatB21
import Derived.Test.YtegenalcheooeaaGreatB22
set_option linter.unusedSectionVars false
set_option linter.unusedSimpArgs false
set_option linter.unusedVariables false
namespace Go.Proofs.YtegenalcheooeaaGreat
open Go.RowKit
attribute [local go_sem] cell?_exto
section
open Go.Sort
theorem qjq (ls:List Lb):(qdx ls).toList.Perm (qcs ls.length ls.length)∧SortedIn (ltIx ls) 0 ls.length (qdx ls):=by
 have hi:=insertionSort_holds (swo_ix ls) (qcs ls.length ls.length).toArray 0 ls.length (Nat.zero_le _) (by simp [qgc])
 refine ⟨?_,hi.2⟩
 have:=qld hi.1 (by rw [List.size_toArray,qgc])
 simpa [qdx] using this
theorem qhf (ls:List Lb) (x:Int):x∈(qdx ls).toList↔∃ i:Nat,i<ls.length∧(i:Int)=x:=by
 rw [(qjq ls).1.mem_iff,qmg]
 simp
theorem qrh (ls:List Lb):(qdx ls).toList.Nodup:=by
 rw [(qjq ls).1.nodup_iff,qmg]
 exact List.Pairwise.map (S:=(· ≠ ·)) (fun i:Nat=>(i:Int)) (fun a b hne e=>hne (by omega)) List.nodup_range
theorem qma (ls:List Lb):(qdx ls).toList.length=ls.length:=by rw [(qjq ls).1.length_eq,qgc]
theorem qok:∀ (os:List Int) (i:Nat) (p:List Int) (j:Nat),(∀ x∈os,x.toNat≠j)->(qdg os i p)[j]? = p[j]?
 | [],_,_,_,_=>rfl
 | o :: os,i,p,j,h=>by
  rw [qdg,qok os _ _ j fun x hx=>h x (by simp [hx]),List.getElem?_set_ne (h o (by simp))]
theorem qpy:∀ (os:List Int) (i:Nat) (p:List Int) (k:Nat) (hk:k<os.length),(os.Pairwise fun a b=>a.toNat≠b.toNat)->os[k].toNat<p.length->(qdg os i p)[os[k].toNat]? = some ((i+k:Nat):Int)
 | [],_,_,_,h,_,_=>by simp at h
 | o :: os,i,p,0,_,hn,hp=>by
  rw [List.pairwise_cons] at hn
  simp only [List.getElem_cons_zero] at hp ⊢
  rw [qdg,qok os _ _ _ fun x hx=>(hn.1 x hx).symm,List.getElem?_set_self hp]
  rfl
 | o :: os,i,p,k+1,hk,hn,hp=>by
  rw [List.pairwise_cons] at hn
  simp only [List.getElem_cons_succ] at hp ⊢
  rw [qdg,qpy os (i+1) _ k (by simpa using hk) hn.2 (by rw [List.length_set];exact hp)]
  congr 2
  omega
theorem ord_ne (ls:List Lb):(qdx ls).toList.Pairwise fun a b=>a.toNat≠b.toNat:=by
 have h:=qrh ls
 refine List.Pairwise.imp_of_mem (fun {a b} ha hb hne e=>hne ?_) h
 obtain ⟨i,_,rfl⟩:=(qhf ls a).1 ha
 obtain ⟨j,_,rfl⟩:=(qhf ls b).1 hb
 omega
theorem labR_mem (ls:List Lb) (x:Lb):x∈qck ls↔x∈ls:=by
 unfold qck
 rw [List.mem_map]
 constructor
 ·rintro ⟨a,ha,rfl⟩
  obtain ⟨i,hi,rfl⟩:=(qhf ls a).1 ha
  rw [qed ls i hi]
  exact List.getElem_mem _
 ·intro hx
  obtain ⟨i,hi,rfl⟩:=List.getElem_of_mem hx
  exact ⟨(i:Int),(qhf ls _).2 ⟨i,hi,rfl⟩,qed ls i hi⟩
theorem labR_len (ls:List Lb):(qck ls).length=ls.length:=by rw [qck,List.length_map,qma]
theorem place_lab (ls:List Lb) (i:Nat) (hi:i<ls.length):∃ k:Nat,k<ls.length∧((qec ls)[i]?).getD 0=(k:Int)∧(qck ls)[k]? = some ls[i]:=by
 have hm:=(qhf ls (i:Int)).2 ⟨i,hi,rfl⟩
 obtain ⟨k,hk,he⟩:=List.getElem_of_mem hm
 have hp:=qpy (qdx ls).toList 0 (List.replicate ls.length 0) k hk (ord_ne ls) (by rw [he,List.length_replicate];simpa using hi)
 rw [he,Int.toNat_natCast,Nat.zero_add] at hp
 refine ⟨k,by rw [<- qma ls];exact hk,by rw [qec,hp];rfl,?_⟩
 rw [qck,List.getElem?_map,List.getElem?_eq_getElem hk,he]
 show some (qa6 ls (i:Int))=_
 rw [qed ls i hi]
theorem labR_inc {ls:List Lb} (hn:ls.Nodup):Inc (qck ls):=by
 have hs:=(qjq ls).2
 have hsz:(qdx ls).size=ls.length:=by rw [<- Array.length_toList,qma]
 unfold Inc qck
 rw [List.pairwise_map,List.pairwise_iff_getElem]
 intro i j hi hj hij
 have hi':i<(qdx ls).size:=by simpa using hi
 have hj':j<(qdx ls).size:=by simpa using hj
 have h1:=hs i j (Nat.zero_le _) hij (by omega)
 rw [getElem!_pos _ j hj',getElem!_pos _ i hi'] at h1
 have h1:=of_decide_eq_false h1
 have hne:=List.pairwise_iff_getElem.1 (qrh ls) i j hi hj hij
 have mi:=(qhf ls _).1 (List.getElem_mem hi)
 have mj:=(qhf ls _).1 (List.getElem_mem hj)
 obtain ⟨a,ha,ea⟩:=mi
 obtain ⟨b,hb,eb⟩:=mj
 simp only [Array.getElem_toList] at *
 rw [<- ea,<- eb] at h1 hne ⊢
 rw [qed ls a ha,qed ls b hb] at h1 ⊢
 have hz:qan ls[b] ls[a]≠0:=fun e=>by
  have e:=qb0.eq _ _ e
  rcases Nat.lt_trichotomy a b with h | h | h
  ·exact List.pairwise_iff_getElem.1 hn a b ha hb h e.symm
  ·exact hne (by omega)
  ·exact List.pairwise_iff_getElem.1 hn b a hb ha h e
 exact (qb0.sgn _ _).2 (by omega)
theorem qrg:∀ (rs:List Ar) (ls:List Lb) (es:List Ed),∃ t,(qao rs ls es).1=ls++t
 | [],ls,_=>⟨[],by simp [qao]⟩
 | a :: rs,ls,es=>by
  obtain ⟨t,ht⟩:=qrg rs (qbj ls a.l) (es++[⟨a.f,(ls.idxOf a.l:Int),a.t⟩])
  rw [qao,ht]
  unfold qbj
  split
  ·exact ⟨t,rfl⟩
  ·exact ⟨[a.l]++t,by simp⟩
theorem addLb_at (ls:List Lb) (x:Lb):(qbj ls x)[ls.idxOf x]? = some x:=by
 unfold qbj
 split
 ·rename_i h
  rw [List.getElem?_eq_getElem (List.idxOf_lt_length_of_mem h)]
  simp
 ·rename_i h
  rw [List.idxOf_eq_length h]
  simp
def EdOf (ls:List Lb) (e:Ed) (a:Ar):Prop:=e.f=a.f∧e.t=a.t∧0<=e.l∧ls[e.l.toNat]? = some a.l
theorem qqo:∀ (rs:List Ar) (ls:List Lb) (es:List Ed),(∀ e∈(qao rs ls es).2,e∈es∨∃ a∈rs,EdOf (qao rs ls es).1 e a)∧(∀ a∈rs,∃ e∈(qao rs ls es).2,EdOf (qao rs ls es).1 e a)∧∀ e∈es,e∈(qao rs ls es).2
 | [],ls,es=>⟨fun e h=>.inl h,by simp,fun e h=>h⟩
 | a :: rs,ls,es=>by
  obtain ⟨h1,h2,h3⟩:=qqo rs (qbj ls a.l) (es++[⟨a.f,(ls.idxOf a.l:Int),a.t⟩])
  obtain ⟨t,ht⟩:=qrg rs (qbj ls a.l) (es++[⟨a.f,(ls.idxOf a.l:Int),a.t⟩])
  have hnew:EdOf (qao rs (qbj ls a.l) (es++[⟨a.f,(ls.idxOf a.l:Int),a.t⟩])).1 ⟨a.f,(ls.idxOf a.l:Int),a.t⟩ a:=by
   refine ⟨rfl,rfl,by show (0:Int)<=(ls.idxOf a.l:Int);omega,?_⟩
   show (qao rs _ _).1[((ls.idxOf a.l:Nat):Int).toNat]? = _
   rw [Int.toNat_natCast,ht,List.getElem?_append_left (qsc ls a.l),addLb_at]
  rw [qao]
  refine ⟨fun e he=>?_,fun b hb=>?_,fun e he=>h3 e (by simp [he])⟩
  ·rcases h1 e he with h | ⟨b,hb,h⟩
   ·rcases List.mem_append.1 h with h | h
    ·exact .inl h
    ·rw [List.mem_singleton.1 h]
     exact .inr ⟨a,by simp,hnew⟩
   ·exact .inr ⟨b,by simp [hb],h⟩
  ·rcases List.mem_cons.1 hb with rfl | hb
   ·exact ⟨_,h3 _ (by simp),hnew⟩
   ·exact h2 b hb
theorem qrz (l:List Ed) (e:Ed):e∈qdb l↔e∈l:=qjw qnx l e
theorem qrv (n:Int) (rs:List Ar):(∀ e∈(qc9 n rs).es,∃ a∈rs,EdOf (qc9 n rs).ls e a)∧∀ a∈rs,∃ e∈(qc9 n rs).es,EdOf (qc9 n rs).ls e a:=by
 obtain ⟨h1,h2,_⟩:=qqo rs [] []
 have step:∀ (e:Ed) (a:Ar),EdOf (qao rs [] []).1 e a->EdOf (qck (qao rs [] []).1) ⟨e.f,((qec (qao rs [] []).1)[e.l.toNat]?).getD 0,e.t⟩ a:=fun e a h=>by
  obtain ⟨h1,h2,h3,h4⟩:=h
  obtain ⟨hi,he⟩:=List.getElem?_eq_some_iff.1 h4
  obtain ⟨k,hk,hp,hl⟩:=place_lab (qao rs [] []).1 e.l.toNat hi
  refine ⟨h1,h2,by show 0<=((qec _)[_]?).getD 0;rw [hp];omega,?_⟩
  show (qck _)[((((qec _)[_]?).getD 0:Int)).toNat]? = _
  rw [hp,Int.toNat_natCast,hl,he]
 constructor
 ·intro e he
  have he:e∈qdb (qcp qbc (edR (qao rs [] []).1 (qao rs [] []).2)):=he
  rw [qrz,qfx] at he
  obtain ⟨d,hd,rfl⟩:=List.mem_map.1 he
  rcases h1 d hd with h | ⟨a,ha,h⟩
  ·cases h
  ·exact ⟨a,ha,step d a h⟩
 ·intro a ha
  obtain ⟨d,hd,h⟩:=h2 a ha
  refine ⟨_,?_,step d a h⟩
  show _∈qdb (qcp qbc (edR (qao rs [] []).1 (qao rs [] []).2))
  rw [qrz,qfx]
  exact List.mem_map.2 ⟨d,hd,rfl⟩
theorem build_ls (n:Int) (rs:List Ar) (x:Lb):x∈(qc9 n rs).ls↔∃ a∈rs,a.l=x:=by
 show x∈qck (qao rs [] []).1↔_
 rw [labR_mem,qmi]
 simp
theorem build_ok {n:Int} {rs:List Ar} (hn:1<=n∧n<=20000) (hin:∀ a∈rs,(0<=a.f∧a.f<n)∧0<=a.t∧a.t<n) (hl:∀ a∈rs,qav a.l=true) (h1:(qao rs [] []).1.length<=4000) (h2:rs.length<=100000):qai (qc9 n rs):=by
 have hinc:Inc (qc9 n rs).ls:=labR_inc (qms rs [] [] (by simp))
 have hed:=(qrv n rs).1
 refine ⟨hn.1,hn.2,?_,?_,fun j hj=>⟨?_,fun h0=>?_⟩,fun j hj=>⟨?_,fun h0=>?_⟩⟩
 ·show (qck _).length<=_
  rw [labR_len]
  exact h1
 ·have h:=(qir rs [] []).2
  have h3:(qdb (qcp qbc (edR (qao rs [] []).1 (qao rs [] []).2))).length<=(qcp qbc (edR (qao rs [] []).1 (qao rs [] []).2)).length:=qkf qbm _
  rw [qj6,qg5] at h3
  show (qdb _).length<=_
  simp only [List.length_nil] at h
  omega
 ·obtain ⟨a,ha,e⟩:=(build_ls n rs _).1 (List.getElem_mem hj)
  rw [<- e]
  exact hl a ha
 ·exact hinc.get (by omega) hj
 ·obtain ⟨a,ha,e1,e2,e3,e4⟩:=hed _ (List.getElem_mem hj)
  have hr:=hin a ha
  obtain ⟨hi,_⟩:=List.getElem?_eq_some_iff.1 e4
  have hn':(qc9 n rs).n=n:=rfl
  simp [qby,isB,e1,e2,hn']
  omega
 ·have hs:=qke qhp qnx _ (qjb qhp (edR (qao rs [] []).1 (qao rs [] []).2))
  exact List.pairwise_iff_getElem.1 hs (j-1) j (by show j-1<(qc9 n rs).es.length;omega) hj (by omega)
end
section

mutual
def qbf:Tm->Int->Int->Int×Bool
 | .mk _ _ l,left,deep=>if left-1<0∨200<deep then (left-1,false) else qbl l (left-1) deep
def qbl:List Tm->Int->Int->Int×Bool
 | [],left,_=>(left,true)
 | x :: xs,left,deep=>if (qbf x left (deep+1)).2=true then qbl xs (qbf x left (deep+1)).1 deep else ((qbf x left (deep+1)).1,false)
end
def ovr (s:Int×Int):Prop:=s.1 > 2000∨s.2 > 200
theorem qn9:∀ (l:List Tm) (d:Int) (s:Int×Int),ovr s->qdu l d s=s
 | [],d,s,_=>by rw [qdu]
 | x :: xs,d,s,h=>by rw [qdu,if_pos (show s.1 > 2000∨s.2 > 200 from h)]
mutual
theorem cntR_eq:∀ (t:Tm) (d:Int) (s:Int×Int),¬ ovr s->((qbf t (2000-s.1) d).2=true↔¬ ovr (qb9 t d s))∧((qbf t (2000-s.1) d).2=true->(qbf t (2000-s.1) d).1=2000-(qb9 t d s).1)
 | .mk _ _ l,d,s,h=>by
  have h0:¬ (s.1 > 2000∨s.2 > 200):=h
  rw [qbf,qb9]
  by_cases ho:ovr (s.1+1,if s.2<d then d else s.2)
  ·have ho':s.1+1 > 2000∨(if s.2<d then d else s.2) > 200:=ho
   have hc:2000-s.1-1<0∨200<d:=by
    rcases ho' with h1 | h1
    ·left;omega
    ·right;split at h1 <;> omega
   rw [if_pos hc,qn9 l d _ ho]
   exact ⟨⟨fun h=>(by cases h),fun h=>absurd ho h⟩,fun h=>by cases h⟩
  ·have ho':¬ (s.1+1 > 2000∨(if s.2<d then d else s.2) > 200):=ho
   have hc:¬ (2000-s.1-1<0∨200<d):=by
    intro h1
    refine ho' (h1.elim (fun h=>.inl (by omega)) fun h=>.inr ?_)
    split <;> omega
   rw [if_neg hc]
   have:=qo4 l d (s.1+1,if s.2<d then d else s.2) ho
   simp only at this
   rw [show 2000-s.1-1=2000-(s.1+1) by omega]
   exact this
theorem qo4:∀ (l:List Tm) (d:Int) (s:Int×Int),¬ ovr s->((qbl l (2000-s.1) d).2=true↔¬ ovr (qdu l d s))∧((qbl l (2000-s.1) d).2=true->(qbl l (2000-s.1) d).1=2000-(qdu l d s).1)
 | [],d,s,h=>by
  rw [qbl,qdu]
  exact ⟨⟨fun _=>h,fun _=>rfl⟩,fun _=>rfl⟩
 | x :: xs,d,s,h=>by
  have hx:=cntR_eq x (d+1) s h
  rw [qbl,qdu,if_neg (show ¬ (s.1 > 2000∨s.2 > 200) from h)]
  by_cases hc:(qbf x (2000-s.1) (d+1)).2=true
  ·rw [if_pos hc,hx.2 hc]
   exact qo4 xs d _ (hx.1.1 hc)
  ·have ho:ovr (qb9 x (d+1) s):=Classical.byContradiction fun hn=>hc (hx.1.2 hn)
   rw [if_neg hc,qn9 xs d _ ho]
   exact ⟨⟨fun h=>(by cases h),fun h=>absurd ho h⟩,fun h=>by cases h⟩
end
mutual
def qdl:Tm->Bool
 | .mk k n l=>!(decide (n<0) || (decide (k≠1) && decide (k≠2)) || (decide (k=1) && decide (0<l.length)) || decide (8<l.length)) && qdr l
def qdr:List Tm->Bool
 | []=>true
 | x :: xs=>qdl x && qdr xs
end
mutual
theorem qn6:∀ t,qa8 t=true->qdl t=true
 | .mk k n l,h=>by
  rw [qa8] at h
  simp only [Bool.and_eq_true,decide_eq_true_eq] at h
  rw [qdl,qqc l h.2,Bool.and_true,Bool.not_eq_true']
  obtain ⟨⟨⟨⟨h1,h2⟩,h3⟩,h4⟩,_⟩:=h
  rw [decide_eq_false (by omega),decide_eq_false (by omega:¬ 8<l.length),show decide (k≠2)=false from decide_eq_false (by omega),show decide (k=1)=false from decide_eq_false (by omega)]
  simp
theorem qqc:∀ l,qc8 l=true->qdr l=true
 | [],_=>by rw [qdr]
 | x :: xs,h=>by
  rw [qc8,Bool.and_eq_true] at h
  rw [qdr,qn6 x h.1,qqc xs h.2]
  rfl
end
end
section

mutual
theorem cntR_le:∀ (t:Tm) (left d:Int),0<=left -> -1<=(qbf t left d).1∧(qbf t left d).1<=left∧((qbf t left d).2=true->0<=(qbf t left d).1)
 | .mk _ _ l,left,d,h=>by
  rw [qbf]
  by_cases hc:left-1<0∨200<d
  ·rw [if_pos hc]
   exact ⟨by show -1<=left-1;omega,by show left-1<=left;omega,fun h=>by cases h⟩
  ·rw [if_neg hc]
   have:=qpf l (left-1) d (by omega)
   exact ⟨this.1,by omega,this.2.2⟩
theorem qpf:∀ (l:List Tm) (left d:Int),0<=left -> -1<=(qbl l left d).1∧(qbl l left d).1<=left∧((qbl l left d).2=true->0<=(qbl l left d).1)
 | [],left,d,h=>by rw [qbl];exact ⟨by show -1<=left;omega,Int.le_refl _,fun _=>h⟩
 | x :: xs,left,d,h=>by
  have hx:=cntR_le x left (d+1) h
  rw [qbl]
  by_cases hc:(qbf x left (d+1)).2=true
  ·rw [if_pos hc]
   have:=qpf xs _ d (hx.2.2 hc)
   exact ⟨this.1,by omega,this.2.2⟩
  ·rw [if_neg hc]
   exact ⟨hx.1,hx.2.1,fun h=>by cases h⟩
end
end
section
end
section
end
section
open Go.Shelf
def qft (l:List Bool) (i:Nat):Bool:=l.getD i false
end
section
end
section
theorem qht (s:Sy) (e:Ed):qby s e=true↔0<=e.f∧e.f<s.n∧0<=e.t∧e.t<s.n∧0<=e.l∧e.l<s.ls.length:=by
 simp only [qby,isB,Bool.and_eq_true,decide_eq_true_eq]
 omega
end
section
open Go.Shelf
end
section
open Go.Shelf
end
section
open Go.Shelf
def bs0 (n:Nat):List Bool:=(List.replicate n false).set 0 true
end
section
open Go.Shelf
def mvB (s:Sy) (x:Lb) (bs:List Bool) (e:Ed):Bool:=qft bs e.f.toNat && (match s.ls[e.l.toNat]? with | some y=>qa5 y x | none=>false)
def mvL (s:Sy) (x:Lb) (bs:List Bool) (k:Nat):List Int:=((s.es.take k).filter (mvB s x bs)).map (·.t)
end
section
open Go.Shelf
end
section

def Tau (s:Sy) (y z:Int):Prop:=∃ j:Fin s.es.length,s.es[j].f=y∧qf8 s s.es[j].l = -1∧s.es[j].t=z
theorem qi2 (es:List Ed) (n:Int) (j:Fin es.length):j∈qau es n↔es[j].f=n:=by simp [qau,List.mem_filter,List.mem_finRange]
theorem qs2 (s:Sy) (l:List Int) (e:Ed) (z:Int):z∈qb7 s l e↔z∈l∨(qf8 s e.l = -1∧e.t=z):=by
 unfold qb7
 split
 ·rename_i h
  rw [List.mem_append,List.mem_singleton]
  refine or_congr_right ⟨fun e=>⟨h.1,e.symm⟩,fun e=>e.2.symm⟩
 ·rename_i h
  refine ⟨.inl,fun hz=>hz.elim id fun ⟨h1,h2⟩=>?_⟩
  rw [<- h2]
  exact Classical.byContradiction fun hn=>h ⟨h1,hn⟩
theorem qjx (s:Sy) (z:Int):∀ (is:List (Fin s.es.length)) (l:List Int),z∈qa4 s is l↔z∈l∨∃ j∈is,qf8 s s.es[j].l = -1∧s.es[j].t=z
 | [],l=>by simp [qa4]
 | i :: is,l=>by
  have ih:=qjx s z is (qb7 s l s.es[i])
  have e:qa4 s (i :: is) l=qa4 s is (qb7 s l s.es[i]):=rfl
  rw [e,ih,qs2]
  simp only [List.mem_cons,exists_eq_or_imp]
  rw [or_assoc]
theorem qqm (s:Sy):∀ (is:List (Fin s.es.length)) (l:List Int),∃ m,qa4 s is l=l++m
 | [],l=>⟨[],by simp [qa4]⟩
 | i :: is,l=>by
  obtain ⟨m,hm⟩:=qqm s is (qb7 s l s.es[i])
  have e:qa4 s (i :: is) l=qa4 s is (qb7 s l s.es[i]):=rfl
  rw [e,hm]
  unfold qb7
  split
  ·exact ⟨_,by rw [List.append_assoc]⟩
  ·exact ⟨m,rfl⟩
theorem qmn (s:Sy):∀ (f i:Nat) (l:List Int),l.length+qbh s l<=i+f->(∀ y∈l.take i,∀ z,Tau s y z->z∈l)->(∀ y∈qa7 s f i l,∀ z,Tau s y z->z∈qa7 s f i l)∧∀ y∈l,y∈qa7 s f i l
 | 0,i,l,hf,hc=>by
  rw [qa7]
  rw [List.take_of_length_le (by omega)] at hc
  exact ⟨hc,fun y h=>h⟩
 | f+1,i,l,hf,hc=>by
  rw [qa7]
  split
  ·rename_i hi
   obtain ⟨m,hm⟩:=qqm s (qau s.es l[i]) l
   have hp:=(qf6 s (qau s.es l[i]) l).1
   have hsub:∀ y∈l,y∈qa4 s (qau s.es l[i]) l:=fun y hy=>(qjx s y _ l).2 (.inl hy)
   have:=qmn s f (i+1) (qa4 s (qau s.es l[i]) l) (by omega) fun y hy z hz=>by
    have ht:(qa4 s (qau s.es l[i]) l).take (i+1)=l.take i++[l[i]]:=by
     rw [hm,List.take_append_of_le_length (by omega),List.take_succ_eq_append_getElem hi]
    rw [ht,List.mem_append,List.mem_singleton] at hy
    rcases hy with hy | hy
    ·exact hsub z (hc y hy z hz)
    ·obtain ⟨j,h1,h2,h3⟩:=hz
     exact (qjx s z _ l).2 (.inr ⟨j,(qi2 _ _ _).2 (h1.trans hy),h2,h3⟩)
   exact ⟨this.1,fun y hy=>this.2 y (hsub y hy)⟩
  ·rw [List.take_of_length_le (by omega)] at hc
   exact ⟨hc,fun y h=>h⟩
theorem qqd (s:Sy) (R:Int->Prop) (hR:∀ y z,R y->Tau s y z->R z):∀ (f i:Nat) (l:List Int),(∀ y∈l,R y)->∀ y∈qa7 s f i l,R y
 | 0,i,l,hl=>by rw [qa7];exact hl
 | f+1,i,l,hl=>by
  rw [qa7]
  split
  ·rename_i hi
   refine qqd s R hR f (i+1) _ fun y hy=>?_
   rcases (qjx s y _ l).1 hy with hy | ⟨j,hj,h1,h2⟩
   ·exact hl y hy
   ·exact hR _ y (hl _ (List.getElem_mem hi)) ⟨j,(qi2 _ _ _).1 hj,h1,h2⟩
  ·exact hl
def qgs (s:Sy) (l:List Int):Prop:=∀ y∈l,∀ z,Tau s y z->z∈l
theorem qi6 (s:Sy) (l:List Int):qgs s (qaz s l):=fun y hy z hz=>by
 unfold qaz at hy ⊢
 rw [qjg] at hy ⊢
 exact (qmn s _ 0 l (by have:=qfe s l;omega) (by simp)).1 y hy z hz
theorem qhv (s:Sy) (l:List Int) (y:Int) (hy:y∈l):y∈qaz s l:=by
 unfold qaz
 rw [qjg]
 exact (qmn s _ 0 l (by have:=qfe s l;omega) (by simp)).2 y hy
theorem qim (s:Sy) (R:Int->Prop) (hR:∀ y z,R y->Tau s y z->R z) (l:List Int) (hl:∀ y∈l,R y):∀ y∈qaz s l,R y:=fun y hy=>by
 unfold qaz at hy
 rw [qjg] at hy
 exact qqd s R hR _ 0 l hl y hy
theorem qsv (s:Sy) (x:Lb) (l:List Int) (e:Ed) (z:Int):z∈qel s x l e↔z∈l∨(qeb s e.l (fun y=>qa0 y.g && decide (qan y x=0))=true∧e.t=z):=by
 unfold qel
 split
 ·rename_i h
  rw [List.mem_append,List.mem_singleton]
  refine or_congr_right ⟨fun e=>⟨h.1,e.symm⟩,fun e=>e.2.symm⟩
 ·rename_i h
  refine ⟨.inl,fun hz=>hz.elim id fun ⟨h1,h2⟩=>?_⟩
  rw [<- h2]
  exact Classical.byContradiction fun hn=>h ⟨h1,hn⟩
theorem qoe (s:Sy) (x:Lb) (z:Int):∀ (is:List (Fin s.es.length)) (l:List Int),z∈qb1 s x is l↔z∈l∨∃ j∈is,qeb s s.es[j].l (fun y=>qa0 y.g && decide (qan y x=0))=true∧s.es[j].t=z
 | [],l=>by simp [qb1]
 | i :: is,l=>by
  have ih:=qoe s x z is (qel s x l s.es[i])
  have e:qb1 s x (i :: is) l=qb1 s x is (qel s x l s.es[i]):=rfl
  rw [e,ih,qsv]
  simp only [List.mem_cons,exists_eq_or_imp]
  rw [or_assoc]
theorem qia (s:Sy) (x:Lb) (sts:List Int) (z:Int):z∈qbt s x sts↔∃ j:Fin s.es.length,s.es[j].f∈sts∧qeb s s.es[j].l (fun y=>qa0 y.g && decide (qan y x=0))=true∧s.es[j].t=z:=by
 have:∀ (sts l:List Int),z∈sts.foldl (fun l st=>qb1 s x (qau s.es st) l) l↔z∈l∨∃ j:Fin s.es.length,s.es[j].f∈sts∧qeb s s.es[j].l (fun y=>qa0 y.g && decide (qan y x=0))=true∧s.es[j].t=z:=by
  intro sts
  induction sts with
  | nil=>intro l;simp
  | cons st sts ih =>
   intro l
   rw [List.foldl_cons,ih,qoe,or_assoc]
   refine or_congr_right ⟨?_,?_⟩
   ·rintro (⟨j,hj,h⟩ | ⟨j,hj,h⟩)
    ·exact ⟨j,by rw [(qi2 _ _ _).1 hj];simp,h⟩
    ·exact ⟨j,List.mem_cons_of_mem _ hj,h⟩
   ·rintro ⟨j,hj,h⟩
    rcases List.mem_cons.1 hj with hj | hj
    ·exact .inl ⟨j,(qi2 _ _ _).2 hj,h⟩
    ·exact .inr ⟨j,hj,h⟩
 rw [qbt,this]
 simp
end
section
end
section

theorem mvL_iff (s:Sy) (x:Lb) (bs:List Bool) (y:Int):y∈mvL s x bs s.es.length↔∃ j:Fin s.es.length,mvB s x bs s.es[j]=true∧s.es[j].t=y:=by
 rw [mvL,List.take_length,List.mem_map]
 constructor
 ·rintro ⟨e,he,rfl⟩
  obtain ⟨h1,h2⟩:=List.mem_filter.1 he
  obtain ⟨i,hi,rfl⟩:=List.getElem_of_mem h1
  exact ⟨⟨i,hi⟩,h2,rfl⟩
 ·rintro ⟨j,h,rfl⟩
  exact ⟨s.es[j],List.mem_filter.2 ⟨List.getElem_mem _,h⟩,rfl⟩
theorem qga {s:Sy} (h:qai s) (j:Fin s.es.length):0<=s.es[j].f∧s.es[j].f<s.n∧0<=s.es[j].t∧s.es[j].t<s.n∧0<=s.es[j].l∧s.es[j].l<s.ls.length:=by
 have:=(h.2.2.2.2.2 j.1 j.2).1
 rwa [qht] at this
end
section

theorem qsw {s:Sy} {l:List Int} {e:Ed} (h:l.Nodup):(qb7 s l e).Nodup:=by
 unfold qb7
 split
 ·rename_i hc
  rw [List.nodup_append]
  refine ⟨h,by simp,?_⟩
  intro a ha b hb e
  rw [List.mem_singleton] at hb
  subst hb
  subst e
  exact hc.2 ha
 ·exact h
theorem qo2 {s:Sy}:∀ (is:List (Fin s.es.length)) (l:List Int),l.Nodup->(qa4 s is l).Nodup
 | [],_,h=>h
 | i :: is,l,h=>qo2 is _ (qsw (e:=s.es[i]) h)
theorem qpt {s:Sy}:∀ (f i:Nat) (l:List Int),l.Nodup->(qa7 s f i l).Nodup
 | 0,_,_,h=>by rw [qa7];exact h
 | f+1,i,l,h=>by
  rw [qa7]
  split
  ·exact qpt f _ _ (qo2 _ _ h)
  ·exact h
theorem qmc:∀ (l l':List Int),l.Pairwise (· < ·)->l'.Pairwise (· < ·)->(∀ y,y∈l↔y∈l')->l=l'
 | [],l',_,_,h=>by
  cases l' with
  | nil=>rfl
  | cons y l'=>exact absurd ((h y).2 (by simp)) (by simp)
 | x :: l,[],_,_,h=>absurd ((h x).1 (by simp)) (by simp)
 | x :: l,y :: l',h1,h2,h=>by
  obtain ⟨a1,a2⟩:=List.pairwise_cons.1 h1
  obtain ⟨b1,b2⟩:=List.pairwise_cons.1 h2
  have e:x=y:=by
   rcases List.mem_cons.1 ((h x).1 (by simp)) with e | e
   ·exact e
   ·rcases List.mem_cons.1 ((h y).2 (by simp)) with e' | e'
    ·exact e'.symm
    ·have:=a1 y e'
     have:=b1 x e
     omega
  subst e
  congr 1
  refine qmc l l' a2 b2 fun z=>?_
  have hz:=h z
  simp only [List.mem_cons] at hz
  constructor
  ·intro hm
   have:=a1 z hm
   rcases hz.1 (.inr hm) with e | e
   ·omega
   ·exact e
  ·intro hm
   have:=b1 z hm
   rcases hz.2 (.inr hm) with e | e
   ·omega
   ·exact e
theorem qr3 (s:Sy) {l:List Int} (h:l.Nodup):(qaz s l).Pairwise (· < ·):=by
 have h1:(qaz s l).Pairwise (· <= ·):=qiz _
 have h2:(qaz s l).Nodup:=(qh2 _).nodup_iff.2 (qpt _ _ _ h)
 exact List.Pairwise.imp₂ (fun {a b} (h:a<=b) (h':a≠b)=>by omega) h1 h2
theorem qt8 {s:Sy} {x:Lb} {l:List Int} {e:Ed} (h:l.Nodup):(qel s x l e).Nodup:=by
 unfold qel
 split
 ·rename_i hc
  rw [List.nodup_append]
  refine ⟨h,by simp,?_⟩
  intro a ha b hb e
  rw [List.mem_singleton] at hb
  subst hb
  subst e
  exact hc.2 ha
 ·exact h
theorem qpj {s:Sy} {x:Lb}:∀ (is:List (Fin s.es.length)) (l:List Int),l.Nodup->(qb1 s x is l).Nodup
 | [],_,h=>h
 | i :: is,l,h=>qpj is _ (qt8 (e:=s.es[i]) h)
theorem quk (s:Sy) (x:Lb) (sts:List Int):(qbt s x sts).Nodup:=by
 have:∀ (sts l:List Int),l.Nodup->(sts.foldl (fun l st=>qb1 s x (qau s.es st) l) l).Nodup:=by
  intro sts
  induction sts with
  | nil=>exact fun l h=>h
  | cons st sts ih=>exact fun l h=>ih _ (qpj _ l h)
 exact this sts [] List.nodup_nil
theorem qr2 (s:Sy) (tr:List Lb):(qal s tr).Pairwise (· < ·):=by
 rcases List.eq_nil_or_concat tr with rfl | ⟨tr',x,rfl⟩
 ·exact qr3 s (l:=[0]) (by simp)
 ·rw [List.concat_eq_append,qja]
  exact qr3 s (quk s x _)
end
section
end
section

def nxC (s:Sy) (now:List Int) (x:Lb) (e:Ed):Bool:=decide (e.f∈now) && qa5 (qa6 s.ls e.l) x
def nxP (s:Sy) (now:List Int) (x:Lb) (k:Nat):List Int:=((List.range k).filter fun i=>nxC s now x (qce s i)).map fun i=>(qce s i).t
theorem nxP_succ (s:Sy) (now:List Int) (x:Lb) (k:Nat):nxP s now x (k+1)=if nxC s now x (qce s k)=true then nxP s now x k++[(qce s k).t] else nxP s now x k:=by
 unfold nxP
 rw [List.range_succ,List.filter_append,List.map_append,List.filter_cons]
 split
 ·rfl
 ·simp
theorem nxP_len (s:Sy) (now:List Int) (x:Lb) (k:Nat):(nxP s now x k).length<=k:=by
 unfold nxP
 rw [List.length_map]
 exact Nat.le_trans (List.length_filter_le _ _) (by simp)
theorem nxP_mem (s:Sy) (now:List Int) (x:Lb) (z:Int):z∈nxP s now x s.es.length↔∃ j:Fin s.es.length,s.es[j].f∈now∧qa5 (qa6 s.ls s.es[j].l) x=true∧s.es[j].t=z:=by
 unfold nxP nxC
 simp only [List.mem_map,List.mem_filter,List.mem_range,Bool.and_eq_true,decide_eq_true_eq]
 constructor
 ·rintro ⟨i,⟨hi,h1,h2⟩,h3⟩
  rw [qew hi] at h1 h2 h3
  exact ⟨⟨i,hi⟩,h1,h2,h3⟩
 ·rintro ⟨j,h1,h2,h3⟩
  refine ⟨j.1,⟨j.2,?_⟩,?_⟩
  ·rw [qew j.2];exact ⟨h1,h2⟩
  ·rw [qew j.2];exact h3
theorem qn2 {s:Sy} {l:Int} (h:0<=l∧l<s.ls.length) (p:Lb->Bool):qeb s l p=p (qa6 s.ls l):=by
 obtain ⟨i,rfl⟩:∃ i:Nat,l=i:=⟨l.toNat,by omega⟩
 rw [qf7 s p rfl (by omega),qed s.ls i (by omega)]
theorem vis_same {a x:Lb} (hv:qa0 x.g=true):(qa0 a.g && decide (qan a x=0))=qa5 a x:=by
 unfold qa5
 by_cases h:qan a x=0
 ·have:=qb0.eq _ _ h
  subst this
  simp [hv,h]
 ·simp [h]
theorem qo5 {s:Sy} (hok:qai s) {now sts:List Int} (hnow:∀ y,y∈now↔y∈sts) {x:Lb} (hv:qa0 x.g=true) (z:Int):z∈nxP s now x s.es.length↔z∈qbt s x sts:=by
 rw [nxP_mem,qia]
 refine exists_congr fun j=>?_
 have hl:=qga hok j
 rw [hnow,qn2 ⟨hl.2.2.2.2.1,hl.2.2.2.2.2⟩,vis_same hv]
def pasB (s:Sy) (nx:List Int) (e:Ed):Prop:=qf8 s e.l = -1∧e.f∈nx∧e.t∉nx
structure Pw (s:Sy) (base C nx:List Int):Prop where
 sub:∀ y∈base,y∈nx
 inn:∀ y∈nx,y∈C
 len:nx.length+qbh s nx<=base.length+qbh s base
structure Ps (s:Sy) (base C nx0 nx:List Int) (k:Nat) (more:Bool):Prop where
 pw:Pw s base C nx
 no:more=false->nx=nx0∧∀ i,i<k->¬ pasB s nx0 (qce s i)
 yes:more=true->qbh s nx<qbh s nx0
 le:qbh s nx<=qbh s nx0
theorem Ps.start {s:Sy} {base C nx:List Int} (h:Pw s base C nx):Ps s base C nx nx 0 false:=⟨h,fun _=>⟨rfl,fun i hi=>(by omega)⟩,fun h=>(by cases h),Nat.le_refl _⟩
theorem Ps.skip {s:Sy} {base C nx0 nx:List Int} {k:Nat} {more:Bool} (h:Ps s base C nx0 nx k more) (hn:¬ pasB s nx (qce s k)):Ps s base C nx0 nx (k+1) more :=
 ⟨h.pw,fun hm=>⟨(h.no hm).1,fun i hi=>by
  by_cases e:i=k
  ·rw [e,<- (h.no hm).1];exact hn
  ·exact (h.no hm).2 i (by omega)⟩,h.yes,h.le⟩
theorem Ps.add {s:Sy} {base C nx0 nx:List Int} {k:Nat} {more:Bool} (hC:qgs s C) (h:Ps s base C nx0 nx k more) (hk:k<s.es.length) (hp:pasB s nx (qce s k)):Ps s base C nx0 (nx++[(qce s k).t]) (k+1) true:=by
 have hmem:qce s k∈s.es:=by rw [qew hk];exact List.getElem_mem _
 have hc:qb7 s nx (qce s k)=nx++[(qce s k).t]:=by rw [qb7,if_pos ⟨hp.1,hp.2.2⟩]
 have hpot:=(qru s nx (qce s k) hmem).1
 rw [hc,List.length_append,List.length_singleton] at hpot
 have hlt:qbh s (nx++[(qce s k).t])<qbh s nx:=by omega
 have hle:=h.le
 refine ⟨⟨fun y hy=>List.mem_append_left _ (h.pw.sub y hy),fun y hy=>?_,?_⟩,fun e=>(by cases e),fun _=>by omega,by omega⟩
 ·rcases List.mem_append.1 hy with hy | hy
  ·exact h.pw.inn y hy
  ·rw [List.mem_singleton.1 hy]
   exact hC _ (h.pw.inn _ hp.2.1) _ ⟨⟨k,hk⟩,by rw [qew hk];rfl,by have:=hp.1;rwa [qew hk] at this,by rw [qew hk];rfl⟩
 ·have:=h.pw.len
  rw [List.length_append,List.length_singleton]
  omega
theorem Ps.closed {s:Sy} {base C nx0 nx:List Int} (h:Ps s base C nx0 nx s.es.length false):qgs s nx:=by
 obtain ⟨e,hn⟩:=h.no rfl
 subst e
 rintro y hy z ⟨j,h1,h2,h3⟩
 apply Classical.byContradiction
 intro hz
 refine hn j.1 j.2 ?_
 rw [qew j.2]
 exact ⟨h2,by rw [show s.es[j.1].f=y from h1];exact hy,by rw [show s.es[j.1].t=z from h3];exact hz⟩
theorem Pw.start {s:Sy} (hok:qai s) {now sts:List Int} (hnow:∀ y,y∈now↔y∈sts) {x:Lb} (hv:qa0 x.g=true):Pw s (nxP s now x s.es.length) (qc3 s x sts) (nxP s now x s.es.length) :=
 ⟨fun _ h=>h,fun y h=>qhv s _ y ((qo5 hok hnow hv y).1 h),Nat.le_refl _⟩
theorem Pw.done {s:Sy} (hok:qai s) {now sts nx:List Int} (hnow:∀ y,y∈now↔y∈sts) {x:Lb} (hv:qa0 x.g=true) (h:Pw s (nxP s now x s.es.length) (qc3 s x sts) nx) (hc:qgs s nx) (y:Int):y∈nx↔y∈qc3 s x sts :=
 ⟨h.inn y,fun hy=>qim s (fun y=>y∈nx) (fun a b ha hab=>hc a ha b hab) (qbt s x sts) (fun a ha=>h.sub a ((qo5 hok hnow hv a).2 ha)) y hy⟩
theorem ordSub:qc7 (fun a b:Int=>a-b):={
 sgn x y:=by omega
 eq x y h:=by omega
 trans x y z h1 h2:=by omega }
theorem qtx (l:List Int):(qet (qct l)).Pairwise (· < ·):=by
 have hs:Srt (fun a b:Int=>a-b) (qct l):=List.Pairwise.imp (fun {a b} h=>by show a-b<=0;omega) (qiz l)
 exact List.Pairwise.imp (fun {a b} h=>by have h:a-b<0:=h;omega) (qke ordSub (eq:=eqI) (fun a b=>decide_eq_true_iff) _ hs)
theorem cmpct_mem (l:List Int) (y:Int):y∈qet (qct l)↔y∈l:=by
 rw [qet,qjw (eq:=eqI) (fun a b=>decide_eq_true_iff),qjg]
theorem law_end {s:Sy} {tr:List Lb} {now:List Int} (h:∀ y,y∈now↔y∈qal s tr):qet (qct now)=qal s tr :=
 qmc _ _ (qtx now) (qr2 s tr) fun y=>by rw [cmpct_mem,h]
theorem mut_ok {s:Sy} {m:Mu} (hok:qai s) (hm:muOK s m):qai (qdw s m):=by
 have hl:=qpp hok hm
 have h1:=hok.2.2.1
 have h2:(qe4 s m).length<=s.es.length:=qjv s m s.es.length
 have h3:=hok.2.2.2.1
 refine build_ok ⟨hok.1,hok.2.1⟩ (fun a ha=>?_) (fun a ha=>?_) (by omega) (by omega)
 ·have:=qh4 hok hm (Nat.le_refl _) ha
  exact ⟨this.1,this.2.1⟩
 ·exact qpv hok (qh4 hok hm (Nat.le_refl _) ha).2.2
theorem qox {s:Sy} {m:Mu} (h1:m.k=1) {a:Ar}:∀ {k},k<=s.es.length->a∈muP s m k->∃ j:Fin s.es.length,a=arcOf s s.es[j]
 | 0,_,h=>by simp [muP] at h
 | k+1,hk,h=>by
  rw [qjo,List.mem_append] at h
  rcases h with h | h
  ·exact qox h1 (by omega) h
  ·unfold qd8 at h
   rw [if_pos h1] at h
   split at h
   ·cases h
   ·rw [List.mem_singleton,qew (by omega:k<s.es.length)] at h
    exact ⟨⟨k,by omega⟩,h⟩
theorem lbAt_of {ls:List Lb} {l:Int} {x:Lb} (h0:0<=l) (h:ls[l.toNat]? = some x):qa6 ls l=x:=by rw [qa6,h];rfl
theorem qoh {s:Sy} {l:Int} (h:0<=l∧l<s.ls.length):qf8 s l=(qa6 s.ls l).g:=by
 obtain ⟨i,rfl⟩:∃ i:Nat,l=i:=⟨l.toNat,by omega⟩
 rw [qjt s rfl (by omega),qed s.ls i (by omega)]
theorem drop_ed {s:Sy} {m:Mu} (h1:m.k=1) (j:Fin (qdw s m).es.length):∃ i:Fin s.es.length,s.es[i].f=(qdw s m).es[j].f∧s.es[i].t=(qdw s m).es[j].t∧qa6 s.ls s.es[i].l=qa6 (qdw s m).ls (qdw s m).es[j].l:=by
 obtain ⟨a,ha,e1,e2,e3,e4⟩:=(qrv s.n (qe4 s m)).1 _ (List.getElem_mem j.2)
 obtain ⟨i,rfl⟩:=qox h1 (Nat.le_refl _) ha
 exact ⟨i,e1.symm,e2.symm,(lbAt_of e3 e4).symm⟩
theorem drop_tau {s:Sy} {m:Mu} (hok:qai s) (hm:muOK s m) (h1:m.k=1) {y z:Int} (h:Tau (qdw s m) y z):Tau s y z:=by
 obtain ⟨j,e1,e2,e3⟩:=h
 obtain ⟨i,f1,f2,f3⟩:=drop_ed h1 j
 have hi:=qga hok i
 have hj:=qga (mut_ok hok hm) j
 refine ⟨i,f1.trans e1,?_,f2.trans e3⟩
 rw [qoh ⟨hi.2.2.2.2.1,hi.2.2.2.2.2⟩,f3,<- qoh ⟨hj.2.2.2.2.1,hj.2.2.2.2.2⟩]
 exact e2
theorem qoo {s:Sy} {m:Mu} (hok:qai s) (hm:muOK s m) (h1:m.k=1) {l l':List Int} (h:∀ y∈l,y∈l'):∀ y∈qaz (qdw s m) l,y∈qaz s l' :=
 qim (qdw s m) (fun y=>y∈qaz s l') (fun y z hy hz=>qi6 s l' y hy z (drop_tau hok hm h1 hz)) l fun y hy=>qhv s l' y (h y hy)
theorem qsq {s:Sy} {m:Mu} (hok:qai s) (hm:muOK s m) (h1:m.k=1) (tr:List Lb):∀ y∈qal (qdw s m) tr,y∈qal s tr:=by
 have key:∀ n,n<=tr.length->∀ y∈qal (qdw s m) (tr.take n),y∈qal s (tr.take n):=by
  intro n
  induction n with
  | zero=>intro _;exact qoo hok hm h1 fun y h=>h
  | succ n ih =>
   intro hn
   rw [qij _ _ _ (by omega),qij _ _ _ (by omega)]
   refine qoo hok hm h1 fun y hy=>?_
   obtain ⟨j,e1,e2,e3⟩:=(qia _ _ _ y).1 hy
   obtain ⟨i,f1,f2,f3⟩:=drop_ed h1 j
   have hi:=qga hok i
   have hj:=qga (mut_ok hok hm) j
   refine (qia _ _ _ y).2 ⟨i,?_,?_,f2.trans e3⟩
   ·rw [f1];exact ih (by omega) _ e1
   ·rw [qn2 ⟨hj.2.2.2.2.1,hj.2.2.2.2.2⟩] at e2
    rw [qn2 ⟨hi.2.2.2.2.1,hi.2.2.2.2.2⟩,f3]
    exact e2
 have:=key tr.length (Nat.le_refl _)
 rwa [List.take_length] at this
end
end Go.Proofs.YtegenalcheooeaaGreat
