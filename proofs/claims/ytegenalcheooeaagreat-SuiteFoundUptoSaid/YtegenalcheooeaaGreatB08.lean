/- Of the proof of a law of the suites: Row, Ord. -/
import Derived.Test.YtegenalcheooeaaGreatB02
import Derived.Test.YtegenalcheooeaaGreatB07
set_option linter.unusedSectionVars false
set_option linter.unusedSimpArgs false
set_option linter.unusedVariables false
namespace Go.Proofs.YtegenalcheooeaaGreat
open Go.RowKit
attribute [local go_sem] cell?_exto
section

def Flat {α:Type} (R:Rdr α) (k:Nat) (S:Nat->Prop) (w:World):List α->List Value->Prop
 | [],cs=>cs=[]
 | x :: xs,cs=>∃ c1 c2,cs=c1++c2∧c1.length=k∧R S w x c1∧Flat R k S w xs c2
section
variable {α:Type} {R:Rdr α} {k:Nat}
theorem Flat.len {S:Nat->Prop} {w:World}:∀ {xs:List α} {cs:List Value},Flat R k S w xs cs->cs.length=xs.length*k
 | [],cs,h=>by rw [show cs=[] from h];simp
 | x :: xs,cs,⟨c1,c2,h1,h2,_,h4⟩=>by
  rw [h1,List.length_append,h2,h4.len,List.length_cons,Nat.add_mul];omega
theorem Flat.imp {S S':Nat->Prop} {w w':World}:∀ {xs:List α} {cs:List Value},Flat R k S w xs cs->(∀ x∈xs,∀ cs,R S w x cs->R S' w' x cs)->Flat R k S' w' xs cs
 | [],cs,h,_=>h
 | x :: xs,cs,⟨c1,c2,h1,h2,h3,h4⟩,hR=>⟨c1,c2,h1,h2,hR x (by simp) _ h3,h4.imp fun y hy=>hR y (by simp [hy])⟩
theorem Flat.append {S:Nat->Prop} {w:World}:∀ {xs ys:List α} {cs ds:List Value},Flat R k S w xs cs->Flat R k S w ys ds->Flat R k S w (xs++ys) (cs++ds)
 | [],ys,cs,ds,h,h'=>by rw [show cs=[] from h];exact h'
 | x :: xs,ys,cs,ds,⟨c1,c2,h1,h2,h3,h4⟩,h'=>⟨c1,c2++ds,by rw [h1,List.append_assoc],h2,h3,h4.append h'⟩
theorem Flat.single {S:Nat->Prop} {w:World} {x:α} {cs:List Value} (h:R S w x cs) (hl:cs.length=k):Flat R k S w [x] cs:=⟨cs,[],by simp,hl,h,rfl⟩
theorem Flat.one (hR:Good R k) {S:Nat->Prop} {w:World}:∀ {xs:List α} {cs:List Value},Flat R k S w xs cs->∀ u∈cs,u.oneCell'=true
 | [],cs,h,u,hu=>by rw [show cs=[] from h] at hu;simp at hu
 | x :: xs,cs,⟨c1,c2,h1,h2,h3,h4⟩,u,hu=>by
  rw [h1,List.mem_append] at hu
  exact hu.elim (hR.one h3 u) (h4.one hR u)
theorem qcn.flat {S:Nat->Prop} {w:World} {b:Nat}:∀ {off:Nat} {xs:List α},qcn R k S w b off xs->∃ cs,Flat R k S w xs cs∧qec w b off cs
 | _,[],_=>⟨[],rfl,fun i v h=>by simp at h⟩
 | off,x :: xs,⟨⟨c1,h1,h2,h3⟩,h4⟩=>by
  obtain ⟨c2,h5,h6⟩:=qcn.flat h4
  refine ⟨c1++c2,⟨c1,c2,rfl,h1,h2,h5⟩,fun i v h=>?_⟩
  rw [List.getElem?_append] at h
  split at h
  ·exact h3 i v h
  ·rename_i hlt
   have:=h6 _ v h
   rwa [show off+k+(i-c1.length)=off+i from by omega] at this
theorem Flat.row {S:Nat->Prop} {w:World} {b:Nat}:∀ {off:Nat} {xs:List α} {cs:List Value},Flat R k S w xs cs->qec w b off cs->qcn R k S w b off xs
 | _,[],_,_,_=>trivial
 | off,x :: xs,cs,⟨c1,c2,h1,h2,h3,h4⟩,hc=>by
  subst h1
  refine ⟨⟨c1,h2,h3,fun i v h=>hc i v ?_⟩,h4.row fun i v h=>?_⟩
  ·have:=(List.getElem?_eq_some_iff.1 h).1
   rw [List.getElem?_append_left this];exact h
  ·have:=hc (k+i) v (by rw [List.getElem?_append_right (by omega),show k+i-c1.length=i from by omega];exact h)
   rwa [show off+(k+i)=off+k+i from by omega] at this
def qab {α:Type} (R:Rdr α) (k:Nat) (e:TypeId) (base:Nat) (T:Nat->Prop) (w:World) (xs:List α) (v:Value):Prop :=
 ∃ news,w.ownsRow base e k v xs.length news∧Flat R k (fun b=>T b∧v.ownBlock≠some b) w xs news
variable {e:TypeId} {base:Nat} {T:Nat->Prop} {w w':World} {xs:List α} {v:Value}
theorem qab.nil (base:Nat) (T:Nat->Prop) (w:World):qab R k e base T w [] (.slice none 0 0):=⟨[],World.ownsRow_nil ..,rfl⟩
theorem qab.sl (h:qab R k e base T w xs v) (hR:Good R k) (hk:0<k):RSl R k (fun b=>T b∨base<=b) w xs [v]:=by
 obtain ⟨news,⟨h1,h2⟩,h3⟩:=h
 rcases h2 with ⟨rfl,h2⟩ | ⟨g,cap,cur,rfl,hb,hh,hc,hm,hs,ht⟩
 ·have:xs=[]:=List.length_eq_zero_iff.1 h2
  subst this
  exact ⟨none,0,rfl,Nat.le_refl _,by decide,.inl rfl⟩
 ·refine ⟨some ⟨g,0,none⟩,cap,rfl,hc,hm,.inr ⟨g,0,rfl,(Array.getElem?_eq_some_iff.1 hh).1,.inr hb,?_⟩⟩
  refine Flat.row (cs:=news) (h3.imp fun x _ cs hx=>hR.mono hx fun b _ hb'=>.inl hb'.1) fun i u hi=>?_
  have hi':cur[i]? = some u:=by
   rw [<- ht,List.getElem?_take] at hi
   split at hi
   ·simpa using hi
   ·cases hi
  rw [Nat.zero_add]
  exact (cell_of_row w g i cur e (0,0) hh).trans hi'
theorem qab.keep (h:qab R k e base T w xs v) (hR:Good R k) (hk:∀ b,b<w.heap.size->(T b∨base<=b)->w'.heap[b]? = w.heap[b]?) (hs:w.heap.size<=w'.heap.size):qab R k e base T w' xs v:=by
 obtain ⟨news,⟨h1,h2⟩,h3⟩:=h
 refine ⟨news,⟨h1,h2.imp id ?_⟩,h3.imp fun x _ cs hx=>hR.move hx ⟨hs,fun b hb hb'=>hk b hb (.inl hb'.1)⟩⟩
 rintro ⟨g,cap,cur,rfl,hb,hh,h⟩
 exact ⟨g,cap,cur,rfl,hb,(hk g (Array.getElem?_eq_some_iff.1 hh).1 (.inr hb)).trans hh,h⟩
theorem qab.ext (h:qab R k e base T w xs v) (hR:Good R k) (he:Ext w w'):qab R k e base T w' xs v :=
 h.keep hR (fun b hb _=>(Ext.kp (S:=fun _=>True) he).block b hb trivial) he.size
theorem qab.mono {T':Nat->Prop} (h:qab R k e base T w xs v) (hR:Good R k) (hT:∀ b,b<w.heap.size->T b->T' b):qab R k e base T' w xs v:=by
 obtain ⟨news,h1,h3⟩:=h
 exact ⟨news,h1,h3.imp fun x _ cs hx=>hR.mono hx fun b hb hb'=>⟨hT b hb hb'.1,hb'.2⟩⟩
theorem qab.push (hR:Good R k) {news cs:List Value} {ys:List α} {v':Value} (hF:Flat R k (fun b=>T b∧v.ownBlock≠some b) w xs news) (hG:Flat R k (fun b=>T b∧v.ownBlock≠some b) w ys cs)
  (hown:w'.ownsRow base e k v' (xs.length+ys.length) (news++cs)) (hg:w.grownBy w' v.ownBlock) (hat:v'.ownBlock=v.ownBlock∨v'.ownBlock=some w.heap.size):qab R k e base T w' (xs++ys) v':=by
 refine ⟨news++cs,by rw [List.length_append];exact hown,?_⟩
 have mv:∀ {zs:List α} {ds},Flat R k (fun b=>T b∧v.ownBlock≠some b) w zs ds->Flat R k (fun b=>T b∧v'.ownBlock≠some b) w' zs ds:=fun h=>h.imp fun x _ cs hx=>by
  refine hR.mono (S:=fun b=>(T b∧v.ownBlock≠some b)∧b<w.heap.size) (hR.move (hR.mono hx fun b hb hb'=>⟨hb',hb⟩) ⟨hg.size,fun b hb hb'=>hg.block b hb (fun e=>hb'.1.2 e.symm)⟩) ?_
  rintro b _ ⟨⟨h1,h2⟩,h3⟩
  refine ⟨h1,?_⟩
  rcases hat with hat | hat
  ·rw [hat];exact h2
  ·rw [hat];simp;omega
 exact (mv hF).append (mv hG)
end
def qls {α:Type} (R:Rdr α) (k:Nat) (t:TypeId) (S:Nat->Prop) (xs:List α) (w:World) (e:Ending) (w':World):Prop :=
 ∃ v,e = .returned v∧qab R k t w.heap.size S w' xs v∧Ext w w'
end
section

structure qde {α:Type} (cf:α->α->Int):Prop where
 sgn:∀ x y,cf x y<0↔0<cf y x
 eq:∀ x y,cf x y=0->x=y
 trans:∀ x y z,cf x y<0->cf y z<0->cf x z<0
theorem qde.refl {α:Type} {cf:α->α->Int} (h:qde cf) (x:α):cf x x=0:=by
 have:=h.sgn x x
 omega
theorem qde.symm {α:Type} {cf:α->α->Int} (h:qde cf) {x y:α} (e:cf x y=0):cf y x=0:=by rw [h.eq x y e];exact h.refl y
theorem qde.iff {α:Type} {cf:α->α->Int} (h:qde cf) (x y:α):cf x y=0↔x=y:=⟨h.eq x y,fun e=>by rw [e];exact h.refl y⟩
theorem ordI:qde qah:={
 sgn x y:=by unfold qah;split <;> split <;> (try split) <;> (try split) <;> omega
 eq x y h:=by
  unfold qah at h
  split at h
  ·omega
  ·split at h <;> omega
 trans x y z h1 h2:=by
  unfold qah at *
  have a:x<y:=by
   split at h1
   ·assumption
   ·split at h1 <;> omega
  have b:y<z:=by
   split at h2
   ·assumption
   ·split at h2 <;> omega
  rw [if_pos (by omega)]
  decide }
theorem ordL {α:Type} {cf:α->α->Int} (h:qde cf):qde (qa2 cf):={
 sgn:=by
  intro x
  induction x with
  | nil=>intro y;cases y <;> simp [qa2]
  | cons x xs ih =>
   intro y
   cases y with
   | nil=>simp [qa2]
   | cons y ys =>
    rw [qa2,qa2]
    by_cases e:cf x y=0
    ·rw [if_pos e,if_pos (h.symm e)];exact ih ys
    ·rw [if_neg e,if_neg fun e'=>e (h.symm e')];exact h.sgn x y
 eq:=by
  intro x
  induction x with
  | nil=>intro y;cases y <;> simp [qa2]
  | cons x xs ih =>
   intro y
   cases y with
   | nil=>simp [qa2]
   | cons y ys =>
    rw [qa2]
    by_cases e:cf x y=0
    ·rw [if_pos e];intro e2;rw [h.eq x y e,ih ys e2]
    ·rw [if_neg e];intro e2;exact absurd e2 e
 trans:=by
  intro x
  induction x with
  | nil=>intro y z;cases y <;> cases z <;> simp [qa2]
  | cons x xs ih =>
   intro y z
   cases y with
   | nil=>simp [qa2]
   | cons y ys =>
    cases z with
    | nil=>simp [qa2]
    | cons z zs =>
     rw [qa2,qa2,qa2]
     by_cases e1:cf x y=0
     ·rw [if_pos e1,h.eq x y e1]
      by_cases e2:cf y z=0
      ·rw [if_pos e2,if_pos e2];exact ih ys zs
      ·rw [if_neg e2,if_neg e2];exact fun _ h2=>h2
     ·rw [if_neg e1]
      by_cases e2:cf y z=0
      ·rw [if_pos e2,<- h.eq y z e2,if_neg e1];exact fun h1 _=>h1
      ·rw [if_neg e2]
       intro h1 h2
       have h3:=h.trans x y z h1 h2
       rw [if_neg (by omega)]
       exact h3 }
mutual
theorem qvm:∀ x y,qbv x y=0->x=y
 | .mk k n l,.mk k' n' l',h=>by
  rw [qbv] at h
  simp only [orI] at h
  split at h
  ·rename_i h1
   split at h
   ·rename_i h2
    split at h
    ·split at h
     ·rename_i h4
      rw [ordI.eq _ _ h1,ordI.eq _ _ h2,qn1 l l' h4]
     ·contradiction
    ·contradiction
   ·contradiction
  ·contradiction
theorem qn1:∀ x y,qat x y=0->x=y
 | [],[],_=>rfl
 | [],y :: ys,h=>by
  rw [qat] at h
  have:=ordI.eq _ _ h
  simp only [List.length_cons] at this
  omega
 | x :: xs,[],h=>by rw [qat] at h;cases h
 | x :: xs,y :: ys,h=>by
  rw [qat] at h
  split at h
  ·rename_i h1
   rw [qvm x y h1,qn1 xs ys h]
  ·contradiction
end
mutual
def encTm:Tm->List Int
 | .mk k n l=>k :: n :: (l.length:Int) :: qef l
def qef:List Tm->List Int
 | []=>[0]
 | x :: xs=>1 :: (encTm x++qef xs)
end
mutual
theorem enc_tm:∀ x y r s,qa2 qah (encTm x++r) (encTm y++s)=if qbv x y=0 then qa2 qah r s else qbv x y
 | .mk k n l,.mk k' n' l',r,s=>by
  have h:=qn6 l l' r s
  rw [encTm,encTm,qbv]
  simp only [List.cons_append,qa2,orI]
  rw [h]
  by_cases h1:qah k k'=0 <;> by_cases h2:qah n n'=0 <;> by_cases h3:qah (l.length:Int) l'.length=0 <;> by_cases h4:qat l l'=0 <;> simp [h1,h2,h3,h4]
theorem qn6:∀ x y r s,qa2 qah (qef x++r) (qef y++s)=if qat x y=0 then qa2 qah r s else qat x y
 | [],[],r,s=>by simp [qef,qa2,qat,qah]
 | [],y :: ys,r,s=>by
  have e:qah 0 ((y :: ys).length:Int) = -1:=by unfold qah;simp only [List.length_cons];rw [if_pos (by omega)]
  rw [qat,e,qef,qef]
  simp only [List.cons_append,qa2]
  simp [qah]
 | x :: xs,[],r,s=>by
  rw [qat,qef,qef]
  simp only [List.cons_append,qa2]
  simp [qah]
 | x :: xs,y :: ys,r,s=>by
  have h:=enc_tm x y (qef xs++r) (qef ys++s)
  have h':=qn6 xs ys r s
  rw [qat,qef,qef]
  simp only [List.cons_append,qa2,List.append_assoc]
  rw [h,h',if_pos (by simp [qah])]
  by_cases h1:qbv x y=0 <;> simp [h1]
end
theorem qj0 (a b:Lb):qan a b=qa2 qah (a.g :: qef a.v) (b.g :: qef b.v):=by
 have h:=qn6 a.v b.v [] []
 simp only [List.append_nil] at h
 rw [qa2,h,qan]
 simp only [orI,qa2]
theorem qbr:qde qan:={
 sgn x y:=by rw [qj0,qj0];exact (ordL ordI).sgn _ _
 eq x y h:=by
  rw [qan] at h
  simp only [orI] at h
  split at h
  ·rename_i h1
   split at h
   ·rename_i h2
    cases x;cases y
    simp only [Lb.mk.injEq]
    exact ⟨ordI.eq _ _ h1,qn1 _ _ h2⟩
   ·contradiction
  ·contradiction
 trans x y z:=by rw [qj0,qj0,qj0];exact (ordL ordI).trans _ _ _ }
section
variable {α:Type} {cf:α->α->Int}
def insB (cf:α->α->Int) (x:α):List α->List α
 | []=>[x]
 | y :: ys=>if cf x y<=0 then x :: y :: ys else y :: insB cf x ys
def qcu (cf:α->α->Int):List α->List α
 | []=>[]
 | x :: xs=>insB cf x (qcu cf xs)
theorem qmg (x:α):∀ l:List α,(insB cf x l).Perm (x :: l)
 | []=>List.Perm.refl _
 | y :: ys=>by
  rw [insB]
  split
  ·exact List.Perm.refl _
  ·exact ((qmg x ys).cons y).trans (List.Perm.swap x y ys)
theorem qky:∀ l:List α,(qcu cf l).Perm l
 | []=>List.Perm.refl _
 | x :: xs=>(qmg x _).trans ((qky xs).cons x)
def Srt (cf:α->α->Int) (l:List α):Prop:=l.Pairwise fun a b=>cf a b<=0
theorem qq5 (h:qde cf) (x:α):∀ l:List α,Srt cf l->Srt cf (insB cf x l)
 | [],_=>List.pairwise_singleton _ _
 | y :: ys,hs=>by
  have hs':=List.pairwise_cons.1 hs
  rw [insB]
  split
  ·rename_i hxy
   refine List.pairwise_cons.2 ⟨fun z hz=>?_,hs⟩
   rcases List.mem_cons.1 hz with rfl | hz
   ·exact hxy
   ·have hyz:=hs'.1 z hz
    by_cases e1:cf x y=0
    ·rw [h.eq x y e1];exact hyz
    ·by_cases e2:cf y z=0
     ·rw [<- h.eq y z e2];exact hxy
     ·exact Int.le_of_lt (h.trans x y z (by omega) (by omega))
  ·rename_i hxy
   refine List.pairwise_cons.2 ⟨fun z hz=>?_,qq5 h x ys hs'.2⟩
   rcases List.mem_cons.1 ((qmg x ys).mem_iff.1 hz) with rfl | hz
   ·have:=(h.sgn y z).2 (by omega)
    omega
   ·exact hs'.1 z hz
theorem qi9 (h:qde cf):∀ l:List α,Srt cf (qcu cf l)
 | []=>List.Pairwise.nil
 | x :: xs=>qq5 h x _ (qi9 h xs)
theorem qmx (h:qde cf):∀ {l l':List α},l.Perm l'->Srt cf l->Srt cf l'->l=l'
 | [],l',hp,_,_=>(List.Perm.nil_eq hp)
 | a :: l,[],hp,_,_=>absurd hp.length_eq (by simp)
 | a :: l,b :: l',hp,h1,h2=>by
  have h1':=List.pairwise_cons.1 h1
  have h2':=List.pairwise_cons.1 h2
  have hab:a=b:=by
   rcases List.mem_cons.1 (hp.mem_iff.1 (List.mem_cons_self ..)) with e | ha
   ·exact e
   ·rcases List.mem_cons.1 (hp.mem_iff.2 (List.mem_cons_self ..)) with e | hb
    ·exact e.symm
    ·have x1:=h1'.1 b hb
     have x2:=h2'.1 a ha
     have:=h.sgn b a
     have:=h.sgn a b
     exact h.eq a b (by omega)
  subst hab
  rw [qmx h (List.Perm.cons_inv hp) h1'.2 h2'.2]
theorem qrn (h:qde cf) {l l':List α} (hp:l'.Perm l) (hs:Srt cf l'):l'=qcu cf l:=qmx h (hp.trans (qky l).symm) hs (qi9 h l)
theorem qki (l:List α):(qcu cf l).length=l.length:=(qky l).length_eq
theorem qgk (l:List α) (x:α):x∈qcu cf l↔x∈l:=(qky l).mem_iff
end
end
end Go.Proofs.YtegenalcheooeaaGreat
