/- Of the proof of a law of the suites: LMut1. -/
import Derived.Test.YtegenalcheooeaaGreatAF03
import Derived.Test.YtegenalcheooeaaGreatAF04
import Derived.Test.YtegenalcheooeaaGreatB21
import Derived.Test.YtegenalcheooeaaGreatB23
import Derived.Deep.CutBlock
set_option linter.unusedSectionVars false
set_option linter.unusedSimpArgs false
set_option linter.unusedVariables false
namespace Go.Proofs.YtegenalcheooeaaGreat
open Go.RowKit
attribute [local go_sem] cell?_exto
section
open Go.Shelf
def arcOf (s:Sy) (e:Ed):Ar:=⟨e.f,qa6 s.ls e.l,e.t⟩
def qd8 (s:Sy) (m:Mu) (i:Nat) (e:Ed):List Ar:=if (i:Int)=m.e then (if m.k=1 then [] else if m.k=2 then [⟨e.f,qa6 s.ls e.l,m.t⟩] else [⟨e.f,qa6 s.ls m.l,e.t⟩]) else [arcOf s e]
def qce (s:Sy) (i:Nat):Ed:=s.es.getD i ⟨0,0,0⟩
def muP (s:Sy) (m:Mu) (k:Nat):List Ar:=(List.range k).flatMap fun i=>qd8 s m i (qce s i)
theorem qjo (s:Sy) (m:Mu) (k:Nat):muP s m (k+1)=muP s m k++qd8 s m k (qce s k):=by simp [muP,List.range_succ]
theorem muArc_len (s:Sy) (m:Mu) (i:Nat) (e:Ed):(qd8 s m i e).length<=1:=by
 unfold qd8
 split
 ·split
  ·simp
  ·split <;> simp
 ·simp
theorem qjv (s:Sy) (m:Mu):∀ k,(muP s m k).length<=k
 | 0=>by simp [muP]
 | k+1=>by
  have:=qjv s m k
  have:=muArc_len s m k (qce s k)
  rw [qjo,List.length_append]
  omega
abbrev qe4 (s:Sy) (m:Mu):List Ar:=muP s m s.es.length
def muOK (s:Sy) (m:Mu):Prop:=(0<=m.e∧m.e<s.es.length)∧((m.k=1∧m.t=0∧m.l=0)∨(m.k=2∧(0<=m.t∧m.t<s.n)∧m.l=0)∨(m.k=3∧m.t=0∧(0<=m.l∧m.l<s.ls.length)))
def qdw (s:Sy) (m:Mu):Sy:=qc9 s.n (qe4 s m)
theorem qew {s:Sy} {i:Nat} (h:i<s.es.length):qce s i=s.es[i]:=by simp [qce,List.getD_eq_getElem?_getD,List.getElem?_eq_getElem h]
theorem qj0 {s:Sy} (h:qai s) (i:Nat) (hi:i<s.es.length):0<=(qce s i).f∧(qce s i).f<s.n∧0<=(qce s i).t∧(qce s i).t<s.n∧0<=(qce s i).l∧(qce s i).l<s.ls.length:=by
 rw [qew hi]
 have:=(h.2.2.2.2.2 i hi).1
 simp [qby,isB] at this
 omega
theorem qh4 {s:Sy} {m:Mu} (hok:qai s) (hm:muOK s m) {a:Ar}:∀ {k},k<=s.es.length->a∈muP s m k->(0<=a.f∧a.f<s.n)∧(0<=a.t∧a.t<s.n)∧a.l∈s.ls
 | 0,_,h=>by simp [muP] at h
 | k+1,hk,h=>by
  rw [qjo,List.mem_append] at h
  rcases h with h | h
  ·exact qh4 hok hm (by omega) h
  ·have he:=qj0 hok k (by omega)
   have lab:∀ x:Int,0<=x->x<s.ls.length->qa6 s.ls x∈s.ls:=fun x h0 h1=>by
    obtain ⟨n,rfl⟩:∃ n:Nat,x=n:=⟨x.toNat,by omega⟩
    rw [qed s.ls n (by omega)]
    exact List.getElem_mem _
   unfold qd8 at h
   split at h
   ·split at h
    ·simp at h
    ·rename_i h1
     split at h
     ·rename_i h2
      rw [List.mem_singleton] at h
      subst h
      rcases hm.2 with ⟨e,_⟩ | ⟨_,ht,_⟩ | ⟨e,_⟩
      ·omega
      ·exact ⟨⟨he.1,he.2.1⟩,ht,lab _ (by omega) (by omega)⟩
      ·omega
     ·rename_i h2
      rw [List.mem_singleton] at h
      subst h
      rcases hm.2 with ⟨e,_⟩ | ⟨e,_⟩ | ⟨_,_,hl⟩
      ·omega
      ·omega
      ·exact ⟨⟨he.1,he.2.1⟩,⟨he.2.2.1,he.2.2.2.1⟩,lab _ hl.1 hl.2⟩
   ·rw [List.mem_singleton] at h
    subst h
    exact ⟨⟨he.1,he.2.1⟩,⟨he.2.2.1,he.2.2.2.1⟩,lab _ (by omega) (by omega)⟩
theorem qpp {s:Sy} {m:Mu} (hok:qai s) (hm:muOK s m):(qao (qe4 s m) [] []).1.length<=s.ls.length∧(qao (qe4 s m) [] []).1.Nodup:=by
 have hn:=qms (qe4 s m) [] [] (by simp)
 refine ⟨len_le _ _ hn fun x hx=>?_,hn⟩
 rcases (qmi _ _ _ x).1 hx with h | ⟨a,ha,rfl⟩
 ·cases h
 ·exact (qh4 hok hm (Nat.le_refl _) ha).2.2
theorem qpv {s:Sy} (hok:qai s) {x:Lb} (hx:x∈s.ls):qav x=true:=by
 obtain ⟨i,hi,rfl⟩:=List.getElem_of_mem hx
 exact (hok.2.2.2.2.1 i hi).1
theorem buildMu_c (S:Nat->Prop) (s:Sy) (hok:qai s) (hsm:qev s) (h16:s.ls.length<=16) (m:Mu) (hm:muOK s m) (v:Value) (w:World) (hx:RSl RAr 4 S w (qe4 s m) [v]) :
  Calls Tryz.prog 135 #[.int .i64 s.n,v] w (qod s.n (qe4 s m) w):=by
 have hl:=qpp hok hm
 have hlen:(qe4 s m).length<=s.es.length:=qjv s m s.es.length
 have h1:=hok.2.2.2.1
 have h2:=qir (qe4 s m) [] []
 refine build_c S s.n ⟨hok.1,hok.2.1⟩ (qe4 s m) v w hx (fun a ha=>?_) (fun a ha=>?_) (by omega) (by omega) (sortOK16 (by omega) hl.2) (compOK ?_)
 ·have:=qh4 hok hm (Nat.le_refl _) ha
  exact ⟨this.1,this.2.1⟩
 ·have:=qh4 hok hm (Nat.le_refl _) ha
  exact ⟨qpv hok this.2.2,hsm _ this.2.2⟩
 ·rw [qj6,qg5]
  simp only [List.length_nil] at h2
  omega
end
end Go.Proofs.YtegenalcheooeaaGreat
