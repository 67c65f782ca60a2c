/- Of the proof of a law of the suites: More, Choose1, Verdicts, Choose. -/
import Derived.Test.YtegenalcheooeaaGreatB04
import Derived.Test.YtegenalcheooeaaGreatB10
import Derived.Test.YtegenalcheooeaaGreatB15
import Derived.Maps.RangeRun
set_option linter.unusedSectionVars false
set_option linter.unusedSimpArgs false
set_option linter.unusedVariables false
namespace Go.Proofs.YtegenalcheooeaaGreat
open Go.RowKit
attribute [local go_sem] cell?_exto
set_option maxHeartbeats 16000000
set_option maxRecDepth 100000
section
open Go.Shelf
def qb2:List Bool->List Bool->Nat
 | a :: xs,b :: ys=>(if b && !a then 1 else 0)+qb2 xs ys
 | _,_=>0
theorem qof:∀(xs ys:List Bool) (a b:Bool),xs.length=ys.length->qb2 (xs++[a]) (ys++[b])=qb2 xs ys+(if b && !a then 1 else 0)
 | [],[],a,b,_=>by simp[qb2]
 | [],_ :: _,_,_,h=>by simp at h
 | _ :: _,[],_,_,h=>by simp at h
 | x :: xs,y :: ys,a,b,h=>by
  simp only[List.cons_append,qb2];rw[qof xs ys a b (by simpa using h)];omega
theorem qiq:∀(xs ys:List Bool),qb2 xs ys<=ys.length
 | a :: xs,b :: ys=>by
  have:=qiq xs ys;rw[qb2,List.length_cons]
  split <;> omega
 | [],_=>by simp[qb2]
 | _ :: _,[]=>by simp[qb2]
theorem more_c (S:Nat->Prop) (a b:List Bool) (va vb:Value) (w:World) (L:RSl qac 1 S w a [va]) (M:RSl qac 1 S w b [vb]) (hl:a.length=b.length) :
  Calls Tryz.prog 115 #[va,vb] w λe w'=>e = .returned (.int .i64 (qb2 a b:Nat))/\w'=w:=by
 obtain⟨A,c,rfl,hc,ae⟩:=L.val;obtain⟨B,d,rfl,hd,af⟩:=M.val;have HA:=Hd L;have HB:=Hd M;have HL:=Hd hl;clear L M hl
 go_enter Tryz.func115,Tryz.ntmps115
 go_wp2
 go_loopw [5,10] (λvn vi wr=>∃k:Nat,k<=b.length/\vi = .int .i64 k/\vn = .int .i64 ((qb2 (a.take k) (b.take k):Nat):Int)/\wr=w) (λ_ vi _=>b.length-(intOf vi).toNat)
 case atStart=>exact⟨0,Nat.zero_le _,rfl,by simp[qb2],rfl⟩
 obtain⟨k,hk,rfl,rfl,rfl⟩:=hrel
 by_cases F:k<b.length
 .have J:k<a.length:=by rw[HL.out];exact F
  obtain⟨b1,o1,aa,rfl,ac,_,O,X,G⟩:=HA.out.get k J;obtain⟨b2,o2,ab,rfl,ad,_,U,Y,I⟩:=HB.out.get k F;obtain rfl:=X;obtain rfl:=Y;have s1:=(by simpa using G.get 0 _:wr.cell? ⟨b1,o1+k,none⟩=some (.bool a[k]))
  have s2:=(by simpa using I.get 0 _:wr.cell? ⟨b2,o2+k,none⟩=some (.bool b[k]))
  have m:=qof (a.take k) (b.take k) a[k] b[k] (by rw[List.length_take,List.length_take];omega);rw[<- List.take_succ_eq_append_getElem J,<- List.take_succ_eq_append_getElem F]at m;have V:=qiq (a.take k) (b.take k);rw[List.length_take,Nat.min_eq_left (by omega)]at V;clear G I O U
  cases u:b[k] with
  | false =>
   rw[u]at s2 m;have D:=Hd m;clear m u
   go_wp2_with fail
   go_roundw
   case rel=>exact⟨k+1,by omega,by go_num,by rw[D.out];rfl,trivial⟩
   simp[intOf];omega
  | true =>
   cases E:a[k] with
   | true =>
    rw[u]at s2 m;rw[E]at s1 m;have D:=Hd m;clear m u E
    go_wp2_with fail
    go_roundw
    case rel=>exact⟨k+1,by omega,by go_num,by rw[D.out];rfl,trivial⟩
    simp[intOf];omega
   | false =>
    rw[u]at s2 m;rw[E]at s1 m;have D:=Hd m;clear m u E
    go_wp2_with fail
    go_roundw
    case rel=>exact⟨k+1,by omega,by go_num,by rw[D.out];go_num,trivial⟩
    simp[intOf];omega
 have N:k=b.length:=by omega
 have HF:=Hd (show qb2 (a.take k) (b.take k)=qb2 a b from by rw[List.take_of_length_le (by rw[HL.out];omega),List.take_of_length_le (by omega)]);clear N
 go_wp2_with fail
 go_ret;rw[HF.out];exact⟨rfl,rfl⟩
end
section
open Go.Shelf
def orB:List Bool->List Bool->List Bool
 | a :: xs,b :: ys=>(a || b) :: orB xs ys
 | xs,_=>xs
theorem qgi:∀(xs ys:List Bool),(orB xs ys).length=xs.length
 | a :: xs,b :: ys=>by simp[orB,qgi xs ys]
 | [],[]=>rfl
 | [],_ :: _=>rfl
 | _ :: _,[]=>rfl
theorem qoc (xs:List Bool):orB xs []=xs:=by cases xs <;> rfl
theorem qpf:∀(xs ys:List Bool) (k:Nat) (h:k<xs.length) (c:k<ys.length),(orB xs (ys.take k)).set k (xs[k] || ys[k])=orB xs (ys.take (k+1))/\(orB xs (ys.take k))[k]'(by rw[qgi];exact h)=xs[k]
 | x :: xs,y :: ys,0,_,_=>by simp[orB,qoc]
 | x :: xs,y :: ys,k+1,h,c=>by
  have:=qpf xs ys k (by simpa using h) (by simpa using c);simp only[List.take_succ_cons,orB,List.set_cons_succ,List.getElem_cons_succ];exact⟨by rw[this.1],this.2⟩
def falN (xs:List Bool):Nat:=xs.count false
theorem qow:∀(xs ys:List Bool),falN (orB xs ys)+qb2 xs ys=falN xs
 | x :: xs,y :: ys=>by
  have:=qow xs ys;unfold falN at *;rw[orB,qb2]
  cases x <;> cases y <;> simp <;> omega
 | [],[]=>rfl
 | [],_ :: _=>rfl
 | _ :: _,[]=>rfl
def orCv (a c:Cv):Cv:=⟨orB a.l c.l,orB a.e c.e⟩
def qc8 (a c:Cv):Nat:=qb2 a.l c.l+qb2 a.e c.e
def qfi (a:Cv):List Cv->Nat->Int×Nat->Int×Nat
 | [],_,p=>p
 | c :: cs,i,p=>qfi a cs (i+1) (if p.2<qc8 a c then ((i:Int),qc8 a c) else p)
def qhs (a:Cv) (each:List Cv):Int×Nat:=qfi a each 0 (-1,0)
theorem que (a:Cv) (d:List Cv):∀(cs:List Cv) (i:Nat) (p:Int×Nat),d.drop i=cs->(p=(-1,0)\/∃j:Nat,∃h:j<d.length,p.1=(j:Int)/\0<p.2/\p.2=qc8 a d[j]) ->
  (qfi a cs i p=(-1,0)\/∃j:Nat,∃h:j<d.length,(qfi a cs i p).1=(j:Int)/\0<(qfi a cs i p).2/\(qfi a cs i p).2=qc8 a d[j])
 | [],_,p,_,h=>h
 | c :: cs,i,p,hd,h=>by
  have hi:i<d.length:=by
   by_cases A:i<d.length
   .exact A
   rw[List.drop_eq_nil_of_le (by omega)]at hd;cases hd
  have u:d[i]=c:=by rw[List.drop_eq_getElem_cons hi]at hd;injection hd
  have m:d.drop (i+1)=cs:=by rw[List.drop_eq_getElem_cons hi]at hd;injection hd
  rw[qfi];refine que a d cs (i+1) _ m ?_
  split
  .rename_i D;exact .inr ⟨i,hi,rfl,by show 0<qc8 a c;omega,by show qc8 a c=_;rw[u]⟩
  exact h
theorem qo3 (a:Cv) (c:List Cv):(qhs a c=(-1,0))\/∃j:Nat,∃h:j<c.length,(qhs a c).1=(j:Int)/\0<qc8 a c[j]:=by
 rcases que a c c 0 (-1,0) rfl (.inl rfl)with h | ⟨j,h,d,m,u⟩
 .exact .inl h
 exact .inr ⟨j,h,d,by rw[<- u];exact m⟩
def qe5 (each:List Cv):Nat->Cv->List Int->List Int
 | 0,_,out=>out
 | f+1,a,out=>if (qhs a each).1<0 then out else qe5 each f (orCv a (each.getD (qhs a each).1.toNat ⟨[],[]⟩)) (out++[(qhs a each).1])
def qa1 (s:Sy) (ts:List Te):List Cv:=ts.map λt=>qa9 s t (cv0 s)
def potN (a:Cv):Nat:=falN a.l+falN a.e
def qg2 (s:Sy) (ts:List Te):List Int:=qdp (qe5 (qa1 s ts) (s.ls.length+s.es.length+1) (cv0 s) [])
theorem qo4 (a c:Cv):potN (orCv a c)+qc8 a c=potN a:=by
 have d:=qow a.l c.l;have m:=qow a.e c.e;simp only[potN,orCv,qc8];omega
theorem qne (s:Sy):potN (cv0 s)=s.ls.length+s.es.length:=by simp[potN,cv0,falN]
def qfa:Rdr Cv:=λS w c cs=>∃v u,cs=[v,u]/\RSl qac 1 S w c.l [v]/\RSl qac 1 S w c.e [u]
theorem qfa.good:Good qfa 2:={
 len:=by rintro S w x cs ⟨v,u,rfl,_⟩;rfl
 one:=by
  rintro S w x cs ⟨v,u,rfl,d,c⟩ y hy;simp at hy
  rcases hy with rfl | rfl
  .exact d.oneCell
  exact c.oneCell
 move:=by rintro S w w' x cs ⟨v,u,rfl,d,c⟩ m;exact⟨v,u,rfl,(RSl.good qac.good).move d m,(RSl.good qac.good).move c m⟩
 mono:=by rintro S S' w x cs ⟨v,u,rfl,d,c⟩ hs;exact⟨v,u,rfl,(RSl.good qac.good).mono d hs,(RSl.good qac.good).mono c hs⟩ }
theorem info145:(Tryz.prog.info? 145).map (λi=>(i.zero,i.size,i.bytes))=some (some (.agg #[.slice none 0 0,.slice none 0 0]),2,48):=by kernel_rfl
end
section
open Go.Shelf
def qgq (s:Sy) (t:Te) (n:Int):Bool:=if n=1 then qi8 s t else if n=2 then qbz s t else qhu s t
def qf9 (s:Sy) (t:Te):List Int:=[1,2,3].filter (qgq s t)
def qea (s:Sy) (t:Te) (seen:List Nat):List Int:=(seen.map λi:Nat=>(i:Int)+1).filter (qgq s t)
theorem sortI_of {xs l:List Int} (c:xs.Perm l) (hs:Srt qai l):qdp xs=l:=by
 refine qqp ordI ((qh6 xs).trans c) ?_ hs;have h:=qjf xs
 exact h.imp λ{a b} h=>by
  have d:a<=b:=h;unfold qai
  split
  .omega
  split <;> omega
theorem outV_all (s:Sy) (t:Te) (c:List Nat) (hn:c.Nodup) (m:∀x∈c,x<3) (u:∀i,i<3->i∈c):qdp (qea s t c)=qf9 s t:=by
 refine sortI_of ?_ ?_
 .have A:c.Perm [0,1,2]:=by
   rw[List.perm_ext_iff_of_nodup hn (by decide)];intro x
   constructor
   .intro d;have:=m x d
    simp
    omega
   intro d;refine u x ?_;simp at d;omega
  exact(A.map _).filter _
 exact List.Pairwise.filter _ (show Srt qai [1,2,3] from by unfold Srt;decide)
theorem seen_len {c:List Nat} (hn:c.Nodup) (m:∀x∈c,x<3):c.length<=3:=by
 have u:c.Perm ([0,1,2].filter λx=>decide (x∈c)):=by
  rw[List.perm_ext_iff_of_nodup hn (List.Pairwise.filter _ (by decide))];intro x
  constructor
  .intro d;have:=m x d;simp[d];omega
  intro d;simpa using (List.mem_filter.1 d).2
 rw[u.length_eq];exact List.length_filter_le _ _
theorem VM_left {c:List Nat} (h:(leftOf VM c.toArray).size=0):∀i,i<3->i∈c:=by
 intro i hi;have d:leftOf VM c.toArray = #[]:=Array.eq_empty_of_size_eq_zero h;unfold leftOf at d;rw[Array.filter_eq_empty_iff]at d
 match i,hi with
 | 0,_=>simpa using d { key:=.int .i64 1,val:=.func (.func 168) #[] #[],born:=0 } (by simp[VM])
 | 1,_=>simpa using d { key:=.int .i64 2,val:=.func (.func 170) #[] #[],born:=1 } (by simp[VM])
 | 2,_=>simpa using d { key:=.int .i64 3,val:=.func (.func 171) #[] #[],born:=2 } (by simp[VM])
theorem VM_at (s:Sy) (A:qah s) (g:Nat) (t:Te) (v u:Value) (hn:NTe t) (m:List Nat) (e:MapEntry) (D:e∈(leftOf VM m.toArray).toList) :
  ∃i f:Nat,i<3/\i∉m/\e={ key:=.int .i64 ((i:Int)+1),val:=.func (.func f) #[] #[],born:=i }/\(∀args w,(callFunc f args).run Tryz.prog w = .ok (.enter f args) w) /\
   ∀w,qaz (λ_=>True) w g s->qaa (λ_=>True) w t.tr [v]->qaa (λ_=>True) w t.mu [u]->Calls Tryz.prog f #[.pointer (some ⟨g,0,none⟩),.agg #[v,u]] w λe w'=>e = .returned (.bool (qgq s t ((i:Int)+1)))/\Ext w w':=by
 simp only[leftOf,Array.mem_toList_iff,Array.mem_filter]at D;obtain⟨d,c⟩:=D;simp only[VM,List.mem_toArray,List.mem_cons,List.not_mem_nil,or_false]at d
 rcases d with rfl | rfl | rfl
 .exact ⟨0,168,by decide,by simpa using c,rfl,enters_of Tryz.func168 (by kernel_rfl) rfl,λw hS d c=>pass_c _ s A g t v u w hS d c hn.1 hn.2⟩
 .exact ⟨1,170,by decide,by simpa using c,rfl,enters_of Tryz.func170 (by kernel_rfl) rfl,λw hS d c=>fail_c _ s A g t v u w hS d c hn.1 hn.2⟩
 exact⟨2,171,by decide,by simpa using c,rfl,enters_of Tryz.func171 (by kernel_rfl) rfl,λw hS d c=>open_c _ s A g t v u w hS d c hn.1⟩
theorem VM_next (s:Sy) (U:qah s) (g:Nat) (t:Te) (v u:Value) (hn:NTe t) (w W:World) (r m:Nat) (c:List Nat) (X:TypeId) (hE:Ext w W) (hr:w.heap.size<=r) (hi:W.heap[r]? = some (.mapIter (some m) 3 c.toArray 3)) (I:W.heap[m]? = some (.map VM 3)) :
  ((∀i,i<3->i∈c)/\(Instr.next (.pointer (some ⟨r,0,none⟩)) false X).run Tryz.prog W = .ok (.tuple #[.bool false]) W) \/
  ∃(i f:Nat) (W':World),i<3/\i∉c/\(∀args w,(callFunc f args).run Tryz.prog w = .ok (.enter f args) w) /\
   (Instr.next (.pointer (some ⟨r,0,none⟩)) false X).run Tryz.prog W = .ok (.tuple #[.bool true,.int .i64 ((i:Int)+1),.func (.func f) #[] #[]]) W' /\
   (Instr.entry (.pointer (some ⟨r,0,none⟩))).run Tryz.prog W' = .ok (.tuple #[.int .i64 ((i:Int)+1),.func (.func f) #[] #[]]) W' /\
   (∀w,qaz (λ_=>True) w g s->qaa (λ_=>True) w t.tr [v]->qaa (λ_=>True) w t.mu [u]->Calls Tryz.prog f #[.pointer (some ⟨g,0,none⟩),.agg #[v,u]] w λe w'=>e = .returned (.bool (qgq s t ((i:Int)+1)))/\Ext w w') /\
   Bt (λq=>q=r) W W'/\W'.heap.size=W.heap.size/\W'.heap[r]? = some (.mapIter (some m) 3 (c++[i]).toArray 3):=by
 rcases run_next_at (P:=Tryz.prog) W X r m 3 3 c.toArray VM 3 hi I (by decide) (Nat.le_refl _) with⟨h0,h1⟩ | ⟨e,J,D,G,F⟩
 .exact .inl ⟨VM_left h0,h1⟩
 right
 obtain⟨i,f,L,hs,rfl,Y,hc⟩:=VM_at s U g t v u hn c e J;have V:r<W.heap.size:=(Array.getElem?_eq_some_iff.1 hi).1;have d:D.heap=W.heap:=by rcases G with rfl | rfl <;> rfl
 have A:D.os=W.os/\D.tape=W.tape/\D.output=W.output:=by rcases G with rfl | rfl <;> exact⟨rfl,rfl,rfl⟩
 have O:m≠r:=by
  rintro rfl;rw[hi]at I
  cases I
 have E:(ChangeMaps.setBlock D r (.mapIter (some m) 3 (c.toArray.push i) 3)).heap[r]? = some (.mapIter (some m) 3 (c.toArray.push i) 3):=by
  simp[ChangeMaps.setBlock,d,V]
 have N:(ChangeMaps.setBlock D r (.mapIter (some m) 3 (c.toArray.push i) 3)).heap[m]? = some (.map VM 3):=by
  rw[<- I];simp[ChangeMaps.setBlock,d,Array.getElem?_setIfInBounds,Ne.symm O]
 refine⟨i,f,_,L,hs,Y,F,run_entry_at _ r m 3 c.toArray VM 3 { key:=.int .i64 ((i:Int)+1),val:=.func (.func f) #[] #[],born:=i } E N ?_ (by decide),hc,⟨A.1,A.2.1,A.2.2,by simp[ChangeMaps.setBlock,d],λk hk M=>?_⟩,by simp[ChangeMaps.setBlock,d],?_⟩
 .simp only[leftOf,Array.mem_toList_iff,Array.mem_filter]at J;simpa using J.1
 .have:r≠k:=λe=>M e.symm
  simp[ChangeMaps.setBlock,d,Array.getElem?_setIfInBounds,this]
 rw[E]
 simp
theorem rsl_oneTe {S:Nat->Prop} {w:World} {t:Te} {v u:Value} (c:RTe S w t [v,u]) {n:Nat} (hn:n=w.heap.size) (hS:S w.heap.size):RSl RTe 2 S (w.alloc (.cells #[v,u] 40)) [t] [.slice (some ⟨n,0,none⟩) 1 1]:=by
 subst hn;exact⟨_,1,rfl,by simp,by decide,.inr ⟨w.heap.size,0,rfl,by simp,hS,⟨[v,u],rfl,RTe.good.bel c ((Ext.refl w).alloc _),λi x h=>by have:=qe7 w #[v,u] 40 i x h;rwa [Addr.add_lit]at this⟩,trivial⟩⟩
open Classical in
noncomputable def qfo (s:Sy) (t:Te):List Int:=if qal s [t]=0 then qf9 s t else []
def qnn (r:List Int) (err:Int) (w:World) (e:Ending) (w':World):Prop:=∃A c,e = .returned (.tuple #[.slice A r.length c,.int .i64 err])/\qab qad 1 3 w.heap.size (λ_=>False) w' r (.slice A r.length c)/\Ext w w'
theorem qyn (S:Nat->Prop) (s:Sy) (cs aq:List Value) (t:Te) (w:World) (hx:RSy S w s cs) (ht:RTe S w t aq) :
  Calls Tryz.prog 31 #[.agg aq.toArray,.agg cs.toArray] w (qnn (qfo s t) (qal s [t]) w):=by
 obtain⟨vt,vu,rfl,am,an⟩:=id ht;have U:=λW (hW:Ext w W) v (O:RSl RTe 2 (λ_=>True) W [t] [v])=>qlx (λ_=>True) s cs [t] v W (RSy.good.bel (RSy.good.mono hx λ_ _ _=>trivial) hW) O
 have aI:=λW (hW:Ext w W) n (hn:n=W.heap.size)=>rsl_oneTe (S:=λ_=>True) (RTe.good.bel (RTe.good.mono ht λ_ _ _=>trivial) hW) hn trivial
 obtain⟨_,vl,ve,rfl,aK,aJ⟩:=id hx;obtain⟨Al,cl,rfl,_,_⟩:=aK.val;obtain⟨Ae,ce,rfl,_,_⟩:=aJ.val;obtain⟨A,c,rfl,hc,a9⟩:=am.val;obtain⟨A',c',rfl,a8,a5⟩:=an.val;have aP:=Hd am;have aN:=Hd an;clear hx ht aK aJ am an
 by_cases J:qal s [t]=0
 case neg =>
  have O:qfo s t=[]:=if_neg J;rw[O];obtain⟨er,ay⟩:=nm (qal s [t]);rw[ay]at U J ⊢;have a7:(er == 0)=false:=beq_eq_false_iff_ne.2 J;clear ay O
  go_enter Tryz.func31,Tryz.ntmps31
  go_wp2_with fail
  refine(U _ bel _ (aI _ bel _ (by simp))).mono ?_;rintro e w1 ⟨_,h1⟩;obtain⟨rfl,ab⟩:=h1 J;have ak:Ext w w1:=bel;clear h1 ab
  go_wp2_with fail
  go_ret2;exact⟨none,0,rfl,qab.nil ..,ak⟩
 have O:qfo s t=qf9 s t:=if_pos J;have aW:=(qdh J).1;have hn:NTe t:=NTe.of_test ((qdh J).2.2 t (by simp));rw[O,J];rw[J]at U;obtain⟨i3,aT,aM⟩:=Option.map_eq_some_iff.1 qnf;simp only[Prod.mk.injEq]at aM;obtain⟨aZ,a0,a1⟩:=aM;clear J O
 go_enter Tryz.func31,Tryz.ntmps31
 go_wp2_with fail
 refine(U _ bel _ (aI _ bel _ (by simp))).mono ?_;rintro e w1 ⟨h1,_⟩;obtain⟨g,rfl,ab,hg,hS⟩:=h1 rfl;have ak:Ext w w1:=bel;have b1:w1.cell? ⟨w.heap.size,0,none⟩=some (.slice A t.tr.length c):=Ext.keep ab (by go_simp);have b2:w1.cell? ⟨w.heap.size,1,none⟩=some (.slice A' t.mu.length c'):=Ext.keep ab (by go_simp);have HS:=Hd (hS.mono (S':=λ_=>True) λ_ _ _=>trivial);clear h1 ab hg hS U
 go_wp2_with fail
 refine(qv1 _).mono ?_;rintro e E ⟨m,rfl,hm,bd,h2⟩;have ae:=run_range_map (P:=Tryz.prog) E 136 3 138 m VM 3 Tryz.underlying136 hm;have ac:Ext w E:=ak.trans' h2;have b1:=Ext.keep h2 b1;have b2:=Ext.keep h2 b2;have HS:=Hd (HS.out.bel h2);have aB:m<E.heap.size:=(Array.getElem?_eq_some_iff.1 hm).1
 go_wp2_with fail
 have aA:(E.alloc (.mapIter (some m) 3 #[] 3)).heap[E.heap.size]? = some (.mapIter (some m) 3 #[] 3):=World.alloc_heap_new E _;have ax:Ext E (E.alloc (.mapIter (some m) 3 #[] 3)):=(Ext.refl _).alloc _;have aY:(E.alloc (.mapIter (some m) 3 #[] 3)).heap.size=E.heap.size+1:=World.size_alloc ..;have HM:=Hd hm;obtain⟨wa,aL⟩:=nm (E.alloc (.mapIter (some m) 3 #[] 3));rw[aL]at aA ax aY ⊢;clear aL ae hm
 go_loopw [8] (λvo wr=>∃(d:List Nat) (A:Option Addr) (c:Nat),vo = .slice A (qea s t d).length c/\qab qad 1 3 wa.heap.size (λ_=>False) wr (qea s t d) (.slice A (qea s t d).length c)/\Hid (d.Nodup/\(∀x∈d,x<3)/\wr.heap[E.heap.size]? = some (.mapIter (some m) 3 d.toArray 3))/\Ext E wr/\wa.heap.size<=wr.heap.size) (λ_ wr=>match wr.heap[E.heap.size]? with | some (.mapIter _ _ d _)=>([0,1,2].filter λi=>decide (i∉d.toList)).length | _=>0)
 case atStart=>exact⟨[],none,0,rfl,qab.nil ..,⟨List.nodup_nil,by simp,aA⟩,ax,Nat.le_refl _⟩
 obtain⟨d,Ar,cr,rfl,aj,u,J,be⟩:=hrel;have HO:=Hd aj;clear aj
 rcases VM_next s aW g t (.slice A t.tr.length c) (.slice A' t.mu.length c') hn E wr E.heap.size m d 0 J (Nat.le_refl _) u.out.2.2 ((J.block _ aB).trans HM.out) with⟨ag,aV⟩ | ⟨i,f,W3,az,aD,eg,aV,ba,V,ad,a6,aF⟩
 .have Y:Hid (qdp (qea s t d)=qf9 s t):=outV_all s t d u.out.1 u.out.2.1 ag;clear ag;have aU:(qea s t d).length<4611686018427387904:=by rw[<- qnw,Y.out];have:=List.length_filter_le (qgq s t) [1,2,3];simp only[List.length_cons,List.length_nil]at this;show([1,2,3].filter (qgq s t)).length<_;omega
  go_wp2_with fail
  refine(qpk _ _ _ _ wr HO.out aU).mono ?_;rintro e w4 ⟨rfl,aE,aR⟩;have aO:=Hd aE;clear aE
  go_wp2_with fail
  go_ret2;have ai:(qea s t d).length=(qf9 s t).length:=by rw[<- Y.out,qnw]
  refine⟨Ar,cr,by rw[<- ai];rfl,?_,?_⟩
  .rw [<- ai,<- Y.out];exact aO.out.base (by have:=ac.size;omega)
  exact Bt.new (ac.trans' J) aR λk _ hk=>by
   obtain⟨news,h2,_⟩:=HO.out;have:=(qcb h2 k hk).1;have:=ac.size;omega
 have M:Ext E W3:=Bt.new J ad λk _ hk=>by have bb:k=E.heap.size:=hk;omega
 have av:qab qad 1 3 wa.heap.size (λ_=>False) W3 (qea s t d) (.slice Ar (qea s t d).length cr):=HO.out.keep qad.good (λk hk h=>ad.block k hk (by have:=h.resolve_left id;omega)) ad.size;have ao:=Hd av;have aS:=V;have x1:=Ext.keep M b1;have x2:=Ext.keep M b2;have aw:Ext w W3:=ac.trans' M;have F:=λX (hX:Ext W3 X)=>V X (HS.out.bel (M.trans' hX)) (qaa.good.bel (qaa.good.mono aP.out λ_ _ _=>trivial) (aw.trans' hX)) (qaa.good.bel (qaa.good.mono aN.out λ_ _ _=>trivial) (aw.trans' hX))
 have N:qea s t (d++[i])=if qgq s t ((i:Int)+1) then qea s t d++[(i:Int)+1] else qea s t d:=by
  unfold qea;rw[List.map_append,List.filter_append];simp only[List.map_cons,List.map_nil,List.filter_cons,List.filter_nil]
  split <;> simp
 have aa:=Hd aF
 have aC:Hid ((([0,1,2].filter λj=>decide (j∉(d++[i]).toArray.toList)).length<([0,1,2].filter λj=>decide (j∉d.toArray.toList)).length)) :=
  qmm (λj=>decide (j∉(d++[i]).toArray.toList)) (λj=>decide (j∉d.toArray.toList)) (λx hx=>by
   simp at hx ⊢;exact hx.1) [0,1,2] i (by simp;omega) (by simp) (by simpa using aD)
 have af:=Hd (show(d++[i]).Nodup/\∀x∈d++[i],x<3 from⟨by
  rw[List.nodup_append];exact⟨u.out.1,by simp,by intro x hx y hy;simp at hy;subst hy;exact λe=>aD (e ▸ hx)⟩,λx hx=>by
  rcases List.mem_append.1 hx with h | h
  .exact u.out.2.1 x h
  rw[List.mem_singleton.1 h];exact az⟩)
 have hI:I64 ((i:Int)+1):=⟨by omega,by omega⟩
 have bc:(qea s t d).length<=3:=by have:=seen_len u.out.1 u.out.2.1;unfold qea;exact Nat.le_trans (List.length_filter_le _ _) (by simpa using this)
 have aH:=Hd u.out.2.2;clear aS V u ad aF av
 cases O:qgq s t ((i:Int)+1) with
 | false =>
  rw[O]at F N;have I:Hid (qea s t (d++[i])=qea s t d):=by show _=_;rw[N];rfl
  clear N O
  go_wp2_with fail
  refine(F _ bel).mono ?_;rintro e w4 ⟨rfl,h4⟩;have a2:=h4.size
  go_wp2_with fail
  go_roundw
  case rel=>exact⟨d++[i],Ar,cr,by rw[I.out],by rw[I.out];exact ao.out.ext qad.good h4,⟨af.out.1,af.out.2,(h4.block _ (by omega)).trans aa.out⟩,M.trans' h4,by omega⟩
  rw[(h4.block _ (by omega)).trans aa.out,aH.out];exact aC.out
 | true =>
  rw[O]at F N;have I:Hid (qea s t (d++[i])=qea s t d++[(i:Int)+1]):=by show _=_;rw[N];rfl
  clear N O
  go_wp2_with fail
  refine(F _ bel).mono ?_;rintro e w4 ⟨rfl,h4⟩;have a2:=h4.size;obtain⟨a4,G,au⟩:=ao.out.ext qad.good (h4.alloc (.cells #[.int .i64 ((i:Int)+1)] 3));have HF:=Hd au;clear au
  go_wp2_with (at_builtin;refine wpList_append_own_at _ rfl _ _ 53 rfl wa.heap.size 3 i3 (.int .i64 0) 1 8 Tryz.underlying53 aT aZ a0 a1 rfl (by decide) _ _ _ rfl G ⟨w4.heap.size,0,none⟩ 1 1 [.int .i64 ((i:Int)+1)] rfl rfl (cell_one_new _ _ _) (by simp[Value.oneCell']) (by unfold maxLen;omega) (by omega) (by simp;omega) ?_;intro v5 w5 L D al ah;obtain⟨g5,c5,rfl⟩:=ownsRow_succ L)
  have aX:=Hd (qab.push qad.good HF.out (Flat.single (⟨rfl,hI⟩:qad _ _ ((i:Int)+1) _) rfl) L D ah);have aQ:Ext E w5:=Below.grown ((M.trans' h4).alloc _) D (by simp;omega) λq hq=>by have:=(qcb G q hq).1;omega
  have aG:w5.heap[E.heap.size]? = some (.mapIter (some m) 3 (d++[i]).toArray 3):=(D.block _ (by simp;omega) (λe=>by have:=(qcb G _ e.symm).1;omega)).trans ((Below.heap_alloc _ _ _ (by omega)).trans ((h4.block _ (by omega)).trans aa.out));have a3:=D.size;have ap:=Hd aG;clear L D ah al G aG
  go_wp2_with fail
  go_roundw
  case rel=>exact⟨d++[i],some ⟨g5,0,none⟩,c5,by rw[I.out,List.length_append];rfl,by rw[I.out,List.length_append];exact aX.out,⟨af.out.1,af.out.2,ap.out⟩,aQ,by simp at a3;omega⟩
  rw[ap.out,aH.out];exact aC.out
end
section
open Go.Shelf
open Classical in
noncomputable def qdo (s:Sy) (ts:List Te):List Int:=if qal s ts=0 then qg2 s ts else []
theorem qt4 (S:Nat->Prop) (s:Sy) (cs:List Value) (ts:List Te) (v:Value) (w:World) (hx:RSy S w s cs) (ht:RSl RTe 2 S w ts [v]) :
  Calls Tryz.prog 53 #[.agg cs.toArray,v] w (qnn (qdo s ts) (qal s ts) w):=by
 have aU:=λW (hW:Ext w W)=>qlx S s cs ts v W (RSy.good.bel hx hW) ((RSl.good RTe.good).bel ht hW)
 obtain⟨_,vl,ve,rfl,cp,ak⟩:=id hx;obtain⟨Al,cl,rfl,_,_⟩:=cp.val;obtain⟨Ae,ce,rfl,_,_⟩:=ak.val;obtain⟨A,c,rfl,hc,dq⟩:=ht.val;have HT:=Hd ht;clear hx ht cp ak
 by_cases hE:qal s ts=0
 case neg =>
  have hv:qdo s ts=[]:=if_neg hE;rw[hv];obtain⟨er,ca⟩:=nm (qal s ts);rw[ca]at aU hE ⊢;have dn:(er == 0)=false:=beq_eq_false_iff_ne.2 hE;clear ca hv
  go_enter Tryz.func53,Tryz.ntmps53
  go_wp2_with fail
  refine(aU _ bel).mono ?_;rintro e w1 ⟨_,h1⟩;obtain⟨rfl,bO⟩:=h1 hE;have bc:Ext w w1:=bel;clear h1 bO
  go_wp2_with fail
  go_ret2;exact⟨none,0,rfl,qab.nil ..,bc⟩
 have hv:qdo s ts=qg2 s ts:=if_pos hE;have aH:=(qdh hE).1;have dj:=(qdh hE).2.1;have hn:∀t∈ts,NTe t:=λt h=>NTe.of_test ((qdh hE).2.2 t h)
 rw[hv,hE];rw[hE]at aU;clear hE hv;have bK:=λW g (hg:qaz (λ_=>True) W g s)=>qsk (λ_=>True) s g W hg (by have:=aH.2.2.1;omega) (by have:=aH.2.2.2.1;omega)
 obtain⟨i3,cW,cv⟩:=Option.map_eq_some_iff.1 qnf;simp only[Prod.mk.injEq]at cv;obtain⟨da,db,dc⟩:=cv;obtain⟨i5,cX,ct⟩:=Option.map_eq_some_iff.1 info145;simp only[Prod.mk.injEq]at ct;obtain⟨c6,c7,c9⟩:=ct
 go_enter Tryz.func53,Tryz.ntmps53
 go_wp2_with fail
 refine(aU _ bel).mono ?_;rintro e w1 ⟨h1,_⟩;obtain⟨g,rfl,bO,hg,hS⟩:=h1 rfl;have bc:Ext w w1:=bel;have HS:=Hd (hS.mono (S':=λk=>k<w1.heap.size) λk h _=>h);have cH:=Hd ((RSl.good RTe.good).mono HT.out (S':=λk=>k<w1.heap.size) λb hb _=>by have:=bc.size;omega);have bC:=Hd bc;clear h1 bO hg hS aU
 go_wp2_with fail
 go_loopw [8,34] (λve vi wr=>∃(k:Nat) (A:Option Addr) (c:Nat),k<=ts.length/\vi = .int .i64 k/\ve = .slice A (qa1 s (ts.take k)).length c/\qab qfa 2 145 w1.heap.size (λb=>b<wr.heap.size) wr (qa1 s (ts.take k)) (.slice A (qa1 s (ts.take k)).length c)/\Hid (Ext w1 wr)) (λ_ vi _=>ts.length-(intOf vi).toNat)
 case atStart=>exact⟨0,none,0,Nat.zero_le _,rfl,rfl,qab.nil ..,Ext.refl _⟩
 obtain⟨k,Ar,cr,hk,rfl,rfl,ag,hE⟩:=hrel;have HO:=Hd ag;have cd:(qa1 s (ts.take k)).length<=4000:=by simp[qa1];omega
 have ay:∀q,(Value.slice Ar (qa1 s (ts.take k)).length cr).ownBlock=some q->w1.heap.size<=q/\q<wr.heap.size:=λq hq=>by obtain⟨news,h2,_⟩:=ag;exact qcb h2 q hq
 clear ag
 by_cases F:k<ts.length
 .obtain ⟨b,dA,cs,rfl,hb,cT,hl,hr,aZ⟩:=((RSl.good RTe.good).bel cH.out (bC.out.trans' hE.out)).get k F;obtain⟨v0,v1,rfl,bG,bH⟩:=id hr;obtain⟨a0,a1⟩:=g2 aZ;have ch:=hn _ (List.getElem_mem F);have b8:=λX (hX:Ext wr X) base c0 u1 u2 hb hr=>qtg (λk=>k<w1.heap.size) s aH g ts[k] c0 base u1 u2 v0 v1 X (HS.out.bel (hE.out.trans' hX)) hr (λq (hq:q<w1.heap.size)=>Nat.lt_of_lt_of_le hq hb) (qaa.good.bel bG hX) (qaa.good.bel bH hX)
  obtain⟨B0,d0,rfl,_,_⟩:=bG.val;obtain⟨B1,d1,rfl,_,_⟩:=bH.val;have ah:qa1 s (ts.take (k+1))=qa1 s (ts.take k)++[qa9 s ts[k] (cv0 s)]:=by rw[qa1,List.take_succ_eq_append_getElem F,List.map_append];rfl
  have aK:=Hd ah;have dw:=hE.out.size;clear bG bH hr hl aZ cT ah
  go_wp2_with fail
  refine(bK _ g ((HS.out.mono λ_ _ _=>trivial).bel (hE.out.trans' bel))).mono ?_;rintro e w2 ⟨u1,u2,rfl,ai,aj,aV,h2⟩;obtain⟨A1,k1,rfl,_,_⟩:=(ai.sl qac.good (by decide)).val;obtain⟨A2,k2,rfl,_,_⟩:=(aj.sl qac.good (by decide)).val;have x0:w2.cell? ⟨wr.heap.size,0,none⟩=some (.slice B0 ts[k].tr.length d0):=Ext.keep h2 (by go_simp);have x1:w2.cell? ⟨wr.heap.size,1,none⟩=some (.slice B1 ts[k].mu.length d1):=Ext.keep h2 (by go_simp);have b2:Ext wr (wr.alloc (.cells #[.slice B0 ts[k].tr.length d0,.slice B1 ts[k].mu.length d1] 40)):=(Ext.refl wr).alloc _;obtain⟨WB,bE⟩:=nm (wr.alloc (.cells #[.slice B0 ts[k].tr.length d0,.slice B1 ts[k].mu.length d1] 40));have df:WB.heap.size=wr.heap.size+1:=by rw[<- bE];simp
  rw[bE]at h2 ai aj b2;clear bE;have aT:Ext wr w2:=b2.trans' h2;have aA:RCv WB.heap.size w2 (cv0 s) (.slice A1 (List.replicate s.ls.length false).length k1) (.slice A2 (List.replicate s.es.length false).length k2):=⟨ai,aj,aV⟩
  have aB:∀q,ZCv (.slice A1 (List.replicate s.ls.length false).length k1) (.slice A2 (List.replicate s.es.length false).length k2) q->WB.heap.size<=q/\q<w2.heap.size:=λq h=>by
   rcases h with h | h
   .exact qg1 ai h
   exact qg1 aj h
  simp only[List.length_replicate]at aA aB ⊢;have bB:=Hd aA;have aO:=Hd aB;have c4:=h2.size;have dt:wr.heap.size<w2.heap.size:=by omega
  clear ai aj aV aA aB
  go_wp2_with fail
  have bd:Ext w2 (w2.alloc (.cells #[.slice A1 s.ls.length k1,.slice A2 s.es.length k2] 145)):=(Ext.refl _).alloc _;refine(b8 _ (aT.trans' bd) WB.heap.size (cv0 s) _ _ (by omega) (bB.out.ext bd) (by simp[cv0]) (by simp[cv0]) ch.1 ch.2).mono ?_;rintro e w5 ⟨rfl,bM,aL⟩;have cg:¬ ZCv (.slice A1 s.ls.length k1) (.slice A2 s.es.length k2) w2.heap.size:=λh=>by have:=aO.out _ h;omega
  have q0:w5.cell? ⟨w2.heap.size,0,none⟩=some (.slice A1 s.ls.length k1):=aL.cell (by go_simp) cg;have q1:w5.cell? ⟨w2.heap.size,1,none⟩=some (.slice A2 s.es.length k2):=aL.cell (by go_simp) cg;have aS:Ext wr w5:=Bt.new (aT.trans' bd) aL λi _ h=>by have:=(aO.out i h).1;omega
  have dy:w2.heap.size+1<=w5.heap.size:=by have:=aL.size;simp at this;omega
  have cR:qab qfa 2 145 w1.heap.size (λb=>b<w5.heap.size) (w5.alloc (.cells #[.slice A1 s.ls.length k1,.slice A2 s.es.length k2] 145)) (qa1 s (ts.take k)) (.slice Ar (qa1 s (ts.take k)).length cr) :=
   ((((HO.out.ext qfa.good (aT.trans' bd)).bt qfa.good aL λb _ hz=>by
    have h1:=(aO.out b hz).1
    exact⟨by omega,λe=>by have:=(ay b e).2;omega⟩).mono qfa.good (T':=λb=>b<w5.heap.size) λb _ h=>by omega).ext qfa.good ((Ext.refl _).alloc _))
  obtain⟨news,an,hF⟩:=cR;have HF:=Hd hF
  have hy:qfa (λb=>b<w5.heap.size/\(Value.slice Ar (qa1 s (ts.take k)).length cr).ownBlock≠some b) (w5.alloc (.cells #[.slice A1 s.ls.length k1,.slice A2 s.es.length k2] 145)) (qa9 s ts[k] (cv0 s)) [.slice A1 s.ls.length k1,.slice A2 s.es.length k2]:=by
   refine⟨_,_,rfl,(RSl.good qac.good).bel ((RSl.good qac.good).mono (bM.l.sl qac.good (by decide)) λb hb h=>⟨hb,λe=>?_⟩) ((Ext.refl _).alloc _),(RSl.good qac.good).bel ((RSl.good qac.good).mono (bM.e.sl qac.good (by decide)) λb hb h=>⟨hb,λe=>?_⟩) ((Ext.refl _).alloc _)⟩
   .have:=(ay b e).2;have:=h.resolve_left id;omega
   have:=(ay b e).2;have:=h.resolve_left id;omega
  have HY:=Hd hy;have b7:=qe7 w5 #[.slice A1 s.ls.length k1,.slice A2 s.es.length k2] 145;clear bM aL hF hy b8 x0 x1
  go_wp2_with (at_builtin;refine wpList_append_own_at _ rfl _ _ 149 rfl w1.heap.size 145 i5 _ 2 48 Tryz.underlying149 cX c6 c7 c9 rfl (by decide) _ _ _ rfl an ⟨w5.heap.size,0,none⟩ 1 1 [.slice A1 s.ls.length k1,.slice A2 s.es.length k2] rfl rfl b7 (by simp[Value.oneCell']) (by unfold maxLen;omega) (by omega) (by simp;omega) ?_;intro v8 w8 L D aG au;obtain⟨g8,c8,rfl⟩:=ownsRow_succ L)
  have bj:=(qab.push qfa.good HF.out (Flat.single HY.out rfl) L D au)
  have b1:Ext w1 w8:=Below.grown ((hE.out.trans' aS).alloc _) D (by simp;omega) λq hq=>(ay q hq).1
  have dz:=D.size;have cE:=Hd (bj.mono qfa.good (T':=λb=>b<w8.heap.size) λb hb _=>hb);have cK:=Hd b1;clear L D au aG an b7 bj b1
  go_wp2_with fail
  go_roundw
  case rel=>exact⟨k+1,some ⟨g8,0,none⟩,c8,by omega,by go_num,by rw[aK.out,List.length_append];rfl,by rw[aK.out,List.length_append];exact cE.out,cK.out⟩
  simp[intOf];omega
 obtain rfl:k=ts.length:=by omega
 rw[List.take_length]at HO ay cd ⊢;obtain⟨d,ao⟩:=nm (qa1 s ts);have cA:=Hd (show qg2 s ts=qdp (qe5 d (s.ls.length+s.es.length+1) (cv0 s) []) from by rw[qg2,ao])
 have b9:∀c∈d,c.l.length=s.ls.length/\c.e.length=s.es.length:=λc hc=>by
  rw[<- ao]at hc;obtain⟨t,_,rfl⟩:=List.mem_map.1 hc;have:=qmi s t (cv0 s);simpa[cv0]using this
 rw[ao]at HO ay cd ⊢;have bT:=Hd ((RSl.good qfa.good).mono (HO.out.sl qfa.good (by decide)) (S':=λb=>b<wr.heap.size) λb hb _=>hb);obtain⟨we,cq⟩:=nm (wr);rw[cq]at HO ay bT hE ⊢;have bU:=Hd b9;have dl:=hE.out.size;clear cq ao b9 HO ay;have dg:=bC.out.size
 go_wp2_with fail
 refine(bK _ g ((HS.out.mono λ_ _ _=>trivial).bel hE.out)).mono ?_;rintro e w2 ⟨u1,u2,rfl,ai,aj,aV,h2⟩;obtain⟨A1,k1,rfl,_,_⟩:=(ai.sl qac.good (by decide)).val;obtain⟨A2,k2,rfl,_,_⟩:=(aj.sl qac.good (by decide)).val;have aA:RCv we.heap.size w2 (cv0 s) (.slice A1 (List.replicate s.ls.length false).length k1) (.slice A2 (List.replicate s.es.length false).length k2):=⟨ai,aj,aV⟩
 have aB:∀q,ZCv (.slice A1 (List.replicate s.ls.length false).length k1) (.slice A2 (List.replicate s.es.length false).length k2) q->we.heap.size<=q/\q<w2.heap.size:=λq h=>by
  rcases h with h | h
  .exact qg1 ai h
  exact qg1 aj h
 simp only[List.length_replicate]at aA aB ⊢;have bB:=Hd aA;have aO:=Hd aB;have bY:=Hd h2;have c4:=h2.size;clear ai aj aV aA aB h2 bK
 go_wp2_with fail
 obtain⟨wA,aM⟩:=nm (w2.alloc (.cells #[.slice A1 s.ls.length k1,.slice A2 s.es.length k2] 145));have bF:Ext w2 wA:=by rw[<- aM];exact(Ext.refl _).alloc _
 have b3:wA.cell? ⟨w2.heap.size,0,none⟩=some (.slice A1 s.ls.length k1):=by subst aM;go_simp
 have b4:wA.cell? ⟨w2.heap.size,1,none⟩=some (.slice A2 s.es.length k2):=by subst aM;go_simp
 have dp:w2.heap.size<wA.heap.size:=by rw[<- aM];simp
 rw[aM];clear aM;obtain⟨Za,bf⟩:∃Za:Nat->Prop,Za=ZCv (.slice A1 s.ls.length k1) (.slice A2 s.es.length k2):=⟨_,rfl⟩
 have bm:=Hd ((RSl.good qfa.good).bel bT.out (bY.out.trans' bF));have bo:=Hd (bY.out.trans' bF);have cS:=bB.out.ext bF;have U:=Hd (show ∀q,Za q->we.heap.size<=q/\q<w2.heap.size from λq h=>aO.out q (by rw[<- bf];exact h))
 go_loopw [13] (λvo wr=>∃(E:List Int) (A:Option Addr) (c:Nat) (u:Cv),vo = .slice A E.length c/\qab qad 1 3 wA.heap.size (λ_=>False) wr E (.slice A E.length c)/\RCv we.heap.size wr u (.slice A1 s.ls.length k1) (.slice A2 s.es.length k2)/\Hid (Bt Za wA wr) /\
  Hid (qe5 d (s.ls.length+s.es.length+1-E.length) u E=qe5 d (s.ls.length+s.es.length+1) (cv0 s) []/\u.l.length=s.ls.length/\u.e.length=s.es.length)/\E.length+potN u<=s.ls.length+s.es.length) (λvo _=>s.ls.length+s.es.length+1-(match vo with | .slice _ n _=>n | _=>0))
 case atStart=>exact⟨[],none,0,cv0 s,rfl,qab.nil ..,cS,Bt.refl _ _,⟨rfl,by simp[cv0],by simp[cv0]⟩,by rw[qne];simp⟩
 obtain⟨E,Ao,co,u,rfl,ag,cn,aC,bi,dk⟩:=hrel;have bA:=Hd ag;have az:=Hd cn;have a7:∀q,(Value.slice Ao E.length co).ownBlock=some q->wA.heap.size<=q/\q<wr.heap.size:=λq hq=>by obtain⟨news,h2,_⟩:=ag;exact qcb h2 q hq
 have q0:=aC.out.cell b3 (λh=>by have:=U.out _ h;simp at this);have q1:=aC.out.cell b4 (λh=>by have:=U.out _ h;simp at this);have c5:=aC.out.size;obtain⟨wb,bx⟩:=nm (wr);rw[bx]at bA az a7 q0 q1 c5 aC ⊢;have bz:=Hd a7;clear bx ag cn a7
 go_wp2_with fail
 go_loopw [14,15,53] (λvb vg vi wr=>∃(i:Nat) (p:Int×Nat),i<=d.length/\vi = .int .i64 i/\vb = .int .i64 p.1/\vg = .int .i64 (p.2:Int)/\Hid (Ext wb wr)/\Hid (qfi u (d.drop i) i p=qhs u d)/\p.2<=200000) (λ_ _ vi _=>d.length-(intOf vi).toNat)
 case atStart=>exact⟨0,(-1,0),Nat.zero_le _,rfl,rfl,rfl,Ext.refl _,rfl,by decide⟩
 obtain⟨i,p,hi,rfl,rfl,rfl,V,bg,hp⟩:=hrel;have cw:=Ext.keep V.out q0;have cx:=Ext.keep V.out q1
 by_cases F:i<d.length
 .have cc:Kp (λb=>b<we.heap.size) wA wr:=(aC.out.ext V.out).kp λq _ hq hz=>by have:=(U.out q hz).1;omega
  obtain⟨be,oe,cN,rfl,cV,_,bJ,I,aY⟩:=((RSl.good qfa.good).move bm.out cc).get i F;obtain⟨ve,ue,rfl,ak,aJ⟩:=id I;obtain⟨c0,c1⟩:=g2 aY;have a5:=bU.out _ (List.getElem_mem F);have aw:=λX (hX:Ext wr X)=>more_c (λ_=>True) u.l d[i].l _ ve X ((RSl.good qac.good).mono (((az.out.ext V.out).ext hX).l.sl qac.good (by decide)) λ_ _ _=>trivial) ((RSl.good qac.good).mono ((RSl.good qac.good).bel ak hX) λ_ _ _=>trivial) (by rw[bi.out.2.1,a5.1])
  have ax:=λX (hX:Ext wr X)=>more_c (λ_=>True) u.e d[i].e _ ue X ((RSl.good qac.good).mono (((az.out.ext V.out).ext hX).e.sl qac.good (by decide)) λ_ _ _=>trivial) ((RSl.good qac.good).mono ((RSl.good qac.good).bel aJ hX) λ_ _ _=>trivial) (by rw[bi.out.2.2,a5.2])
  obtain⟨Be1,aQ,rfl,_,_⟩:=ak.val;obtain⟨Be2,aR,rfl,_,_⟩:=aJ.val;have a3:=qiq u.l d[i].l;have a4:=qiq u.e d[i].e;rw[a5.1]at a3;rw[a5.2]at a4;have ck:=aH.2.2.1;have cm:=aH.2.2.2.1;have ah:=bg.out;rw[List.drop_eq_getElem_cons F,qfi,qc8]at ah;have dv:=V.out.size;obtain⟨m1,bq⟩:=nm (qb2 u.l d[i].l);obtain⟨m2,br⟩:=nm (qb2 u.e d[i].e);simp only[bq,br]at aw ax a3 a4 ah;have dB:IntKind.i64.wrap ((m1:Int)+(m2:Int))=((m1+m2:Nat):Int):=by rw[IntWalk.i64_in _ (by omega)];omega
  have cZ:m1+m2<=200000:=by omega
  clear ak aJ I bJ aY a5 bq br cc ck cm a3 a4
  by_cases cb:p.2<m1+m2
  .rw [if_pos cb]at ah;have aK:=Hd ah;clear ah bg
   go_wp2_with fail
   obtain⟨W,hW⟩:=nm (wr.alloc (.cells #[.slice Be1 d[i].l.length aQ,.slice Be2 d[i].e.length aR] 145));have ae:Ext wr W:=by rw[<- hW];exact(Ext.refl _).alloc _
   have y0:=Ext.keep ae cw;have y1:=Ext.keep ae cx;have y2:W.cell? ⟨wr.heap.size,0,none⟩=some (.slice Be1 d[i].l.length aQ):=by subst hW;go_simp
   have y3:W.cell? ⟨wr.heap.size,1,none⟩=some (.slice Be2 d[i].e.length aR):=by subst hW;go_simp
   have aE:=λY=>aw (qam W Y) (ae.trans' (qa7 W Y))
   have aF:=λY=>ax (qam W Y) (ae.trans' (qa7 W Y))
   rw[hW];clear hW aw ax
   (refine qap ?_;(repeat (first | go_big_quiet_step ((first | (go_at_call 115;with_reducible exact qbs (aE _)) | (go_at_call 115;with_reducible exact qbs (aF _)))) | quiet_step ((first | (go_at_call 115;with_reducible exact qbs (aE _)) | (go_at_call 115;with_reducible exact qbs (aF _))))));refine wpQuiet_nil ?_)
   intro w5 bP;have aS:=Hd (V.out.trans' (ae.trans' bP));clear aE aF
   go_wp2_with fail
   go_roundw
   case rel=>exact⟨i+1,((i:Int),m1+m2),by omega,by go_num,rfl,by go_num,aS.out,aK.out,cZ⟩
   simp[intOf];omega
  rw[if_neg cb]at ah;have aK:=Hd ah;clear ah bg
  go_wp2_with fail
  obtain⟨W,hW⟩:=nm (wr.alloc (.cells #[.slice Be1 d[i].l.length aQ,.slice Be2 d[i].e.length aR] 145));have ae:Ext wr W:=by rw[<- hW];exact(Ext.refl _).alloc _
  have y0:=Ext.keep ae cw;have y1:=Ext.keep ae cx;have y2:W.cell? ⟨wr.heap.size,0,none⟩=some (.slice Be1 d[i].l.length aQ):=by subst hW;go_simp
  have y3:W.cell? ⟨wr.heap.size,1,none⟩=some (.slice Be2 d[i].e.length aR):=by subst hW;go_simp
  have aE:=λY=>aw (qam W Y) (ae.trans' (qa7 W Y))
  have aF:=λY=>ax (qam W Y) (ae.trans' (qa7 W Y))
  rw[hW];clear hW aw ax
  (refine qap ?_;(repeat (first | go_big_quiet_step ((first | (go_at_call 115;with_reducible exact qbs (aE _)) | (go_at_call 115;with_reducible exact qbs (aF _)))) | quiet_step ((first | (go_at_call 115;with_reducible exact qbs (aE _)) | (go_at_call 115;with_reducible exact qbs (aF _))))));refine wpQuiet_nil ?_)
  intro w5 bP;have aS:=Hd (V.out.trans' (ae.trans' bP));clear aE aF
  go_wp2_with fail
  go_roundw
  case rel=>exact⟨i+1,p,by omega,by go_num,rfl,rfl,aS.out,aK.out,hp⟩
  simp[intOf];omega
 obtain rfl:i=d.length:=by omega
 have bk:p=qhs u d:=by rw[<- bg.out,List.drop_length];rfl
 obtain⟨m,hm⟩:∃m,s.ls.length+s.es.length+1-E.length=m+1:=⟨s.ls.length+s.es.length-E.length,by omega⟩
 have aa:=bi.out.1;rw[hm,qe5,<- bk]at aa;have bh:=qo3 u d;rw[<- bk]at bh;have du:E.length<=200000:=by have:=aH.2.2.1;have:=aH.2.2.2.1;omega
 by_cases a6:p.1<0
 .rw [if_pos a6]at aa;have HF:=Hd (show qdp E=qg2 s ts from by rw[cA.out,<- aa]);clear aa bh bk
  go_wp2_with fail
  refine(qpk _ _ _ _ wr (bA.out.ext qad.good V.out) (by omega)).mono ?_;rintro e w4 ⟨rfl,ci,cU⟩;have cC:=Hd ci;clear ci
  go_wp2_with fail
  go_ret2;have aD:E.length=(qg2 s ts).length:=by rw[<- HF.out,qnw]
  refine⟨Ao,co,by rw[<- aD];rfl,?_,?_⟩
  .rw [<- aD,<- HF.out];exact cC.out.base (by have:=bo.out.size;omega)
  exact Bt.new (bC.out.trans' (hE.out.trans' bo.out)) ((aC.out.ext V.out).tail cU λi hi=>(bz.out i hi).1) λk _ h=>by
   have:=(U.out k h).1;omega
 rw[if_neg a6]at aa;obtain⟨j,hj,bL,dr⟩:=bh.resolve_left λh=>a6 (by rw[h];decide)
 rw[bL]at aa;rw[Int.toNat_natCast,show d.getD j ⟨[],[]⟩=d[j] from by simp[hj]]at aa;have cF:=Hd (qo4 u d[j]);have bS:=Hd (bU.out _ (List.getElem_mem hj));have bR:=Hd aa;rw[bL];have de:=V.out.size;obtain⟨dd,a9,b0⟩:=(bA.out.ext qad.good V.out).ext qad.good ((Ext.refl wr).alloc (.cells #[.int .i64 (j:Int)] 3));have cB:=Hd b0;have hI:I64 (j:Int):=⟨by omega,by omega⟩
 obtain⟨be,oe,cN,bZ,cV,dh,bJ,I,aY⟩:=bm.out.get j hj;obtain rfl:=bZ;obtain⟨ve,ue,rfl,ak,aJ⟩:=id I;obtain⟨cL,cM⟩:=g2 aY;have cJ:=Hd ak;have cI:=Hd aJ;obtain⟨Be1,aQ,rfl,_,_⟩:=ak.val;obtain⟨Be2,aR,rfl,_,_⟩:=aJ.val;have aW:¬ Za be:=λh=>by have:=(U.out _ h).1;omega
 have bs:¬ Za w2.heap.size:=λh=>by have:=U.out _ h;omega
 have bQ:=Hd ((aC.out.ext V.out).alloc (.cells #[.int .i64 (j:Int)] 3));have ds:(j:Int)<(d.length:Int):=by omega
 have di:(0:Int)<=(j:Int):=by omega
 clear aa bh bk bL b0 q0 q1 ak aJ I bJ aY
 go_wp2_with (at_builtin;refine wpList_append_own_at _ rfl _ _ 53 rfl wA.heap.size 3 i3 (.int .i64 0) 1 8 Tryz.underlying53 cW da db dc rfl (by decide) _ _ _ rfl a9 ⟨wr.heap.size,0,none⟩ 1 1 [.int .i64 (j:Int)] rfl rfl (cell_one_new _ _ _) (by simp[Value.oneCell']) (by unfold maxLen;omega) (by omega) (by simp;omega) ?_;intro v8 w8 L D aG au;obtain⟨g8,c8,rfl⟩:=ownsRow_succ L;have am:Bt Za wA w8:=bQ.out.tail (Bt.of_grown D) (λi hi=>(bz.out i hi.symm).1);have c0:=am.cell cL aW;have c1:=am.cell cM aW;have r0:=am.cell b3 bs;have r1:=am.cell b4 bs)
 have bj:=Hd (qab.push qad.good cB.out (Flat.single (⟨rfl,hI⟩:qad _ _ (j:Int) _) rfl) L D au);have cu:=D.size;simp only[World.size_alloc]at cu
 have bu:RCv we.heap.size w8 u (.slice A1 s.ls.length k1) (.slice A2 s.es.length k2):=by
  refine((az.out.ext V.out).ext ((Ext.refl wr).alloc (.cells #[.int .i64 (j:Int)] 3))).keep (Bt.of_grown D) λq hq e=>?_
  have h1:=U.out q (by rw[bf];exact hq);have h2:=(bz.out q e.symm).1;omega
 have a8:∀q,(Value.slice (some ⟨g8,0,none⟩) (E.length+1) c8).ownBlock=some q->wA.heap.size<=q:=λq hq=>by
  have:=(qcb L q hq).1;omega
 have aN:=Hd am;have bn:=Hd bu;have bV:=Hd a8;have al:=Hd bi.out.2;clear L D au aG a9 am bu a8
 go_loopw [90] (λvi wr=>∃i:Nat,i<=d[j].l.length/\vi = .int .i64 i/\RBs we.heap.size wr (orB u.l (d[j].l.take i)) (.slice A1 s.ls.length k1)/\RBs we.heap.size wr u.e (.slice A2 s.es.length k2)/\Hid (Bt Za w8 wr)) (λvi _=>d[j].l.length-(intOf vi).toNat)
 case atStart=>exact⟨0,Nat.zero_le _,rfl,by rw[List.take_zero,qoc];exact bn.out.l,bn.out.e,Bt.refl _ _⟩
 obtain⟨i,hi,rfl,ac,I,M⟩:=hrel;have af:Kp (λb=>b<we.heap.size) wA wr:=(aN.out.trans M.out).kp λq _ hq hz=>by have:=(U.out q hz).1;omega
 have z0:=M.out.cell r0 (λh=>by have:=U.out _ h;simp at this);have z1:=M.out.cell r1 (λh=>by have:=U.out _ h;simp at this)
 by_cases F:i<d[j].l.length
 .have J:i<u.l.length:=by rw[al.out.1,<- bS.out.1];exact F
  obtain⟨gb,aP,bI⟩:=(by obtain⟨news,an,_⟩:=ac;exact Joins.ownsRow_form an (by rw[qgi];omega):∃gb aP,Value.slice A1 s.ls.length k1 = .slice (some ⟨gb,0,none⟩) (orB u.l (d[j].l.take i)).length aP)
  injection bI with hg1 hg2 hg3
  subst hg1;subst hg3;have aI:=qpf u.l d[j].l i J F;have a2:i<(orB u.l (d[j].l.take i)).length:=by rw[qgi];exact J
  have cY:i<s.ls.length:=by rw[<- al.out.1];exact J
  obtain⟨ub,gc,ba,gf⟩:=qab.get1 ac i a2;obtain rfl:ub = .bool (u.l[i]'J):=by rw[<- aI.2];simpa[qac]using ba
  obtain⟨bl,ol,cO,bD,_,b6,_,bN,aX⟩:=((RSl.good qac.good).move cJ.out af).get i F;obtain rfl:=bD;obtain rfl:=bN;have d0:=(by simpa using aX.get 0 _:wr.cell? ⟨bl,ol+i,none⟩=some (.bool (d[j].l[i]'F)))
  have ab:=qab.put1 qac.good ac hg2 i (.bool (u.l[i] || d[j].l[i])) (u.l[i] || d[j].l[i]) a2 rfl;rw[aI.1]at ab;have bb:Za gb:=by rw[bf];exact .inl rfl
  have N:Bt Za w8 (wr.setCell ⟨gb,i,none⟩ (.bool (u.l[i] || d[j].l[i]))):=Bt.set (p:=⟨gb,i,none⟩) M.out (.inr bb) _;have G:RBs we.heap.size (wr.setCell ⟨gb,i,none⟩ (.bool (u.l[i] || d[j].l[i]))) u.e (.slice A2 s.es.length k2):=qe6 I (Bt.set (Z:=λq=>q=gb) (p:=⟨gb,i,none⟩) (Bt.refl _ wr) (.inr rfl) _) λq e e'=>by subst e';exact az.out.ap q rfl e
  obtain⟨x,hx⟩:=nm ((u.l[i]'J));obtain⟨y,hy⟩:=nm ((d[j].l[i]'F));rw[hx,hy]at ab N G;rw[hx]at gc;rw[hy]at d0;have aq:=Hd ab;have ad:=Hd N;have O:=Hd G;have cQ:wr.drew.frozen? ⟨gb,i,none⟩=false:=gf;have cP:wr.drew.cell? ⟨gb,i,none⟩=some (.bool x):=gc;clear ab N G hx hy ba aI ac I aX hg2 af
  cases x <;> cases y
  all_goals go_wp2_with fail
  all_goals go_region
  all_goals go_wp2_with fail
  all_goals go_roundw
  all_goals first
   | exact⟨i+1,by omega,by go_num,by first | exact aq.out | exact aq.out.ext qac.good (Below.drew (Ext.refl _)),by first | exact O.out | exact O.out.ext qac.good (Below.drew (Ext.refl _)),by first | exact ad.out | exact ad.out.drew⟩
   | (simp[intOf];omega)
 have av:i=d[j].l.length:=by omega
 have bw:RBs we.heap.size wr (orB u.l d[j].l) (.slice A1 s.ls.length k1):=by rw[av,List.take_length]at ac;exact ac
 have dm:=M.out.cell c1 aW;have cy:=Hd M.out;have bX:=Hd bw;have bW:=Hd I;clear ac bw I av af M
 go_wp2_with fail
 go_loopw [114] (λvi wr=>∃i:Nat,i<=d[j].e.length/\vi = .int .i64 i/\RBs we.heap.size wr (orB u.l d[j].l) (.slice A1 s.ls.length k1)/\RBs we.heap.size wr (orB u.e (d[j].e.take i)) (.slice A2 s.es.length k2)/\Hid (Bt Za w8 wr)) (λvi _=>d[j].e.length-(intOf vi).toNat)
 case atStart=>exact⟨0,Nat.zero_le _,rfl,bX.out,by rw[List.take_zero,qoc];exact bW.out,cy.out⟩
 obtain⟨i,hi,rfl,ac,I,M⟩:=hrel;have af:Kp (λb=>b<we.heap.size) wA wr:=(aN.out.trans M.out).kp λq _ hq hz=>by have:=(U.out q hz).1;omega
 have z0:=M.out.cell r0 (λh=>by have:=U.out _ h;simp at this);have z1:=M.out.cell r1 (λh=>by have:=U.out _ h;simp at this)
 by_cases F:i<d[j].e.length
 .have J:i<u.e.length:=by rw[al.out.2,<- bS.out.2];exact F
  obtain⟨gb,aP,bI⟩:=(by obtain⟨news,an,_⟩:=I;exact Joins.ownsRow_form an (by rw[qgi];omega):∃gb aP,Value.slice A2 s.es.length k2 = .slice (some ⟨gb,0,none⟩) (orB u.e (d[j].e.take i)).length aP)
  injection bI with hg1 hg2 hg3
  subst hg1;subst hg3;have aI:=qpf u.e d[j].e i J F;have a2:i<(orB u.e (d[j].e.take i)).length:=by rw[qgi];exact J
  have cY:i<s.es.length:=by rw[<- al.out.2];exact J
  obtain⟨ub,gc,ba,gf⟩:=qab.get1 I i a2;obtain rfl:ub = .bool (u.e[i]'J):=by rw[<- aI.2];simpa[qac]using ba
  obtain⟨bl,ol,cO,bD,_,b6,_,bN,aX⟩:=((RSl.good qac.good).move cI.out af).get i F;obtain rfl:=bD;obtain rfl:=bN;have d0:=(by simpa using aX.get 0 _:wr.cell? ⟨bl,ol+i,none⟩=some (.bool (d[j].e[i]'F)))
  have ab:=qab.put1 qac.good I hg2 i (.bool (u.e[i] || d[j].e[i])) (u.e[i] || d[j].e[i]) a2 rfl;rw[aI.1]at ab;have bb:Za gb:=by rw[bf];exact .inr rfl
  have N:Bt Za w8 (wr.setCell ⟨gb,i,none⟩ (.bool (u.e[i] || d[j].e[i]))):=Bt.set (p:=⟨gb,i,none⟩) M.out (.inr bb) _;have G:RBs we.heap.size (wr.setCell ⟨gb,i,none⟩ (.bool (u.e[i] || d[j].e[i]))) (orB u.l d[j].l) (.slice A1 s.ls.length k1):=qe6 ac (Bt.set (Z:=λq=>q=gb) (p:=⟨gb,i,none⟩) (Bt.refl _ wr) (.inr rfl) _) λq e e'=>by subst e';exact az.out.ap q e rfl
  obtain⟨x,hx⟩:=nm ((u.e[i]'J));obtain⟨y,hy⟩:=nm ((d[j].e[i]'F));rw[hx,hy]at ab N G;rw[hx]at gc;rw[hy]at d0;have aq:=Hd ab;have ad:=Hd N;have O:=Hd G;have cQ:wr.drew.frozen? ⟨gb,i,none⟩=false:=gf;have cP:wr.drew.cell? ⟨gb,i,none⟩=some (.bool x):=gc;clear ab N G hx hy ba aI ac I aX hg2 af
  cases x <;> cases y
  all_goals go_wp2_with fail
  all_goals go_region
  all_goals go_wp2_with fail
  all_goals go_roundw
  all_goals first
   | exact⟨i+1,by omega,by go_num,by first | exact O.out | exact O.out.ext qac.good (Below.drew (Ext.refl _)),by first | exact aq.out | exact aq.out.ext qac.good (Below.drew (Ext.refl _)),by first | exact ad.out | exact ad.out.drew⟩
   | (simp[intOf];omega)
 have av:i=d[j].e.length:=by omega
 have bv:RBs we.heap.size wr (orB u.e d[j].e) (.slice A2 s.es.length k2):=by rw[av,List.take_length]at I;exact I
 have b5:Bt Za wA wr:=aN.out.trans M.out;have cj:qab qad 1 3 wA.heap.size (λ_=>False) wr (E++[(j:Int)]) (.slice (some ⟨g8,0,none⟩) (E.length+1) c8):=bj.out.bt qad.good M.out λq _ hz=>⟨id,λe=>by have h1:=bV.out q e;have h2:=U.out q hz;omega⟩
 have bp:RCv we.heap.size wr (orCv u d[j]) (.slice A1 s.ls.length k1) (.slice A2 s.es.length k2):=⟨ac,bv,az.out.ap⟩
 have cz:=Hd b5;have cD:=Hd cj;have cG:=Hd bp;clear ac I bv av af M b5 cj bp
 go_wp2_with fail
 go_roundw
 case rel =>
  have aD:(E++[(j:Int)]).length=E.length+1:=by simp
  refine⟨E++[(j:Int)],some ⟨g8,0,none⟩,c8,orCv u d[j],by rw[aD],by rw[aD];exact cD.out,cG.out,cz.out,⟨?_,?_,?_⟩,?_⟩
  .rw [aD,show s.ls.length+s.es.length+1-(E.length+1)=m from by omega];exact bR.out
  .show (orB _ _).length=_;rw[qgi];exact al.out.1
  .show (orB _ _).length=_;rw[qgi];exact al.out.2
  have:=cF.out;rw[aD];omega
 simp;omega
end
end Go.Proofs.YtegenalcheooeaaGreat
