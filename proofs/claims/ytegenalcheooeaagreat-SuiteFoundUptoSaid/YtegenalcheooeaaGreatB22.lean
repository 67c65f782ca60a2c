/- Of the proof of a law of the suites: More, Choose1, Verdicts, Choose. -/
import Derived.Test.YtegenalcheooeaaGreatB08
import Derived.Test.YtegenalcheooeaaGreatB15
import Derived.Test.YtegenalcheooeaaGreatB17
import Derived.Maps.RangeRun
set_option linter.unusedSectionVars false
set_option linter.unusedSimpArgs false
set_option linter.unusedVariables false
namespace Go.Proofs.YtegenalcheooeaaGreat
open Go.RowKit
attribute [local go_sem] cell?_exto
section
open Go.Shelf
def qdf:List Bool->List Bool->Nat
 | a :: xs,b :: ys=>(if b && !a then 1 else 0)+qdf xs ys
 | _,_=>0
theorem qqn:∀ (xs ys:List Bool) (a b:Bool),xs.length=ys.length->qdf (xs++[a]) (ys++[b])=qdf xs ys+(if b && !a then 1 else 0)
 | [],[],a,b,_=>by simp [qdf]
 | [],_ :: _,_,_,h=>by simp at h
 | _ :: _,[],_,_,h=>by simp at h
 | x :: xs,y :: ys,a,b,h=>by
  simp only [List.cons_append,qdf]
  rw [qqn xs ys a b (by simpa using h)]
  omega
theorem qk2:∀ (xs ys:List Bool),qdf xs ys<=ys.length
 | a :: xs,b :: ys=>by
  have:=qk2 xs ys
  rw [qdf,List.length_cons]
  split <;> omega
 | [],_=>by simp [qdf]
 | _ :: _,[]=>by simp [qdf]
set_option maxHeartbeats 1000000 in
set_option maxRecDepth 100000 in
theorem more_c (S:Nat->Prop) (a b:List Bool) (va vb:Value) (w:World) (ha:RSl qae 1 S w a [va]) (hb:RSl qae 1 S w b [vb]) (hl:a.length=b.length) :
  Calls Tryz.prog 115 #[va,vb] w fun e w'=>e = .returned (.int .i64 (qdf a b:Nat))∧w'=w:=by
 obtain ⟨A,c,rfl,hc,hc0⟩:=ha.val
 obtain ⟨B,d,rfl,hd,hd0⟩:=hb.val
 have HA:=Hd ha
 have HB:=Hd hb
 have HL:=Hd hl
 clear ha hb hl
 go_enter Tryz.func115,Tryz.ntmps115
 go_wp2
 go_loopw [5,10] (fun vn vi wr=>∃ k:Nat,k<=b.length∧vi = .int .i64 k∧vn = .int .i64 ((qdf (a.take k) (b.take k):Nat):Int)∧wr=w) (fun _ vi _=>b.length-(intOf vi).toNat)
 case atStart=>exact ⟨0,Nat.zero_le _,rfl,by simp [qdf],rfl⟩
 case round =>
  obtain ⟨k,hk,rfl,rfl,rfl⟩:=hrel
  by_cases hlt:k<b.length
  ·have hla:k<a.length:=by rw [HL.out];exact hlt
   obtain ⟨b1,o1,cs1,rfl,hb1,_,hl1,hr1,hc1⟩:=HA.out.get k hla
   obtain ⟨b2,o2,cs2,rfl,hb2,_,hl2,hr2,hc2⟩:=HB.out.get k hlt
   obtain rfl:=hr1
   obtain rfl:=hr2
   have s1:=(by simpa using hc1.get 0 _:wr.cell? ⟨b1,o1+k,none⟩=some (.bool a[k]))
   have s2:=(by simpa using hc2.get 0 _:wr.cell? ⟨b2,o2+k,none⟩=some (.bool b[k]))
   have hst:=qqn (a.take k) (b.take k) a[k] b[k] (by rw [List.length_take,List.length_take];omega)
   rw [<- List.take_succ_eq_append_getElem hla,<- List.take_succ_eq_append_getElem hlt] at hst
   have hle:=qk2 (a.take k) (b.take k)
   rw [List.length_take,Nat.min_eq_left (by omega)] at hle
   clear hc1 hc2 hl1 hl2
   cases hq2:b[k] with
   | false =>
    rw [hq2] at s2 hst
    have HST:=Hd hst
    clear hst hq2
    go_wp2_with fail
    go_roundw
    case rel=>exact ⟨k+1,by omega,by go_num,by rw [HST.out];rfl,trivial⟩
    case measure=>simp [intOf];omega
   | true =>
    cases hq1:a[k] with
    | true =>
     rw [hq2] at s2 hst
     rw [hq1] at s1 hst
     have HST:=Hd hst
     clear hst hq2 hq1
     go_wp2_with fail
     go_roundw
     case rel=>exact ⟨k+1,by omega,by go_num,by rw [HST.out];rfl,trivial⟩
     case measure=>simp [intOf];omega
    | false =>
     rw [hq2] at s2 hst
     rw [hq1] at s1 hst
     have HST:=Hd hst
     clear hst hq2 hq1
     go_wp2_with fail
     go_roundw
     case rel=>exact ⟨k+1,by omega,by go_num,by rw [HST.out];go_num,trivial⟩
     case measure=>simp [intOf];omega
  ·have hkb:k=b.length:=by omega
   have HF:=Hd (show qdf (a.take k) (b.take k)=qdf a b from by rw [List.take_of_length_le (by rw [HL.out];omega),List.take_of_length_le (by omega)])
   clear hkb
   go_wp2_with fail
   go_ret
   rw [HF.out]
   exact ⟨rfl,rfl⟩
end
section
open Go.Shelf
def orB:List Bool->List Bool->List Bool
 | a :: xs,b :: ys=>(a || b) :: orB xs ys
 | xs,_=>xs
theorem qg0:∀ (xs ys:List Bool),(orB xs ys).length=xs.length
 | a :: xs,b :: ys=>by simp [orB,qg0 xs ys]
 | [],[]=>rfl
 | [],_ :: _=>rfl
 | _ :: _,[]=>rfl
theorem qor (xs:List Bool):orB xs []=xs:=by cases xs <;> rfl
theorem qom:∀ (xs ys:List Bool) (k:Nat) (h:k<xs.length) (h':k<ys.length),(orB xs (ys.take k)).set k (xs[k] || ys[k])=orB xs (ys.take (k+1))∧(orB xs (ys.take k))[k]'(by rw [qg0];exact h)=xs[k]
 | x :: xs,y :: ys,0,_,_=>by simp [orB,qor]
 | x :: xs,y :: ys,k+1,h,h'=>by
  have:=qom xs ys k (by simpa using h) (by simpa using h')
  simp only [List.take_succ_cons,orB,List.set_cons_succ,List.getElem_cons_succ]
  exact ⟨by rw [this.1],this.2⟩
def falN (xs:List Bool):Nat:=xs.count false
theorem qnh:∀ (xs ys:List Bool),falN (orB xs ys)+qdf xs ys=falN xs
 | x :: xs,y :: ys=>by
  have:=qnh xs ys
  unfold falN at *
  rw [orB,qdf]
  cases x <;> cases y <;> simp <;> omega
 | [],[]=>rfl
 | [],_ :: _=>rfl
 | _ :: _,[]=>rfl
def orCv (a c:Cv):Cv:=⟨orB a.l c.l,orB a.e c.e⟩
def qf1 (a c:Cv):Nat:=qdf a.l c.l+qdf a.e c.e
def qf9 (a:Cv):List Cv->Nat->Int×Nat->Int×Nat
 | [],_,p=>p
 | c :: cs,i,p=>qf9 a cs (i+1) (if p.2<qf1 a c then ((i:Int),qf1 a c) else p)
def qhg (a:Cv) (each:List Cv):Int×Nat:=qf9 a each 0 (-1,0)
theorem qrr (a:Cv) (all:List Cv):∀ (cs:List Cv) (i:Nat) (p:Int×Nat),all.drop i=cs->(p=(-1,0)∨∃ j:Nat,∃ h:j<all.length,p.1=(j:Int)∧0<p.2∧p.2=qf1 a all[j]) ->
  (qf9 a cs i p=(-1,0)∨∃ j:Nat,∃ h:j<all.length,(qf9 a cs i p).1=(j:Int)∧0<(qf9 a cs i p).2∧(qf9 a cs i p).2=qf1 a all[j])
 | [],_,p,_,h=>h
 | c :: cs,i,p,hd,h=>by
  have hi:i<all.length:=by
   by_cases hl:i<all.length
   ·exact hl
   ·rw [List.drop_eq_nil_of_le (by omega)] at hd;cases hd
  have hc:all[i]=c:=by rw [List.drop_eq_getElem_cons hi] at hd;injection hd
  have hd':all.drop (i+1)=cs:=by rw [List.drop_eq_getElem_cons hi] at hd;injection hd
  rw [qf9]
  refine qrr a all cs (i+1) _ hd' ?_
  split
  ·rename_i hg
   exact .inr ⟨i,hi,rfl,by show 0<qf1 a c;omega,by show qf1 a c=_;rw [hc]⟩
  ·exact h
theorem bestOf_ok (a:Cv) (all:List Cv):(qhg a all=(-1,0))∨∃ j:Nat,∃ h:j<all.length,(qhg a all).1=(j:Int)∧0<qf1 a all[j]:=by
 rcases qrr a all all 0 (-1,0) rfl (.inl rfl) with h | ⟨j,h,h1,h2,h3⟩
 ·exact .inl h
 ·exact .inr ⟨j,h,h1,by rw [<- h3];exact h2⟩
def chGo (each:List Cv):Nat->Cv->List Int->List Int
 | 0,_,out=>out
 | f+1,a,out=>if (qhg a each).1<0 then out else chGo each f (orCv a (each.getD (qhg a each).1.toNat ⟨[],[]⟩)) (out++[(qhg a each).1])
def qep (s:Sy) (ts:List Te):List Cv:=ts.map fun t=>qd8 s t (cv0 s)
def potN (a:Cv):Nat:=falN a.l+falN a.e
def qhf (s:Sy) (ts:List Te):List Int:=qda (chGo (qep s ts) (s.ls.length+s.es.length+1) (cv0 s) [])
theorem orCv_pot (a c:Cv):potN (orCv a c)+qf1 a c=potN a:=by
 have h1:=qnh a.l c.l
 have h2:=qnh a.e c.e
 simp only [potN,orCv,qf1]
 omega
theorem cv0_pot (s:Sy):potN (cv0 s)=s.ls.length+s.es.length:=by simp [potN,cv0,falN]
def qej:Rdr Cv:=fun S w c cs=>∃ v u,cs=[v,u]∧RSl qae 1 S w c.l [v]∧RSl qae 1 S w c.e [u]
theorem qej.good:Good qej 2:={
 len:=by rintro S w x cs ⟨v,u,rfl,_⟩;rfl
 one:=by
  rintro S w x cs ⟨v,u,rfl,hv,hu⟩ y hy
  simp at hy
  rcases hy with rfl | rfl
  ·exact hv.oneCell
  ·exact hu.oneCell
 move:=by rintro S w w' x cs ⟨v,u,rfl,hv,hu⟩ hk;exact ⟨v,u,rfl,(RSl.good qae.good).move hv hk,(RSl.good qae.good).move hu hk⟩
 mono:=by rintro S S' w x cs ⟨v,u,rfl,hv,hu⟩ hs;exact ⟨v,u,rfl,(RSl.good qae.good).mono hv hs,(RSl.good qae.good).mono hu hs⟩ }
theorem info145:(Tryz.prog.info? 145).map (fun i=>(i.zero,i.size,i.bytes))=some (some (.agg #[.slice none 0 0,.slice none 0 0]),2,48):=by kernel_rfl
end
section
open Go.Shelf
def qfs (s:Sy) (t:Te) (n:Int):Bool:=if n=1 then passB s t else if n=2 then qbg s t else qhh s t
def qe4 (s:Sy) (t:Te):List Int:=[1,2,3].filter (qfs s t)
def qdl (s:Sy) (t:Te) (seen:List Nat):List Int:=(seen.map fun i:Nat=>(i:Int)+1).filter (qfs s t)
theorem sortI_of {xs l:List Int} (hp:xs.Perm l) (hs:Srt qah l):qda xs=l:=by
 refine qmx ordI ((qif xs).trans hp) ?_ hs
 have h:=qjv xs
 exact h.imp fun {a b} h=>by
  have h':a<=b:=h
  unfold qah
  split
  ·omega
  ·split <;> omega
theorem outV_all (s:Sy) (t:Te) (seen:List Nat) (hn:seen.Nodup) (h3:∀ x∈seen,x<3) (ha:∀ i,i<3->i∈seen):qda (qdl s t seen)=qe4 s t:=by
 refine sortI_of ?_ ?_
 ·have hp:seen.Perm [0,1,2]:=by
   rw [List.perm_ext_iff_of_nodup hn (by decide)]
   intro x
   constructor
   ·intro hx
    have:=h3 x hx
    simp
    omega
   ·intro hx
    refine ha x ?_
    simp at hx
    omega
  exact (hp.map _).filter _
 ·exact List.Pairwise.filter _ (show Srt qah [1,2,3] from by unfold Srt;decide)
theorem seen_len {seen:List Nat} (hn:seen.Nodup) (h3:∀ x∈seen,x<3):seen.length<=3:=by
 have hp:seen.Perm ([0,1,2].filter fun x=>decide (x∈seen)):=by
  rw [List.perm_ext_iff_of_nodup hn (List.Pairwise.filter _ (by decide))]
  intro x
  constructor
  ·intro hx
   have:=h3 x hx
   simp [hx]
   omega
  ·intro hx
   simpa using (List.mem_filter.1 hx).2
 rw [hp.length_eq]
 exact List.length_filter_le _ _
theorem VM_left {seen:List Nat} (h:(leftOf VM seen.toArray).size=0):∀ i,i<3->i∈seen:=by
 intro i hi
 have h':leftOf VM seen.toArray = #[]:=Array.eq_empty_of_size_eq_zero h
 unfold leftOf at h'
 rw [Array.filter_eq_empty_iff] at h'
 match i,hi with
 | 0,_=>simpa using h' { key:=.int .i64 1,val:=.func (.func 168) #[] #[],born:=0 } (by simp [VM])
 | 1,_=>simpa using h' { key:=.int .i64 2,val:=.func (.func 170) #[] #[],born:=1 } (by simp [VM])
 | 2,_=>simpa using h' { key:=.int .i64 3,val:=.func (.func 171) #[] #[],born:=2 } (by simp [VM])
theorem VM_at (s:Sy) (hok:qag s) (g:Nat) (t:Te) (v u:Value) (hn:NTe t) (seen:List Nat) (e:MapEntry) (he:e∈(leftOf VM seen.toArray).toList) :
  ∃ i f:Nat,i<3∧i∉seen∧e={ key:=.int .i64 ((i:Int)+1),val:=.func (.func f) #[] #[],born:=i }∧(∀ args w,(callFunc f args).run Tryz.prog w = .ok (.enter f args) w) ∧
   ∀ w,qav (fun _=>True) w g s->qaa (fun _=>True) w t.tr [v]->qaa (fun _=>True) w t.mu [u]->Calls Tryz.prog f #[.pointer (some ⟨g,0,none⟩),.agg #[v,u]] w fun e w'=>e = .returned (.bool (qfs s t ((i:Int)+1)))∧Ext w w':=by
 simp only [leftOf,Array.mem_toList_iff,Array.mem_filter] at he
 obtain ⟨h1,h2⟩:=he
 simp only [VM,List.mem_toArray,List.mem_cons,List.not_mem_nil,or_false] at h1
 rcases h1 with rfl | rfl | rfl
 ·exact ⟨0,168,by decide,by simpa using h2,rfl,enters_of Tryz.func168 (by kernel_rfl) rfl,fun w hS h1 h2=>pass_c _ s hok g t v u w hS h1 h2 hn.1 hn.2⟩
 ·exact ⟨1,170,by decide,by simpa using h2,rfl,enters_of Tryz.func170 (by kernel_rfl) rfl,fun w hS h1 h2=>fail_c _ s hok g t v u w hS h1 h2 hn.1 hn.2⟩
 ·exact ⟨2,171,by decide,by simpa using h2,rfl,enters_of Tryz.func171 (by kernel_rfl) rfl,fun w hS h1 h2=>open_c _ s hok g t v u w hS h1 h2 hn.1⟩
theorem VM_next (s:Sy) (hok:qag s) (g:Nat) (t:Te) (v u:Value) (hn:NTe t) (w W:World) (r m:Nat) (seen:List Nat) (ty:TypeId) (hE:Ext w W) (hr:w.heap.size<=r) (hi:W.heap[r]? = some (.mapIter (some m) 3 seen.toArray 3)) (hm:W.heap[m]? = some (.map VM 3)) :
  ((∀ i,i<3->i∈seen)∧(Instr.next (.pointer (some ⟨r,0,none⟩)) false ty).run Tryz.prog W = .ok (.tuple #[.bool false]) W) ∨
  ∃ (i f:Nat) (W':World),i<3∧i∉seen∧(∀ args w,(callFunc f args).run Tryz.prog w = .ok (.enter f args) w) ∧
   (Instr.next (.pointer (some ⟨r,0,none⟩)) false ty).run Tryz.prog W = .ok (.tuple #[.bool true,.int .i64 ((i:Int)+1),.func (.func f) #[] #[]]) W' ∧
   (Instr.entry (.pointer (some ⟨r,0,none⟩))).run Tryz.prog W' = .ok (.tuple #[.int .i64 ((i:Int)+1),.func (.func f) #[] #[]]) W' ∧
   (∀ w,qav (fun _=>True) w g s->qaa (fun _=>True) w t.tr [v]->qaa (fun _=>True) w t.mu [u]->Calls Tryz.prog f #[.pointer (some ⟨g,0,none⟩),.agg #[v,u]] w fun e w'=>e = .returned (.bool (qfs s t ((i:Int)+1)))∧Ext w w') ∧
   Bt (fun q=>q=r) W W'∧W'.heap.size=W.heap.size∧W'.heap[r]? = some (.mapIter (some m) 3 (seen++[i]).toArray 3):=by
 rcases run_next_at (P:=Tryz.prog) W ty r m 3 3 seen.toArray VM 3 hi hm (by decide) (Nat.le_refl _) with ⟨h0,h1⟩ | ⟨e,he,w1,hw1,hrun⟩
 ·exact .inl ⟨VM_left h0,h1⟩
 ·right
  obtain ⟨i,f,hi3,hs,rfl,eg,hc⟩:=VM_at s hok g t v u hn seen e he
  have hsz:r<W.heap.size:=(Array.getElem?_eq_some_iff.1 hi).1
  have hw1h:w1.heap=W.heap:=by rcases hw1 with rfl | rfl <;> rfl
  have hw1o:w1.os=W.os∧w1.tape=W.tape∧w1.output=W.output:=by rcases hw1 with rfl | rfl <;> exact ⟨rfl,rfl,rfl⟩
  have hne:m≠r:=by
   rintro rfl
   rw [hi] at hm
   cases hm
  have hrr:(ChangeMaps.setBlock w1 r (.mapIter (some m) 3 (seen.toArray.push i) 3)).heap[r]? = some (.mapIter (some m) 3 (seen.toArray.push i) 3):=by
   simp [ChangeMaps.setBlock,hw1h,hsz]
  have hmm:(ChangeMaps.setBlock w1 r (.mapIter (some m) 3 (seen.toArray.push i) 3)).heap[m]? = some (.map VM 3):=by
   rw [<- hm]
   simp [ChangeMaps.setBlock,hw1h,Array.getElem?_setIfInBounds,Ne.symm hne]
  refine ⟨i,f,_,hi3,hs,eg,hrun,run_entry_at _ r m 3 seen.toArray VM 3 { key:=.int .i64 ((i:Int)+1),val:=.func (.func f) #[] #[],born:=i } hrr hmm ?_ (by decide),hc,⟨hw1o.1,hw1o.2.1,hw1o.2.2,by simp [ChangeMaps.setBlock,hw1h],fun k hk hkr=>?_⟩,by simp [ChangeMaps.setBlock,hw1h],?_⟩
  ·simp only [leftOf,Array.mem_toList_iff,Array.mem_filter] at he
   simpa using he.1
  ·have:r≠k:=fun e=>hkr e.symm
   simp [ChangeMaps.setBlock,hw1h,Array.getElem?_setIfInBounds,this]
  ·rw [hrr]
   simp
theorem rsl_oneTe {S:Nat->Prop} {w:World} {t:Te} {v u:Value} (ht:RTe S w t [v,u]) {n:Nat} (hn:n=w.heap.size) (hS:S w.heap.size):RSl RTe 2 S (w.alloc (.cells #[v,u] 40)) [t] [.slice (some ⟨n,0,none⟩) 1 1]:=by
 subst hn
 exact ⟨_,1,rfl,by simp,by decide,.inr ⟨w.heap.size,0,rfl,by simp,hS,⟨[v,u],rfl,RTe.good.bel ht ((Ext.refl w).alloc _),fun i x h=>by have:=qew w #[v,u] 40 i x h;rwa [Addr.add_lit] at this⟩,trivial⟩⟩
open Classical in
noncomputable def qdy (s:Sy) (t:Te):List Int:=if qar s [t]=0 then qe4 s t else []
def qm7 (r:List Int) (err:Int) (w:World) (e:Ending) (w':World):Prop:=∃ A c,e = .returned (.tuple #[.slice A r.length c,.int .i64 err])∧qab qac 1 3 w.heap.size (fun _=>False) w' r (.slice A r.length c)∧Ext w w'
set_option maxHeartbeats 1000000 in
set_option maxRecDepth 100000 in
theorem qtp (S:Nat->Prop) (s:Sy) (cs cst:List Value) (t:Te) (w:World) (hx:RSy S w s cs) (ht:RTe S w t cst) :
  Calls Tryz.prog 31 #[.agg cst.toArray,.agg cs.toArray] w (qm7 (qdy s t) (qar s [t]) w):=by
 obtain ⟨vt,vu,rfl,hvt,hvu⟩:=id ht
 have hak:=fun W (hW:Ext w W) v (hv:RSl RTe 2 (fun _=>True) W [t] [v])=>qjj (fun _=>True) s cs [t] v W (RSy.good.bel (RSy.good.mono hx fun _ _ _=>trivial) hW) hv
 have hte:=fun W (hW:Ext w W) n (hn:n=W.heap.size)=>rsl_oneTe (S:=fun _=>True) (RTe.good.bel (RTe.good.mono ht fun _ _ _=>trivial) hW) hn trivial
 obtain ⟨_,vl,ve,rfl,hvl,hve⟩:=id hx
 obtain ⟨Al,cl,rfl,_,_⟩:=hvl.val
 obtain ⟨Ae,ce,rfl,_,_⟩:=hve.val
 obtain ⟨A,c,rfl,hc,hc0⟩:=hvt.val
 obtain ⟨A',c',rfl,hc',hc0'⟩:=hvu.val
 have HTR:=Hd hvt
 have HMU:=Hd hvu
 clear hx ht hvl hve hvt hvu
 by_cases hE:qar s [t]=0
 case neg =>
  have hv:qdy s t=[]:=if_neg hE
  rw [hv]
  obtain ⟨er,her⟩:∃ er,qar s [t]=er:=⟨_,rfl⟩
  rw [her] at hak hE ⊢
  have hE':(er == 0)=false:=beq_eq_false_iff_ne.2 hE
  clear her hv
  go_enter Tryz.func31,Tryz.ntmps31
  go_wp2_with fail
  refine (hak _ bel _ (hte _ bel _ (by simp))).mono ?_
  rintro e w1 ⟨_,h1⟩
  obtain ⟨rfl,hx1⟩:=h1 hE
  have hX1:Ext w w1:=bel
  clear h1 hx1
  go_wp2_with fail
  go_ret2
  exact ⟨none,0,rfl,qab.nil ..,hX1⟩
 have hv:qdy s t=qe4 s t:=if_pos hE
 have hok:=(qey hE).1
 have hn:NTe t:=NTe.of_test ((qey hE).2.2 t (by simp))
 rw [hv,hE]
 rw [hE] at hak
 obtain ⟨i3,hi3,hzz⟩:=Option.map_eq_some_iff.1 qlb
 simp only [Prod.mk.injEq] at hzz
 obtain ⟨hz0,hz1,hz2⟩:=hzz
 clear hE hv
 go_enter Tryz.func31,Tryz.ntmps31
 go_wp2_with fail
 refine (hak _ bel _ (hte _ bel _ (by simp))).mono ?_
 rintro e w1 ⟨h1,_⟩
 obtain ⟨g,rfl,hx1,hg,hS⟩:=h1 rfl
 have hX1:Ext w w1:=bel
 have b1:w1.cell? ⟨w.heap.size,0,none⟩=some (.slice A t.tr.length c):=Ext.keep hx1 (by go_simp)
 have b2:w1.cell? ⟨w.heap.size,1,none⟩=some (.slice A' t.mu.length c'):=Ext.keep hx1 (by go_simp)
 have HS:=Hd (hS.mono (S':=fun _=>True) fun _ _ _=>trivial)
 clear h1 hx1 hg hS hak
 go_wp2_with fail
 refine (qqo _).mono ?_
 rintro e w2 ⟨m,rfl,hm,hm',h2⟩
 have hrange:=run_range_map (P:=Tryz.prog) w2 136 3 138 m VM 3 Tryz.underlying136 hm
 have hX2:Ext w w2:=hX1.trans' h2
 have b1:=Ext.keep h2 b1
 have b2:=Ext.keep h2 b2
 have HS:=Hd (HS.out.bel h2)
 have hmlt:m<w2.heap.size:=(Array.getElem?_eq_some_iff.1 hm).1
 go_wp2_with fail
 have hit:(w2.alloc (.mapIter (some m) 3 #[] 3)).heap[w2.heap.size]? = some (.mapIter (some m) 3 #[] 3):=World.alloc_heap_new w2 _
 have hXa:Ext w2 (w2.alloc (.mapIter (some m) 3 #[] 3)):=(Ext.refl _).alloc _
 have hsa:(w2.alloc (.mapIter (some m) 3 #[] 3)).heap.size=w2.heap.size+1:=World.size_alloc ..
 have HM:=Hd hm
 obtain ⟨wa,hwa⟩:∃ wa,w2.alloc (.mapIter (some m) 3 #[] 3)=wa:=⟨_,rfl⟩
 rw [hwa] at hit hXa hsa ⊢
 clear hwa hrange hm
 go_loopw [8] (fun vo wr=>∃ (seen:List Nat) (A:Option Addr) (c:Nat),vo = .slice A (qdl s t seen).length c∧qab qac 1 3 wa.heap.size (fun _=>False) wr (qdl s t seen) (.slice A (qdl s t seen).length c)∧Hid (seen.Nodup∧(∀ x∈seen,x<3)∧wr.heap[w2.heap.size]? = some (.mapIter (some m) 3 seen.toArray 3))∧Ext w2 wr∧wa.heap.size<=wr.heap.size) (fun _ wr=>match wr.heap[w2.heap.size]? with | some (.mapIter _ _ seen _)=>([0,1,2].filter fun i=>decide (i∉seen.toList)).length | _=>0)
 case atStart=>exact ⟨[],none,0,rfl,qab.nil ..,⟨List.nodup_nil,by simp,hit⟩,hXa,Nat.le_refl _⟩
 case round =>
  obtain ⟨seen,Ar,cr,rfl,hown,hseen,hE,hsz⟩:=hrel
  have HO:=Hd hown
  clear hown
  rcases VM_next s hok g t (.slice A t.tr.length c) (.slice A' t.mu.length c') hn w2 wr w2.heap.size m seen 0 hE (Nat.le_refl _) hseen.out.2.2 ((hE.block _ hmlt).trans HM.out) with ⟨hall,hnx⟩ | ⟨i,f,W3,hi3',hns,eg,hnx,hen,hcon,hb3,hsz3,hr3⟩
  ·have hfin:Hid (qda (qdl s t seen)=qe4 s t):=outV_all s t seen hseen.out.1 hseen.out.2.1 hall
   clear hall
   have hl3:(qdl s t seen).length<4611686018427387904:=by rw [<- qlj,hfin.out];have:=List.length_filter_le (qfs s t) [1,2,3];simp only [List.length_cons,List.length_nil] at this;show ([1,2,3].filter (qfs s t)).length<_;omega
   go_wp2_with fail
   refine (qms _ _ _ _ wr HO.out hl3).mono ?_
   rintro e w4 ⟨rfl,ho4,hb4⟩
   have HO4:=Hd ho4
   clear ho4
   go_wp2_with fail
   go_ret2
   have hlen:(qdl s t seen).length=(qe4 s t).length:=by rw [<- hfin.out,qlj]
   refine ⟨Ar,cr,by rw [<- hlen];rfl,?_,?_⟩
   ·rw [<- hlen,<- hfin.out]
    exact HO4.out.base (by have:=hX2.size;omega)
   ·exact Bt.new (hX2.trans' hE) hb4 fun k _ hk=>by
     obtain ⟨news,h2,_⟩:=HO.out
     have:=(qb1 h2 k hk).1
     have:=hX2.size
     omega
  ·have hEX:Ext w2 W3:=Bt.new hE hb3 fun k _ hk=>by have hk':k=w2.heap.size:=hk;omega
   have hO3:qab qac 1 3 wa.heap.size (fun _=>False) W3 (qdl s t seen) (.slice Ar (qdl s t seen).length cr):=HO.out.keep qac.good (fun k hk h=>hb3.block k hk (by have:=h.resolve_left id;omega)) hb3.size
   have HO3:=Hd hO3
   have hc2:=hcon
   have x1:=Ext.keep hEX b1
   have x2:=Ext.keep hEX b2
   have hXW:Ext w W3:=hX2.trans' hEX
   have hcon2:=fun X (hX:Ext W3 X)=>hcon X (HS.out.bel (hEX.trans' hX)) (qaa.good.bel (qaa.good.mono HTR.out fun _ _ _=>trivial) (hXW.trans' hX)) (qaa.good.bel (qaa.good.mono HMU.out fun _ _ _=>trivial) (hXW.trans' hX))
   have hst:qdl s t (seen++[i])=if qfs s t ((i:Int)+1) then qdl s t seen++[(i:Int)+1] else qdl s t seen:=by
    unfold qdl
    rw [List.map_append,List.filter_append]
    simp only [List.map_cons,List.map_nil,List.filter_cons,List.filter_nil]
    split <;> simp
   have hr3':=Hd hr3
   have hms:Hid ((([0,1,2].filter fun j=>decide (j∉(seen++[i]).toArray.toList)).length<([0,1,2].filter fun j=>decide (j∉seen.toArray.toList)).length)) :=
    qk9 (fun j=>decide (j∉(seen++[i]).toArray.toList)) (fun j=>decide (j∉seen.toArray.toList)) (fun x hx=>by
     simp at hx ⊢;exact hx.1) [0,1,2] i (by simp;omega) (by simp) (by simpa using hns)
   have hsn:=Hd (show (seen++[i]).Nodup∧∀ x∈seen++[i],x<3 from ⟨by
    rw [List.nodup_append]
    exact ⟨hseen.out.1,by simp,by intro x hx y hy;simp at hy;subst hy;exact fun e=>hns (e ▸ hx)⟩,fun x hx=>by
    rcases List.mem_append.1 hx with h | h
    ·exact hseen.out.2.1 x h
    ·rw [List.mem_singleton.1 h];exact hi3'⟩)
   have hI:I64 ((i:Int)+1):=⟨by omega,by omega⟩
   have hlo:(qdl s t seen).length<=3:=by have:=seen_len hseen.out.1 hseen.out.2.1;unfold qdl;exact Nat.le_trans (List.length_filter_le _ _) (by simpa using this)
   have hsO:=Hd hseen.out.2.2
   clear hc2 hcon hseen hb3 hr3 hO3
   cases hv:qfs s t ((i:Int)+1) with
   | false =>
    rw [hv] at hcon2 hst
    have hst2:Hid (qdl s t (seen++[i])=qdl s t seen):=by show _=_;rw [hst];rfl
    clear hst hv
    go_wp2_with fail
    refine (hcon2 _ bel).mono ?_
    rintro e w4 ⟨rfl,h4⟩
    have hz4:=h4.size
    go_wp2_with fail
    go_roundw
    case rel=>exact ⟨seen++[i],Ar,cr,by rw [hst2.out],by rw [hst2.out];exact HO3.out.ext qac.good h4,⟨hsn.out.1,hsn.out.2,(h4.block _ (by omega)).trans hr3'.out⟩,hEX.trans' h4,by omega⟩
    case measure =>
     rw [(h4.block _ (by omega)).trans hr3'.out,hsO.out]
     exact hms.out
   | true =>
    rw [hv] at hcon2 hst
    have hst2:Hid (qdl s t (seen++[i])=qdl s t seen++[(i:Int)+1]):=by show _=_;rw [hst];rfl
    clear hst hv
    go_wp2_with fail
    refine (hcon2 _ bel).mono ?_
    rintro e w4 ⟨rfl,h4⟩
    have hz4:=h4.size
    obtain ⟨news4,hrow4,hF4⟩:=HO3.out.ext qac.good (h4.alloc (.cells #[.int .i64 ((i:Int)+1)] 3))
    have HF:=Hd hF4
    clear hF4
    go_wp2_with (at_builtin;refine wpList_append_own_at _ rfl _ _ 53 rfl wa.heap.size 3 i3 (.int .i64 0) 1 8 Tryz.underlying53 hi3 hz0 hz1 hz2 rfl (by decide) _ _ _ rfl hrow4 ⟨w4.heap.size,0,none⟩ 1 1 [.int .i64 ((i:Int)+1)] rfl rfl (cell_one_new _ _ _) (by simp [Value.oneCell']) (by unfold maxLen;omega) (by omega) (by simp;omega) ?_;intro v5 w5 hown5 hgrow5 hnil5 hat5;obtain ⟨g5,c5,rfl⟩:=ownsRow_succ hown5)
    have hp5:=Hd (qab.push qac.good HF.out (Flat.single (⟨rfl,hI⟩:qac _ _ ((i:Int)+1) _) rfl) hown5 hgrow5 hat5)
    have hX5:Ext w2 w5:=Below.grown ((hEX.trans' h4).alloc _) hgrow5 (by simp;omega) fun q hq=>by have:=(qb1 hrow4 q hq).1;omega
    have hr5:w5.heap[w2.heap.size]? = some (.mapIter (some m) 3 (seen++[i]).toArray 3):=(hgrow5.block _ (by simp;omega) (fun e=>by have:=(qb1 hrow4 _ e.symm).1;omega)).trans ((Below.heap_alloc _ _ _ (by omega)).trans ((h4.block _ (by omega)).trans hr3'.out))
    have hz5:=hgrow5.size
    have HR5:=Hd hr5
    clear hown5 hgrow5 hat5 hnil5 hrow4 hr5
    go_wp2_with fail
    go_roundw
    case rel=>exact ⟨seen++[i],some ⟨g5,0,none⟩,c5,by rw [hst2.out,List.length_append];rfl,by rw [hst2.out,List.length_append];exact hp5.out,⟨hsn.out.1,hsn.out.2,HR5.out⟩,hX5,by simp at hz5;omega⟩
    case measure =>
     rw [HR5.out,hsO.out]
     exact hms.out
end
section
open Go.Shelf
open Classical in
noncomputable def qgq (s:Sy) (ts:List Te):List Int:=if qar s ts=0 then qhf s ts else []
set_option maxHeartbeats 1000000 in
set_option maxRecDepth 100000 in
theorem Choose_c (S:Nat->Prop) (s:Sy) (cs:List Value) (ts:List Te) (v:Value) (w:World) (hx:RSy S w s cs) (ht:RSl RTe 2 S w ts [v]) :
  Calls Tryz.prog 53 #[.agg cs.toArray,v] w (qm7 (qgq s ts) (qar s ts) w):=by
 have hak:=fun W (hW:Ext w W)=>qjj S s cs ts v W (RSy.good.bel hx hW) ((RSl.good RTe.good).bel ht hW)
 obtain ⟨_,vl,ve,rfl,hvl,hve⟩:=id hx
 obtain ⟨Al,cl,rfl,_,_⟩:=hvl.val
 obtain ⟨Ae,ce,rfl,_,_⟩:=hve.val
 obtain ⟨A,c,rfl,hc,hc0⟩:=ht.val
 have HT:=Hd ht
 clear hx ht hvl hve
 by_cases hE:qar s ts=0
 case neg =>
  have hv:qgq s ts=[]:=if_neg hE
  rw [hv]
  obtain ⟨er,her⟩:∃ er,qar s ts=er:=⟨_,rfl⟩
  rw [her] at hak hE ⊢
  have hE':(er == 0)=false:=beq_eq_false_iff_ne.2 hE
  clear her hv
  go_enter Tryz.func53,Tryz.ntmps53
  go_wp2_with fail
  refine (hak _ bel).mono ?_
  rintro e w1 ⟨_,h1⟩
  obtain ⟨rfl,hx1⟩:=h1 hE
  have hX1:Ext w w1:=bel
  clear h1 hx1
  go_wp2_with fail
  go_ret2
  exact ⟨none,0,rfl,qab.nil ..,hX1⟩
 have hv:qgq s ts=qhf s ts:=if_pos hE
 have hok:=(qey hE).1
 have hlen:=(qey hE).2.1
 have hn:∀ t∈ts,NTe t:=fun t h=>NTe.of_test ((qey hE).2.2 t h)
 rw [hv,hE]
 rw [hE] at hak
 clear hE hv
 have hnc:=fun W g (hg:qav (fun _=>True) W g s)=>qo1 (fun _=>True) s g W hg (by have:=hok.2.2.1;omega) (by have:=hok.2.2.2.1;omega)
 obtain ⟨i3,hi3,hzz⟩:=Option.map_eq_some_iff.1 qlb
 simp only [Prod.mk.injEq] at hzz
 obtain ⟨hz0,hz1,hz2⟩:=hzz
 obtain ⟨i5,hi5,hyy⟩:=Option.map_eq_some_iff.1 info145
 simp only [Prod.mk.injEq] at hyy
 obtain ⟨hy0,hy1,hy2⟩:=hyy
 go_enter Tryz.func53,Tryz.ntmps53
 go_wp2_with fail
 refine (hak _ bel).mono ?_
 rintro e w1 ⟨h1,_⟩
 obtain ⟨g,rfl,hx1,hg,hS⟩:=h1 rfl
 have hX1:Ext w w1:=bel
 have HS:=Hd (hS.mono (S':=fun k=>k<w1.heap.size) fun k h _=>h)
 have HT1:=Hd ((RSl.good RTe.good).mono HT.out (S':=fun k=>k<w1.heap.size) fun b hb _=>by have:=hX1.size;omega)
 have HX1:=Hd hX1
 clear h1 hx1 hg hS hak
 go_wp2_with fail
 go_loopw [8,34] (fun ve vi wr=>∃ (k:Nat) (A:Option Addr) (c:Nat),k<=ts.length∧vi = .int .i64 k∧ve = .slice A (qep s (ts.take k)).length c∧qab qej 2 145 w1.heap.size (fun b=>b<wr.heap.size) wr (qep s (ts.take k)) (.slice A (qep s (ts.take k)).length c)∧Hid (Ext w1 wr)) (fun _ vi _=>ts.length-(intOf vi).toNat)
 case atStart=>exact ⟨0,none,0,Nat.zero_le _,rfl,rfl,qab.nil ..,Ext.refl _⟩
 case round =>
  obtain ⟨k,Ar,cr,hk,rfl,rfl,hown,hE⟩:=hrel
  have HO:=Hd hown
  have hlb:(qep s (ts.take k)).length<=4000:=by simp [qep];omega
  have hob:∀ q,(Value.slice Ar (qep s (ts.take k)).length cr).ownBlock=some q->w1.heap.size<=q∧q<wr.heap.size:=fun q hq=>by obtain ⟨news,h2,_⟩:=hown;exact qb1 h2 q hq
  clear hown
  by_cases hlt:k<ts.length
  ·obtain ⟨b,off,cs,rfl,hb,hS2,hl,hr,hcell⟩:=((RSl.good RTe.good).bel HT1.out (HX1.out.trans' hE.out)).get k hlt
   obtain ⟨v0,v1,rfl,ha0,ha1⟩:=id hr
   have a0:=hcell.get 0 _
   have a1:=hcell.get 1 _
   simp only [Nat.add_zero] at a0
   have hnt:=hn _ (List.getElem_mem hlt)
   have hcv:=fun X (hX:Ext wr X) base c0 u1 u2 hb hr=>qsf (fun k=>k<w1.heap.size) s hok g ts[k] c0 base u1 u2 v0 v1 X (HS.out.bel (hE.out.trans' hX)) hr (fun q (hq:q<w1.heap.size)=>Nat.lt_of_lt_of_le hq hb) (qaa.good.bel ha0 hX) (qaa.good.bel ha1 hX)
   obtain ⟨B0,d0,rfl,_,_⟩:=ha0.val
   obtain ⟨B1,d1,rfl,_,_⟩:=ha1.val
   have hst:qep s (ts.take (k+1))=qep s (ts.take k)++[qd8 s ts[k] (cv0 s)]:=by rw [qep,List.take_succ_eq_append_getElem hlt,List.map_append];rfl
   have HST:=Hd hst
   have hws:=hE.out.size
   clear ha0 ha1 hr hl hcell hS2 hst
   go_wp2_with fail
   refine (hnc _ g ((HS.out.mono fun _ _ _=>trivial).bel (hE.out.trans' bel))).mono ?_
   rintro e w2 ⟨u1,u2,rfl,hr1,hr2,hap,h2⟩
   obtain ⟨A1,k1,rfl,_,_⟩:=(hr1.sl qae.good (by decide)).val
   obtain ⟨A2,k2,rfl,_,_⟩:=(hr2.sl qae.good (by decide)).val
   have x0:w2.cell? ⟨wr.heap.size,0,none⟩=some (.slice B0 ts[k].tr.length d0):=Ext.keep h2 (by go_simp)
   have x1:w2.cell? ⟨wr.heap.size,1,none⟩=some (.slice B1 ts[k].mu.length d1):=Ext.keep h2 (by go_simp)
   have hXB:Ext wr (wr.alloc (.cells #[.slice B0 ts[k].tr.length d0,.slice B1 ts[k].mu.length d1] 40)):=(Ext.refl wr).alloc _
   obtain ⟨WB,hWB⟩:∃ WB,wr.alloc (.cells #[.slice B0 ts[k].tr.length d0,.slice B1 ts[k].mu.length d1] 40)=WB:=⟨_,rfl⟩
   have hWBs:WB.heap.size=wr.heap.size+1:=by rw [<- hWB];simp
   rw [hWB] at h2 hr1 hr2 hXB
   clear hWB
   have hXr2:Ext wr w2:=hXB.trans' h2
   have hR0:RCv WB.heap.size w2 (cv0 s) (.slice A1 (List.replicate s.ls.length false).length k1) (.slice A2 (List.replicate s.es.length false).length k2):=⟨hr1,hr2,hap⟩
   have hZ0:∀ q,ZCv (.slice A1 (List.replicate s.ls.length false).length k1) (.slice A2 (List.replicate s.es.length false).length k2) q->WB.heap.size<=q∧q<w2.heap.size:=fun q h=>by
    rcases h with h | h
    ·exact qft hr1 h
    ·exact qft hr2 h
   simp only [List.length_replicate] at hR0 hZ0 ⊢
   have HR0:=Hd hR0
   have HZ0:=Hd hZ0
   have hs2:=h2.size
   have hl2:wr.heap.size<w2.heap.size:=by omega
   clear hr1 hr2 hap hR0 hZ0
   go_wp2_with fail
   have hXc:Ext w2 (w2.alloc (.cells #[.slice A1 s.ls.length k1,.slice A2 s.es.length k2] 145)):=(Ext.refl _).alloc _
   refine (hcv _ (hXr2.trans' hXc) WB.heap.size (cv0 s) _ _ (by omega) (HR0.out.ext hXc) (by simp [cv0]) (by simp [cv0]) hnt.1 hnt.2).mono ?_
   rintro e w5 ⟨rfl,hr5,hb5⟩
   have hne:¬ ZCv (.slice A1 s.ls.length k1) (.slice A2 s.es.length k2) w2.heap.size:=fun h=>by have:=HZ0.out _ h;omega
   have q0:w5.cell? ⟨w2.heap.size,0,none⟩=some (.slice A1 s.ls.length k1):=hb5.cell (by go_simp) hne
   have q1:w5.cell? ⟨w2.heap.size,1,none⟩=some (.slice A2 s.es.length k2):=hb5.cell (by go_simp) hne
   have hX5:Ext wr w5:=Bt.new (hXr2.trans' hXc) hb5 fun i _ h=>by have:=(HZ0.out i h).1;omega
   have hz5:w2.heap.size+1<=w5.heap.size:=by have:=hb5.size;simp at this;omega
   have hO5:qab qej 2 145 w1.heap.size (fun b=>b<w5.heap.size) (w5.alloc (.cells #[.slice A1 s.ls.length k1,.slice A2 s.es.length k2] 145)) (qep s (ts.take k)) (.slice Ar (qep s (ts.take k)).length cr) :=
    ((((HO.out.ext qej.good (hXr2.trans' hXc)).bt qej.good hb5 fun b _ hz=>by
     have h1:=(HZ0.out b hz).1
     exact ⟨by omega,fun e=>by have:=(hob b e).2;omega⟩).mono qej.good (T':=fun b=>b<w5.heap.size) fun b _ h=>by omega).ext qej.good ((Ext.refl _).alloc _))
   obtain ⟨news,hrow,hF⟩:=hO5
   have HF:=Hd hF
   have hy:qej (fun b=>b<w5.heap.size∧(Value.slice Ar (qep s (ts.take k)).length cr).ownBlock≠some b) (w5.alloc (.cells #[.slice A1 s.ls.length k1,.slice A2 s.es.length k2] 145)) (qd8 s ts[k] (cv0 s)) [.slice A1 s.ls.length k1,.slice A2 s.es.length k2]:=by
    refine ⟨_,_,rfl,(RSl.good qae.good).bel ((RSl.good qae.good).mono (hr5.l.sl qae.good (by decide)) fun b hb h=>⟨hb,fun e=>?_⟩) ((Ext.refl _).alloc _),(RSl.good qae.good).bel ((RSl.good qae.good).mono (hr5.e.sl qae.good (by decide)) fun b hb h=>⟨hb,fun e=>?_⟩) ((Ext.refl _).alloc _)⟩
    ·have:=(hob b e).2
     have:=h.resolve_left id
     omega
    ·have:=(hob b e).2
     have:=h.resolve_left id
     omega
   have HY:=Hd hy
   have hcc:=qew w5 #[.slice A1 s.ls.length k1,.slice A2 s.es.length k2] 145
   clear hr5 hb5 hF hy hcv x0 x1
   go_wp2_with (at_builtin;refine wpList_append_own_at _ rfl _ _ 149 rfl w1.heap.size 145 i5 _ 2 48 Tryz.underlying149 hi5 hy0 hy1 hy2 rfl (by decide) _ _ _ rfl hrow ⟨w5.heap.size,0,none⟩ 1 1 [.slice A1 s.ls.length k1,.slice A2 s.es.length k2] rfl rfl hcc (by simp [Value.oneCell']) (by unfold maxLen;omega) (by omega) (by simp;omega) ?_;intro v8 w8 hown8 hgrow8 hnil8 hat8;obtain ⟨g8,c8,rfl⟩:=ownsRow_succ hown8)
   have hp8:=(qab.push qej.good HF.out (Flat.single HY.out rfl) hown8 hgrow8 hat8)
   have hX8:Ext w1 w8:=Below.grown ((hE.out.trans' hX5).alloc _) hgrow8 (by simp;omega) fun q hq=>(hob q hq).1
   have hz8:=hgrow8.size
   have HP8:=Hd (hp8.mono qej.good (T':=fun b=>b<w8.heap.size) fun b hb _=>hb)
   have HX8:=Hd hX8
   clear hown8 hgrow8 hat8 hnil8 hrow hcc hp8 hX8
   go_wp2_with fail
   go_roundw
   case rel=>exact ⟨k+1,some ⟨g8,0,none⟩,c8,by omega,by go_num,by rw [HST.out,List.length_append];rfl,by rw [HST.out,List.length_append];exact HP8.out,HX8.out⟩
   case measure=>simp [intOf];omega
  ·obtain rfl:k=ts.length:=by omega
   rw [List.take_length] at HO hob hlb ⊢
   obtain ⟨each,heach⟩:∃ each,qep s ts=each:=⟨_,rfl⟩
   have HCH:=Hd (show qhf s ts=qda (chGo each (s.ls.length+s.es.length+1) (cv0 s) []) from by rw [qhf,heach])
   have hel:∀ c∈each,c.l.length=s.ls.length∧c.e.length=s.es.length:=fun c hc=>by
    rw [<- heach] at hc
    obtain ⟨t,_,rfl⟩:=List.mem_map.1 hc
    have:=qr7 s t (cv0 s)
    simpa [cv0] using this
   rw [heach] at HO hob hlb ⊢
   have HEC:=Hd ((RSl.good qej.good).mono (HO.out.sl qej.good (by decide)) (S':=fun b=>b<wr.heap.size) fun b hb _=>hb)
   obtain ⟨we,hwe⟩:∃ we,wr=we:=⟨_,rfl⟩
   rw [hwe] at HO hob HEC hE ⊢
   have HEL:=Hd hel
   have hwes:=hE.out.size
   clear hwe heach hel HO hob
   have hX1s:=HX1.out.size
   go_wp2_with fail
   refine (hnc _ g ((HS.out.mono fun _ _ _=>trivial).bel hE.out)).mono ?_
   rintro e w2 ⟨u1,u2,rfl,hr1,hr2,hap,h2⟩
   obtain ⟨A1,k1,rfl,_,_⟩:=(hr1.sl qae.good (by decide)).val
   obtain ⟨A2,k2,rfl,_,_⟩:=(hr2.sl qae.good (by decide)).val
   have hR0:RCv we.heap.size w2 (cv0 s) (.slice A1 (List.replicate s.ls.length false).length k1) (.slice A2 (List.replicate s.es.length false).length k2):=⟨hr1,hr2,hap⟩
   have hZ0:∀ q,ZCv (.slice A1 (List.replicate s.ls.length false).length k1) (.slice A2 (List.replicate s.es.length false).length k2) q->we.heap.size<=q∧q<w2.heap.size:=fun q h=>by
    rcases h with h | h
    ·exact qft hr1 h
    ·exact qft hr2 h
   simp only [List.length_replicate] at hR0 hZ0 ⊢
   have HR0:=Hd hR0
   have HZ0:=Hd hZ0
   have HX2:=Hd h2
   have hs2:=h2.size
   clear hr1 hr2 hap hR0 hZ0 h2 hnc
   go_wp2_with fail
   obtain ⟨wA,hwA⟩:∃ wA,w2.alloc (.cells #[.slice A1 s.ls.length k1,.slice A2 s.es.length k2] 145)=wA:=⟨_,rfl⟩
   have hXA:Ext w2 wA:=by rw [<- hwA];exact (Ext.refl _).alloc _
   have hb0:wA.cell? ⟨w2.heap.size,0,none⟩=some (.slice A1 s.ls.length k1):=by subst hwA;go_simp
   have hb1:wA.cell? ⟨w2.heap.size,1,none⟩=some (.slice A2 s.es.length k2):=by subst hwA;go_simp
   have hbs:w2.heap.size<wA.heap.size:=by rw [<- hwA];simp
   rw [hwA]
   clear hwA
   obtain ⟨Za,hZa⟩:∃ Za:Nat->Prop,Za=ZCv (.slice A1 s.ls.length k1) (.slice A2 s.es.length k2):=⟨_,rfl⟩
   have HECA:=Hd ((RSl.good qej.good).bel HEC.out (HX2.out.trans' hXA))
   have HX2A:=Hd (HX2.out.trans' hXA)
   have hRA:=HR0.out.ext hXA
   have HZA:=Hd (show ∀ q,Za q->we.heap.size<=q∧q<w2.heap.size from fun q h=>HZ0.out q (by rw [<- hZa];exact h))
   go_loopw [13] (fun vo wr=>∃ (out:List Int) (A:Option Addr) (c:Nat) (all:Cv),vo = .slice A out.length c∧qab qac 1 3 wA.heap.size (fun _=>False) wr out (.slice A out.length c)∧RCv we.heap.size wr all (.slice A1 s.ls.length k1) (.slice A2 s.es.length k2)∧Hid (Bt Za wA wr) ∧
    Hid (chGo each (s.ls.length+s.es.length+1-out.length) all out=chGo each (s.ls.length+s.es.length+1) (cv0 s) []∧all.l.length=s.ls.length∧all.e.length=s.es.length)∧out.length+potN all<=s.ls.length+s.es.length) (fun vo _=>s.ls.length+s.es.length+1-(match vo with | .slice _ n _=>n | _=>0))
   case atStart=>exact ⟨[],none,0,cv0 s,rfl,qab.nil ..,hRA,Bt.refl _ _,⟨rfl,by simp [cv0],by simp [cv0]⟩,by rw [cv0_pot];simp⟩
   case round =>
    obtain ⟨out,Ao,co,all,rfl,hown,hrc,hbt,hch,hpot⟩:=hrel
    have HOW:=Hd hown
    have HRC:=Hd hrc
    have hobo:∀ q,(Value.slice Ao out.length co).ownBlock=some q->wA.heap.size<=q∧q<wr.heap.size:=fun q hq=>by obtain ⟨news,h2,_⟩:=hown;exact qb1 h2 q hq
    have q0:=hbt.out.cell hb0 (fun h=>by have:=HZA.out _ h;simp at this)
    have q1:=hbt.out.cell hb1 (fun h=>by have:=HZA.out _ h;simp at this)
    have hwb:=hbt.out.size
    obtain ⟨wb,hwb'⟩:∃ wb,wr=wb:=⟨_,rfl⟩
    rw [hwb'] at HOW HRC hobo q0 q1 hwb hbt ⊢
    have HOB:=Hd hobo
    clear hwb' hown hrc hobo
    go_wp2_with fail
    go_loopw [14,15,53] (fun vb vg vi wr=>∃ (i:Nat) (p:Int×Nat),i<=each.length∧vi = .int .i64 i∧vb = .int .i64 p.1∧vg = .int .i64 (p.2:Int)∧Hid (Ext wb wr)∧Hid (qf9 all (each.drop i) i p=qhg all each)∧p.2<=200000) (fun _ _ vi _=>each.length-(intOf vi).toNat)
    case atStart=>exact ⟨0,(-1,0),Nat.zero_le _,rfl,rfl,rfl,Ext.refl _,rfl,by decide⟩
    case round =>
     obtain ⟨i,p,hi,rfl,rfl,rfl,hE3,hbg,hp⟩:=hrel
     have q0':=Ext.keep hE3.out q0
     have q1':=Ext.keep hE3.out q1
     by_cases hlt:i<each.length
     ·have hkE:Kp (fun b=>b<we.heap.size) wA wr:=(hbt.out.ext hE3.out).kp fun q _ hq hz=>by have:=(HZA.out q hz).1;omega
      obtain ⟨be,oe,cse,rfl,hbe,_,hle,hre,hce⟩:=((RSl.good qej.good).move HECA.out hkE).get i hlt
      obtain ⟨ve,ue,rfl,hve,hue⟩:=id hre
      have c0:=hce.get 0 _
      have c1:=hce.get 1 _
      simp only [Nat.add_zero] at c0
      have hls:=HEL.out _ (List.getElem_mem hlt)
      have hmo1:=fun X (hX:Ext wr X)=>more_c (fun _=>True) all.l each[i].l _ ve X ((RSl.good qae.good).mono (((HRC.out.ext hE3.out).ext hX).l.sl qae.good (by decide)) fun _ _ _=>trivial) ((RSl.good qae.good).mono ((RSl.good qae.good).bel hve hX) fun _ _ _=>trivial) (by rw [hch.out.2.1,hls.1])
      have hmo2:=fun X (hX:Ext wr X)=>more_c (fun _=>True) all.e each[i].e _ ue X ((RSl.good qae.good).mono (((HRC.out.ext hE3.out).ext hX).e.sl qae.good (by decide)) fun _ _ _=>trivial) ((RSl.good qae.good).mono ((RSl.good qae.good).bel hue hX) fun _ _ _=>trivial) (by rw [hch.out.2.2,hls.2])
      obtain ⟨Be1,de1,rfl,_,_⟩:=hve.val
      obtain ⟨Be2,de2,rfl,_,_⟩:=hue.val
      have hle1:=qk2 all.l each[i].l
      have hle2:=qk2 all.e each[i].e
      rw [hls.1] at hle1
      rw [hls.2] at hle2
      have hok1:=hok.2.2.1
      have hok2:=hok.2.2.2.1
      have hst:=hbg.out
      rw [List.drop_eq_getElem_cons hlt,qf9,qf1] at hst
      have hwr:=hE3.out.size
      obtain ⟨m1,hm1e⟩:∃ m1,qdf all.l each[i].l=m1:=⟨_,rfl⟩
      obtain ⟨m2,hm2e⟩:∃ m2,qdf all.e each[i].e=m2:=⟨_,rfl⟩
      simp only [hm1e,hm2e] at hmo1 hmo2 hle1 hle2 hst
      have y1':IntKind.i64.wrap ((m1:Int)+(m2:Int))=((m1+m2:Nat):Int):=by rw [IntWalk.i64_in _ (by omega)];omega
      have hm3:m1+m2<=200000:=by omega
      clear hve hue hre hle hce hls hm1e hm2e hkE hok1 hok2 hle1 hle2
      by_cases hgt:p.2<m1+m2
      ·rw [if_pos hgt] at hst
       have HST:=Hd hst
       clear hst hbg
       go_wp2_with fail
       obtain ⟨W,hW⟩:∃ W,wr.alloc (.cells #[.slice Be1 each[i].l.length de1,.slice Be2 each[i].e.length de2] 145)=W:=⟨_,rfl⟩
       have hXW:Ext wr W:=by rw [<- hW];exact (Ext.refl _).alloc _
       have y0:=Ext.keep hXW q0'
       have y1:=Ext.keep hXW q1'
       have y2:W.cell? ⟨wr.heap.size,0,none⟩=some (.slice Be1 each[i].l.length de1):=by subst hW;go_simp
       have y3:W.cell? ⟨wr.heap.size,1,none⟩=some (.slice Be2 each[i].e.length de2):=by subst hW;go_simp
       have hm1:=fun Y=>hmo1 (qak W Y) (hXW.trans' (qa5 W Y))
       have hm2:=fun Y=>hmo2 (qak W Y) (hXW.trans' (qa5 W Y))
       rw [hW]
       clear hW hmo1 hmo2
       (refine qa1 ?_;(repeat (first | go_big_quiet_step ((first | (go_at_call 115;with_reducible exact qb7 (hm1 _)) | (go_at_call 115;with_reducible exact qb7 (hm2 _)))) | quiet_step ((first | (go_at_call 115;with_reducible exact qb7 (hm1 _)) | (go_at_call 115;with_reducible exact qb7 (hm2 _))))));refine wpQuiet_nil ?_)
       intro w5 hx5
       have hX5:=Hd (hE3.out.trans' (hXW.trans' hx5))
       clear hm1 hm2
       go_wp2_with fail
       go_roundw
       case rel=>exact ⟨i+1,((i:Int),m1+m2),by omega,by go_num,rfl,by go_num,hX5.out,HST.out,hm3⟩
       case measure=>simp [intOf];omega
      ·rw [if_neg hgt] at hst
       have HST:=Hd hst
       clear hst hbg
       go_wp2_with fail
       obtain ⟨W,hW⟩:∃ W,wr.alloc (.cells #[.slice Be1 each[i].l.length de1,.slice Be2 each[i].e.length de2] 145)=W:=⟨_,rfl⟩
       have hXW:Ext wr W:=by rw [<- hW];exact (Ext.refl _).alloc _
       have y0:=Ext.keep hXW q0'
       have y1:=Ext.keep hXW q1'
       have y2:W.cell? ⟨wr.heap.size,0,none⟩=some (.slice Be1 each[i].l.length de1):=by subst hW;go_simp
       have y3:W.cell? ⟨wr.heap.size,1,none⟩=some (.slice Be2 each[i].e.length de2):=by subst hW;go_simp
       have hm1:=fun Y=>hmo1 (qak W Y) (hXW.trans' (qa5 W Y))
       have hm2:=fun Y=>hmo2 (qak W Y) (hXW.trans' (qa5 W Y))
       rw [hW]
       clear hW hmo1 hmo2
       (refine qa1 ?_;(repeat (first | go_big_quiet_step ((first | (go_at_call 115;with_reducible exact qb7 (hm1 _)) | (go_at_call 115;with_reducible exact qb7 (hm2 _)))) | quiet_step ((first | (go_at_call 115;with_reducible exact qb7 (hm1 _)) | (go_at_call 115;with_reducible exact qb7 (hm2 _))))));refine wpQuiet_nil ?_)
       intro w5 hx5
       have hX5:=Hd (hE3.out.trans' (hXW.trans' hx5))
       clear hm1 hm2
       go_wp2_with fail
       go_roundw
       case rel=>exact ⟨i+1,p,by omega,by go_num,rfl,rfl,hX5.out,HST.out,hp⟩
       case measure=>simp [intOf];omega
     ·obtain rfl:i=each.length:=by omega
      have hpb:p=qhg all each:=by rw [<- hbg.out,List.drop_length];rfl
      obtain ⟨m,hm⟩:∃ m,s.ls.length+s.es.length+1-out.length=m+1:=⟨s.ls.length+s.es.length-out.length,by omega⟩
      have hch1:=hch.out.1
      rw [hm,chGo,<- hpb] at hch1
      have hbo:=bestOf_ok all each
      rw [<- hpb] at hbo
      have hol:out.length<=200000:=by have:=hok.2.2.1;have:=hok.2.2.2.1;omega
      by_cases hneg:p.1<0
      ·rw [if_pos hneg] at hch1
       have HF:=Hd (show qda out=qhf s ts from by rw [HCH.out,<- hch1])
       clear hch1 hbo hpb
       go_wp2_with fail
       refine (qms _ _ _ _ wr (HOW.out.ext qac.good hE3.out) (by omega)).mono ?_
       rintro e w4 ⟨rfl,ho4,hb4⟩
       have HO4:=Hd ho4
       clear ho4
       go_wp2_with fail
       go_ret2
       have hll:out.length=(qhf s ts).length:=by rw [<- HF.out,qlj]
       refine ⟨Ao,co,by rw [<- hll];rfl,?_,?_⟩
       ·rw [<- hll,<- HF.out]
        exact HO4.out.base (by have:=HX2A.out.size;omega)
       ·exact Bt.new (HX1.out.trans' (hE.out.trans' HX2A.out)) ((hbt.out.ext hE3.out).tail hb4 fun i hi=>(HOB.out i hi).1) fun k _ h=>by
         have:=(HZA.out k h).1
         omega
      ·rw [if_neg hneg] at hch1
       obtain ⟨j,hj,hpj,hgj⟩:=hbo.resolve_left fun h=>hneg (by rw [h];decide)
       rw [hpj] at hch1
       rw [Int.toNat_natCast,show each.getD j ⟨[],[]⟩=each[j] from by simp [hj]] at hch1
       have hpp:=orCv_pot all each[j]
       have hcl:=HEL.out _ (List.getElem_mem hj)
       have HCH1:=Hd hch1
       have HPP:=Hd hpp
       have HCL:=Hd hcl
       rw [hpj]
       have hE3s:=hE3.out.size
       obtain ⟨news4,hrow4,hF4⟩:=(HOW.out.ext qac.good hE3.out).ext qac.good ((Ext.refl wr).alloc (.cells #[.int .i64 (j:Int)] 3))
       have HF4:=Hd hF4
       have hI:I64 (j:Int):=⟨by omega,by omega⟩
       obtain ⟨be,oe,cse,hArE,hbe,hbes,hle,hre,hce⟩:=HECA.out.get j hj
       obtain rfl:=hArE
       obtain ⟨ve,ue,rfl,hve,hue⟩:=id hre
       have c0A:=hce.get 0 _
       have c1A:=hce.get 1 _
       simp only [Nat.add_zero] at c0A
       have HVE:=Hd hve
       have HUE:=Hd hue
       obtain ⟨Be1,de1,rfl,_,_⟩:=hve.val
       obtain ⟨Be2,de2,rfl,_,_⟩:=hue.val
       have hbez:¬ Za be:=fun h=>by have:=(HZA.out _ h).1;omega
       have hnbz:¬ Za w2.heap.size:=fun h=>by have:=HZA.out _ h;omega
       have hbT:=(hbt.out.ext hE3.out).alloc (.cells #[.int .i64 (j:Int)] 3)
       have HBT9:=Hd hbT
       have hjc:(j:Int)<(each.length:Int):=by omega
       have hjc0:(0:Int)<=(j:Int):=by omega
       clear hch1 hbo hpb hpp hcl hpj hF4 q0 q1 hve hue hre hle hce hbT
       go_wp2_with (at_builtin;refine wpList_append_own_at _ rfl _ _ 53 rfl wA.heap.size 3 i3 (.int .i64 0) 1 8 Tryz.underlying53 hi3 hz0 hz1 hz2 rfl (by decide) _ _ _ rfl hrow4 ⟨wr.heap.size,0,none⟩ 1 1 [.int .i64 (j:Int)] rfl rfl (cell_one_new _ _ _) (by simp [Value.oneCell']) (by unfold maxLen;omega) (by omega) (by simp;omega) ?_;intro v8 w8 hown8 hgrow8 hnil8 hat8;obtain ⟨g8,c8,rfl⟩:=ownsRow_succ hown8;have hbA8:Bt Za wA w8:=HBT9.out.tail (Bt.of_grown hgrow8) (fun i hi=>(HOB.out i hi.symm).1);have c0:=hbA8.cell c0A hbez;have c1:=hbA8.cell c1A hbez;have r0:=hbA8.cell hb0 hnbz;have r1:=hbA8.cell hb1 hnbz)
       have hp8:=Hd (qab.push qac.good HF4.out (Flat.single (⟨rfl,hI⟩:qac _ _ (j:Int) _) rfl) hown8 hgrow8 hat8)
       have hzw8:=hgrow8.size
       simp only [World.size_alloc] at hzw8
       have hrc8:RCv we.heap.size w8 all (.slice A1 s.ls.length k1) (.slice A2 s.es.length k2):=by
        refine ((HRC.out.ext hE3.out).ext ((Ext.refl wr).alloc (.cells #[.int .i64 (j:Int)] 3))).keep (Bt.of_grown hgrow8) fun q hq e=>?_
        have h1:=HZA.out q (by rw [hZa];exact hq)
        have h2:=(HOB.out q e.symm).1
        omega
       have hown9:∀ q,(Value.slice (some ⟨g8,0,none⟩) (out.length+1) c8).ownBlock=some q->wA.heap.size<=q:=fun q hq=>by
        have:=(qb1 hown8 q hq).1
        omega
       have HBA8:=Hd hbA8
       have HRC8:=Hd hrc8
       have HOW9:=Hd hown9
       have HALL:=Hd hch.out.2
       clear hown8 hgrow8 hat8 hnil8 hrow4 hbA8 hrc8 hown9
       go_loopw [90] (fun vi wr=>∃ i:Nat,i<=each[j].l.length∧vi = .int .i64 i∧RBs we.heap.size wr (orB all.l (each[j].l.take i)) (.slice A1 s.ls.length k1)∧RBs we.heap.size wr all.e (.slice A2 s.es.length k2)∧Hid (Bt Za w8 wr)) (fun vi _=>each[j].l.length-(intOf vi).toNat)
       case atStart=>exact ⟨0,Nat.zero_le _,rfl,by rw [List.take_zero,qor];exact HRC8.out.l,HRC8.out.e,Bt.refl _ _⟩
       case round =>
        obtain ⟨i,hi,rfl,hrl,hre,hb9⟩:=hrel
        have hkE9:Kp (fun b=>b<we.heap.size) wA wr:=(HBA8.out.trans hb9.out).kp fun q _ hq hz=>by have:=(HZA.out q hz).1;omega
        have z0:=hb9.out.cell r0 (fun h=>by have:=HZA.out _ h;simp at this)
        have z1:=hb9.out.cell r1 (fun h=>by have:=HZA.out _ h;simp at this)
        by_cases hlt:i<each[j].l.length
        ·have hila:i<all.l.length:=by rw [HALL.out.1,<- HCL.out.1];exact hlt
         obtain ⟨gb,cap,hge⟩:=(by obtain ⟨news,hrow,_⟩:=hrl;exact Joins.ownsRow_form hrow (by rw [qg0];omega):∃ gb cap,Value.slice A1 s.ls.length k1 = .slice (some ⟨gb,0,none⟩) (orB all.l (each[j].l.take i)).length cap)
         injection hge with hg1 hg2 hg3
         subst hg1
         subst hg3
         have hos:=qom all.l each[j].l i hila hlt
         have hio:i<(orB all.l (each[j].l.take i)).length:=by rw [qg0];exact hila
         have hil:i<s.ls.length:=by rw [<- HALL.out.1];exact hila
         obtain ⟨ub,gc,hub,gf⟩:=qab.get1 hrl i hio
         obtain rfl:ub = .bool (all.l[i]'hila):=by rw [<- hos.2];simpa [qae] using hub
         obtain ⟨bl,ol,csl,hBE,_,hbls,_,hrb,hcb⟩:=((RSl.good qae.good).move HVE.out hkE9).get i hlt
         obtain rfl:=hBE
         obtain rfl:=hrb
         have d0:=(by simpa using hcb.get 0 _:wr.cell? ⟨bl,ol+i,none⟩=some (.bool (each[j].l[i]'hlt)))
         have hset:=qab.put1 qae.good hrl hg2 i (.bool (all.l[i] || each[j].l[i])) (all.l[i] || each[j].l[i]) hio rfl
         rw [hos.1] at hset
         have hzgb:Za gb:=by rw [hZa];exact .inl rfl
         have hbset:Bt Za w8 (wr.setCell ⟨gb,i,none⟩ (.bool (all.l[i] || each[j].l[i]))):=Bt.set (p:=⟨gb,i,none⟩) hb9.out (.inr hzgb) _
         have hreset:RBs we.heap.size (wr.setCell ⟨gb,i,none⟩ (.bool (all.l[i] || each[j].l[i]))) all.e (.slice A2 s.es.length k2):=qfd hre (Bt.set (Z:=fun q=>q=gb) (p:=⟨gb,i,none⟩) (Bt.refl _ wr) (.inr rfl) _) fun q e e'=>by subst e';exact HRC.out.ap q rfl e
         obtain ⟨x,hx⟩:∃ x,(all.l[i]'hila)=x:=⟨_,rfl⟩
         obtain ⟨y,hy⟩:∃ y,(each[j].l[i]'hlt)=y:=⟨_,rfl⟩
         rw [hx,hy] at hset hbset hreset
         rw [hx] at gc
         rw [hy] at d0
         have HSET:=Hd hset
         have HBSET:=Hd hbset
         have HRESET:=Hd hreset
         have gfd:wr.drew.frozen? ⟨gb,i,none⟩=false:=gf
         have gcd:wr.drew.cell? ⟨gb,i,none⟩=some (.bool x):=gc
         clear hset hbset hreset hx hy hub hos hrl hre hcb hg2 hkE9
         cases x <;> cases y
         all_goals go_wp2_with fail
         all_goals go_region
         all_goals go_wp2_with fail
         all_goals go_roundw
         all_goals first
          | exact ⟨i+1,by omega,by go_num,by first | exact HSET.out | exact HSET.out.ext qae.good (Below.drew (Ext.refl _)),by first | exact HRESET.out | exact HRESET.out.ext qae.good (Below.drew (Ext.refl _)),by first | exact HBSET.out | exact HBSET.out.drew⟩
          | (simp [intOf];omega)
        ·have hil0:i=each[j].l.length:=by omega
         have hrl2:RBs we.heap.size wr (orB all.l each[j].l) (.slice A1 s.ls.length k1):=by rw [hil0,List.take_length] at hrl;exact hrl
         have c1B:=hb9.out.cell c1 hbez
         have HB9:=Hd hb9.out
         have HRL2:=Hd hrl2
         have HRE2:=Hd hre
         clear hrl hrl2 hre hil0 hkE9 hb9
         go_wp2_with fail
         go_loopw [114] (fun vi wr=>∃ i:Nat,i<=each[j].e.length∧vi = .int .i64 i∧RBs we.heap.size wr (orB all.l each[j].l) (.slice A1 s.ls.length k1)∧RBs we.heap.size wr (orB all.e (each[j].e.take i)) (.slice A2 s.es.length k2)∧Hid (Bt Za w8 wr)) (fun vi _=>each[j].e.length-(intOf vi).toNat)
         case atStart=>exact ⟨0,Nat.zero_le _,rfl,HRL2.out,by rw [List.take_zero,qor];exact HRE2.out,HB9.out⟩
         case round =>
          obtain ⟨i,hi,rfl,hrl,hre,hb9⟩:=hrel
          have hkE9:Kp (fun b=>b<we.heap.size) wA wr:=(HBA8.out.trans hb9.out).kp fun q _ hq hz=>by have:=(HZA.out q hz).1;omega
          have z0:=hb9.out.cell r0 (fun h=>by have:=HZA.out _ h;simp at this)
          have z1:=hb9.out.cell r1 (fun h=>by have:=HZA.out _ h;simp at this)
          by_cases hlt:i<each[j].e.length
          ·have hila:i<all.e.length:=by rw [HALL.out.2,<- HCL.out.2];exact hlt
           obtain ⟨gb,cap,hge⟩:=(by obtain ⟨news,hrow,_⟩:=hre;exact Joins.ownsRow_form hrow (by rw [qg0];omega):∃ gb cap,Value.slice A2 s.es.length k2 = .slice (some ⟨gb,0,none⟩) (orB all.e (each[j].e.take i)).length cap)
           injection hge with hg1 hg2 hg3
           subst hg1
           subst hg3
           have hos:=qom all.e each[j].e i hila hlt
           have hio:i<(orB all.e (each[j].e.take i)).length:=by rw [qg0];exact hila
           have hil:i<s.es.length:=by rw [<- HALL.out.2];exact hila
           obtain ⟨ub,gc,hub,gf⟩:=qab.get1 hre i hio
           obtain rfl:ub = .bool (all.e[i]'hila):=by rw [<- hos.2];simpa [qae] using hub
           obtain ⟨bl,ol,csl,hBE,_,hbls,_,hrb,hcb⟩:=((RSl.good qae.good).move HUE.out hkE9).get i hlt
           obtain rfl:=hBE
           obtain rfl:=hrb
           have d0:=(by simpa using hcb.get 0 _:wr.cell? ⟨bl,ol+i,none⟩=some (.bool (each[j].e[i]'hlt)))
           have hset:=qab.put1 qae.good hre hg2 i (.bool (all.e[i] || each[j].e[i])) (all.e[i] || each[j].e[i]) hio rfl
           rw [hos.1] at hset
           have hzgb:Za gb:=by rw [hZa];exact .inr rfl
           have hbset:Bt Za w8 (wr.setCell ⟨gb,i,none⟩ (.bool (all.e[i] || each[j].e[i]))):=Bt.set (p:=⟨gb,i,none⟩) hb9.out (.inr hzgb) _
           have hreset:RBs we.heap.size (wr.setCell ⟨gb,i,none⟩ (.bool (all.e[i] || each[j].e[i]))) (orB all.l each[j].l) (.slice A1 s.ls.length k1):=qfd hrl (Bt.set (Z:=fun q=>q=gb) (p:=⟨gb,i,none⟩) (Bt.refl _ wr) (.inr rfl) _) fun q e e'=>by subst e';exact HRC.out.ap q e rfl
           obtain ⟨x,hx⟩:∃ x,(all.e[i]'hila)=x:=⟨_,rfl⟩
           obtain ⟨y,hy⟩:∃ y,(each[j].e[i]'hlt)=y:=⟨_,rfl⟩
           rw [hx,hy] at hset hbset hreset
           rw [hx] at gc
           rw [hy] at d0
           have HSET:=Hd hset
           have HBSET:=Hd hbset
           have HRESET:=Hd hreset
           have gfd:wr.drew.frozen? ⟨gb,i,none⟩=false:=gf
           have gcd:wr.drew.cell? ⟨gb,i,none⟩=some (.bool x):=gc
           clear hset hbset hreset hx hy hub hos hrl hre hcb hg2 hkE9
           cases x <;> cases y
           all_goals go_wp2_with fail
           all_goals go_region
           all_goals go_wp2_with fail
           all_goals go_roundw
           all_goals first
            | exact ⟨i+1,by omega,by go_num,by first | exact HRESET.out | exact HRESET.out.ext qae.good (Below.drew (Ext.refl _)),by first | exact HSET.out | exact HSET.out.ext qae.good (Below.drew (Ext.refl _)),by first | exact HBSET.out | exact HBSET.out.drew⟩
            | (simp [intOf];omega)
          ·have hil0:i=each[j].e.length:=by omega
           have hre2:RBs we.heap.size wr (orB all.e each[j].e) (.slice A2 s.es.length k2):=by rw [hil0,List.take_length] at hre;exact hre
           have hbF:Bt Za wA wr:=HBA8.out.trans hb9.out
           have hoF:qab qac 1 3 wA.heap.size (fun _=>False) wr (out++[(j:Int)]) (.slice (some ⟨g8,0,none⟩) (out.length+1) c8):=hp8.out.bt qac.good hb9.out fun q _ hz=>⟨id,fun e=>by have h1:=HOW9.out q e;have h2:=HZA.out q hz;omega⟩
           have hRCF:RCv we.heap.size wr (orCv all each[j]) (.slice A1 s.ls.length k1) (.slice A2 s.es.length k2):=⟨hrl,hre2,HRC.out.ap⟩
           have HBF:=Hd hbF
           have HOF:=Hd hoF
           have HRF:=Hd hRCF
           clear hrl hre hre2 hil0 hkE9 hb9 hbF hoF hRCF
           go_wp2_with fail
           go_roundw
           case rel =>
            have hll:(out++[(j:Int)]).length=out.length+1:=by simp
            refine ⟨out++[(j:Int)],some ⟨g8,0,none⟩,c8,orCv all each[j],by rw [hll],by rw [hll];exact HOF.out,HRF.out,HBF.out,⟨?_,?_,?_⟩,?_⟩
            ·rw [hll,show s.ls.length+s.es.length+1-(out.length+1)=m from by omega]
             exact HCH1.out
            ·show (orB _ _).length=_
             rw [qg0];exact HALL.out.1
            ·show (orB _ _).length=_
             rw [qg0];exact HALL.out.2
            ·have:=HPP.out
             rw [hll]
             omega
           case measure=>simp;omega
end
end Go.Proofs.YtegenalcheooeaaGreat
