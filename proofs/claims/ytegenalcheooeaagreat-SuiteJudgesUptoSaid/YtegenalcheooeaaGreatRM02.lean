/- Of the proof of a law of the suites: RFirst, ROut, RListed, PMust. -/
import Derived.Test.YtegenalcheooeaaGreatB05
import Derived.Test.YtegenalcheooeaaGreatB06
import Derived.Test.YtegenalcheooeaaGreatB10
import Derived.Test.YtegenalcheooeaaGreatB15
import Derived.Test.YtegenalcheooeaaGreatB18
import Derived.Test.YtegenalcheooeaaGreatB20
import Derived.Test.YtegenalcheooeaaGreatB24
import Derived.Test.YtegenalcheooeaaGreatB25
import Derived.Test.YtegenalcheooeaaGreatRM01
set_option linter.unusedSectionVars false
set_option linter.unusedSimpArgs false
set_option linter.unusedVariables false
namespace Go.Proofs.YtegenalcheooeaaGreat
open Go.RowKit
attribute [local go_sem] cell?_exto
section

def qgx (es:List Ed) (n:Int) (h:Nat):Bool:=match es[h]? with | some e=>decide (e.f<n) | none=>false
theorem qgw {es:List Ed} {n:Int} {h:Nat} (hh:h<es.length):qgx es n h=decide (es[h].f<n):=by simp [qgx,List.getElem?_eq_getElem hh]
def qb0 (es:List Ed) (n:Int):Nat:=bsI (qgx es n) es.length 0 es.length
theorem qkv (es:List Ed) (n:Int):qb0 es n<=es.length:=(qkc _ _ 0 es.length (Nat.zero_le _)).2
set_option maxHeartbeats 1000000 in
set_option maxRecDepth 100000 in
theorem first_c (S:Nat->Prop) (s:Sy) (cs:List Value) (n:Int) (w:World) (hx:RSy S w s cs) (hn:s.es.length<=4611686018427387903) :
  Calls Tryz.prog 263 #[.agg cs.toArray,.int .i64 n] w fun e w'=>e = .returned (.int .i64 (qb0 s.es n:Nat))∧Ext w w':=by
 obtain ⟨_,v,u,rfl,hv,hu⟩:=id hx
 obtain ⟨A,c,rfl,hc,hc0⟩:=hv.val
 obtain ⟨A',c',rfl,hc',hc0'⟩:=hu.val
 have HE:=Hd hu
 clear hx hv hu
 obtain ⟨m,hm⟩:∃ m,s.n=m:=⟨_,rfl⟩
 rw [hm]
 clear hm
 obtain ⟨W0,hW0⟩:∃ W0,w.alloc (.cells #[.int .i64 m,.slice A s.ls.length c,.slice A' s.es.length c'] 25)=W0:=⟨_,rfl⟩
 have hE0:Ext w W0:=by rw [<- hW0];exact (Ext.refl w).alloc _
 have hB0:qag W0 w.heap.size 25 [.int .i64 m,.slice A s.ls.length c,.slice A' s.es.length c']:=by rw [<- hW0];exact qag.new w 25 _
 have x2:=hB0.cell 2 _
 have xz:=hB0.lt
 have HB0:=Hd hB0
 have HE0:=Hd hE0
 obtain ⟨p0,hp0⟩:∃ p0,w.heap.size=p0:=⟨_,rfl⟩
 rw [hp0] at HB0 x2 xz
 have HP0:=Hd hp0
 have HW0:=Hd hW0
 clear hE0 hB0 hp0 hW0
 go_enter Tryz.func263,Tryz.ntmps263
 go_wp2_with fail
 rw [HW0.out,HP0.out]
 go_wp2_with fail
 go_loopw [5,6] (fun vi vj wr=>∃ i j:Nat,i<=j∧j<=s.es.length∧vi = .int .i64 i∧vj = .int .i64 j∧Ext W0 wr∧Hid (qb0 s.es n=bsI (qgx s.es n) (j-i) i j)) (fun vi vj _=>((intOf vj)-(intOf vi)).toNat)
 case atStart=>exact ⟨0,s.es.length,Nat.zero_le _,Nat.le_refl _,rfl,rfl,Ext.refl _,rfl⟩
 case round =>
  clear x2 xz
  obtain ⟨i,j,hij,hj,rfl,rfl,hE,hbs⟩:=hrel
  have hbx:=HB0.out.ext hE
  have x2:=hbx.cell 2 _
  have xz:=hbx.lt
  clear hbx
  by_cases hlt:i<j
  ·have hst0:=qmn (qgx s.es n) i j hlt
   obtain ⟨h,hh⟩:∃ h,(i+j) / 2=h:=⟨_,rfl⟩
   have y1:((i:Int)+(j:Int)) / 2=(h:Int):=by omega
   have y3:((i:Int)+(j:Int)).tdiv 2=(h:Int):=by rw [Int.tdiv_eq_ediv_of_nonneg (by omega)];exact y1
   have hm:h<s.es.length:=by omega
   have hm1:i<=h:=by omega
   have hm2:h<j:=by omega
   rw [hh] at hst0
   clear hh
   obtain ⟨b,off,cs,rfl,hb,hS,hl,hr,hcell⟩:=(qcj.good.bel HE.out (HE0.out.trans' hE)).get h hm
   obtain ⟨_,_,_,rfl⟩:=id hr
   have g0:=hcell.get 0 _
   simp only [Nat.add_zero] at g0
   have z1:(0:Int)<=(h:Int):=by omega
   have z2:(h:Int)<(s.es.length:Int):=by omega
   have hst:=Hd hst0
   have hpa:=qgw (n:=n) hm
   obtain ⟨q1,hq⟩:∃ q,s.es[h].f=q:=⟨_,rfl⟩
   rw [hq] at hpa g0
   clear hcell hl hS hr hst0 hq
   by_cases hc2:q1<n
   ·have HC:=Hd (hpa.trans (decide_eq_true hc2))
    clear hpa
    go_wp2_with fail
    go_roundw
    case rel =>
     refine ⟨h+1,j,by omega,hj,by go_num,rfl,hE,?_⟩
     rw [hbs.out,hst.out,if_pos HC.out]
     exact rfl
    case measure=>simp [intOf];omega
   ·have HC:=Hd (hpa.trans (decide_eq_false hc2))
    clear hpa
    go_wp2_with fail
    go_roundw
    case rel =>
     refine ⟨i,h,by omega,by omega,rfl,rfl,hE,?_⟩
     rw [hbs.out,hst.out,if_neg (by rw [HC.out];decide)]
     exact rfl
    case measure=>simp [intOf];omega
  ·obtain rfl:i=j:=by omega
   have HI:=Hd (show qb0 s.es n=i by rw [hbs.out,show i-i=0 from by omega,bsI])
   clear hlt hbs
   go_wp2_with fail
   go_ret
   exact ⟨by rw [HI.out];rfl,HE0.out.trans' hE⟩
theorem qnu (p:Nat->Bool) (n:Nat) (hm:∀ a b,a<=b->p b=true->p a=true):∀ (f i j:Nat),i<=j->j-i<=f->(∀ k,k<i->p k=true)->(∀ k,j<=k->p k=false)->(∀ k,k<bsI p f i j->p k=true)∧(∀ k,bsI p f i j<=k->p k=false)
 | 0,i,j,h,hf,h1,h2=>by
  rw [bsI]
  exact ⟨h1,fun k hk=>h2 k (by omega)⟩
 | f+1,i,j,h,hf,h1,h2=>by
  rw [bsI]
  by_cases hlt:i<j
  ·rw [if_pos hlt]
   by_cases hp:p ((i+j) / 2)=true
   ·rw [if_pos hp]
    exact qnu p n hm f _ j (by omega) (by omega) (fun k hk=>hm k _ (by omega) hp) h2
   ·rw [if_neg hp]
    refine qnu p n hm f i _ (by omega) (by omega) h1 fun k hk=>?_
    cases hk':p k with
    | false=>rfl
    | true=>exact absurd (hm _ k hk hk') hp
  ·rw [if_neg hlt]
   exact ⟨h1,fun k hk=>h2 k (by omega)⟩
def qhk (es:List Ed):Prop:=∀ i j,(hij:i<=j)->(hj:j<es.length)->(es[i]'(by omega)).f<=es[j].f
theorem qvl {s:Sy} (h:∀ j,qk9 s j):qhk s.es:=by
 intro i j hij
 induction j with
 | zero =>
  intro hj
  obtain rfl:i=0:=by omega
  exact Int.le_refl _
 | succ j ih =>
  intro hj
  rcases Nat.lt_or_ge i (j+1) with h' | h'
  ·have h1:=ih (by omega) (by omega)
   have h2:=(qj6 _ _).1 ((h (j+1) hj).2 (by omega))
   simp only [Nat.add_sub_cancel] at h2
   rcases h2 with h2 | ⟨h2,_⟩ <;> omega
  ·obtain rfl:i=j+1:=by omega
   exact Int.le_refl _
theorem qlm {es:List Ed} (hs:qhk es) (n:Int):(∀ k,k<qb0 es n->qgx es n k=true)∧(∀ k,qb0 es n<=k->qgx es n k=false):=by
 refine qnu _ 0 (fun a b hab hb=>?_) es.length 0 es.length (Nat.zero_le _) (by omega) (fun k hk=>absurd hk (by omega)) fun k hk=>by simp [qgx,List.getElem?_eq_none hk]
 by_cases hl:b<es.length
 ·rw [qgw hl,decide_eq_true_eq] at hb
  rw [qgw (by omega),decide_eq_true_eq]
  have:=hs a b hab hl
  omega
 ·simp [qgx,List.getElem?_eq_none (Nat.le_of_not_lt hl)] at hb
theorem qr9 {es:List Ed} (hs:qhk es) (n:Int):qb0 es n<=qb0 es (n+1):=by
 refine Nat.le_of_not_lt fun h=>?_
 have h1:=(qlm hs n).1 _ h
 have h2:=(qlm hs (n+1)).2 _ (Nat.le_refl _)
 have hl:qb0 es (n+1)<es.length:=Nat.lt_of_lt_of_le h (qkv es n)
 rw [qgw hl,decide_eq_true_eq] at h1
 rw [qgw hl,decide_eq_false_iff_not] at h2
 omega
def qdr (es:List Ed) (n:Int):List Ed:=(es.drop (qb0 es n)).take (qb0 es (n+1)-qb0 es n)
theorem qqc {es:List Ed} (hs:qhk es) (n:Int):(qdr es n).length=qb0 es (n+1)-qb0 es n:=by
 have:=qkv es (n+1)
 rw [qdr,List.length_take,List.length_drop]
 omega
theorem qm1 {es:List Ed} (hs:qhk es) (n:Int):qdr es n=es.filter fun e=>decide (e.f=n):=by
 have hlo:=qlm hs n
 have hhi:=qlm hs (n+1)
 have hm:=qr9 hs n
 have hle:=qkv es (n+1)
 have h0:es=es.take (qb0 es n)++(qdr es n++es.drop (qb0 es (n+1))):=by
  have:es.drop (qb0 es n)=qdr es n++es.drop (qb0 es (n+1)):=by
   rw [qdr]
   conv=>lhs;rw [<- List.take_append_drop (qb0 es (n+1)-qb0 es n) (es.drop (qb0 es n))]
   rw [List.drop_drop,Nat.add_sub_cancel' hm]
  rw [<- this,List.take_append_drop]
 have ha:(es.take (qb0 es n)).filter (fun e=>decide (e.f=n))=[]:=by
  rw [List.filter_eq_nil_iff]
  intro e he
  obtain ⟨i,hi,rfl⟩:=List.getElem_of_mem he
  rw [List.length_take] at hi
  have:=hlo.1 i (by omega)
  rw [qgw (by omega),decide_eq_true_eq] at this
  rw [List.getElem_take]
  simp
  omega
 have hb:(qdr es n).filter (fun e=>decide (e.f=n))=qdr es n:=by
  rw [List.filter_eq_self]
  intro e he
  obtain ⟨i,hi,rfl⟩:=List.getElem_of_mem he
  have hi':=hi
  rw [qqc hs] at hi'
  have h1:=hlo.2 (qb0 es n+i) (by omega)
  have h2:=hhi.1 (qb0 es n+i) (by omega)
  rw [qgw (by omega),decide_eq_false_iff_not] at h1
  rw [qgw (by omega),decide_eq_true_eq] at h2
  simp only [qdr,List.getElem_take,List.getElem_drop]
  simp
  omega
 have hc:(es.drop (qb0 es (n+1))).filter (fun e=>decide (e.f=n))=[]:=by
  rw [List.filter_eq_nil_iff]
  intro e he
  obtain ⟨i,hi,rfl⟩:=List.getElem_of_mem he
  rw [List.length_drop] at hi
  have:=hhi.2 (qb0 es (n+1)+i) (by omega)
  rw [qgw (by omega),decide_eq_false_iff_not] at this
  rw [List.getElem_drop]
  simp
  omega
 conv=>rhs;rw [h0]
 rw [List.filter_append,List.filter_append,ha,hb,hc,List.nil_append,List.append_nil]
theorem qqq {es:List Ed} (hs:qhk es) (n:Int):qdr es n=(qaw es n).map fun i=>es[i]:=by
 rw [qm1 hs,qaw]
 have:es=(List.finRange es.length).map fun i=>es[i]:=by
  apply List.ext_getElem
  ·simp
  ·intro i h1 h2;simp
 conv=>lhs;rw [this]
 rw [List.filter_map]
 rfl
theorem RSl.mid {α:Type} {R:Rdr α} {k:Nat} {S:Nat->Prop} {W:World} {xs:List α} {b off n c:Nat} (h:RSl R k S W xs [.slice (some ⟨b,off,none⟩) n c]) (i m:Nat) (hm:i+m<=xs.length) (h0:0<m) :
  RSl R k S W ((xs.drop i).take m) [.slice (some ⟨b,off+i*k,none⟩) m m]:=by
 obtain ⟨A,c',e,h1,h2,h3⟩:=h
 injection e with e
 injection e with e1 e2 e3
 subst e1 e2 e3
 have hl:((xs.drop i).take m).length=m:=by rw [List.length_take,List.length_drop];omega
 refine ⟨_,m,by rw [hl],by rw [hl];omega,by omega,.inr ?_⟩
 rcases h3 with rfl | ⟨b',off',e,h4,h5,h6⟩
 ·simp at hm;omega
 ·injection e with e
  injection e with e1 e2
  subst e1 e2
  refine ⟨b,off+i*k,rfl,h4,h5,qcu.of_get fun j hj=>?_⟩
  rw [hl] at hj
  obtain ⟨cs,g1,g2,g3⟩:=h6.get (i+j) (by omega)
  refine ⟨cs,g1,by rw [List.getElem_take,List.getElem_drop];exact g2,?_⟩
  rw [Nat.add_assoc,<- Nat.add_mul]
  exact g3
end
section

def OutPost (S:Nat->Prop) (l:List Ed) (w:World) (e:Ending) (w':World):Prop:=∃ A1 c1,e = .returned (.slice A1 l.length c1)∧RSl REd 3 S w' l [.slice A1 l.length c1]∧Ext w w'
set_option maxHeartbeats 1000000 in
set_option maxRecDepth 100000 in
theorem OutOf_c (S:Nat->Prop) (s:Sy) (hs:qhk s.es) (cs:List Value) (n:Int) (w:World) (hx:RSy S w s cs) (hn:s.es.length<=100000) (hn0 : -1<=n) (hn1:n<=1000000) :
  Calls Tryz.prog 226 #[.agg cs.toArray,.int .i64 n] w (OutPost S (qdr s.es n) w):=by
 have hc1:=fun W (hb:Ext w W)=>first_c S s cs n W (RSy.good.bel hx hb) (by omega)
 have hc2:=fun W (hb:Ext w W)=>first_c S s cs (n+1) W (RSy.good.bel hx hb) (by omega)
 have hlen:=qqc hs n
 have hmo:=qr9 hs n
 have hle:=qkv s.es (n+1)
 have HO:Hid (qdr s.es n=(s.es.drop (qb0 s.es n)).take (qb0 s.es (n+1)-qb0 s.es n)):=rfl
 obtain ⟨lo,hlo⟩:∃ lo,qb0 s.es n=lo:=⟨_,rfl⟩
 obtain ⟨hi,hhi⟩:∃ hi,qb0 s.es (n+1)=hi:=⟨_,rfl⟩
 rw [hlo] at hc1 hlen hmo HO
 rw [hhi] at hc2 hlen hmo hle HO
 obtain ⟨_,v,u,rfl,hv,hu⟩:=id hx
 obtain ⟨A,c,rfl,hc,hc0⟩:=hv.val
 obtain ⟨A',c',rfl,hc',hc0'⟩:=hu.val
 have HE:=Hd hu
 obtain ⟨m,hm⟩:∃ m,s.n=m:=⟨_,rfl⟩
 rw [hm] at hc1 hc2
 rw [hm]
 obtain ⟨LE,hLE⟩:∃ LE,qdr s.es n=LE:=⟨_,rfl⟩
 rw [hLE] at hlen HO
 rw [hLE]
 clear hx hv hu hm hLE hlo hhi
 have u1:IntKind.i64.wrap (n+1)=n+1:=IntWalk.i64_in _ (by omega)
 have hlc:hi<=c':=by omega
 rcases Nat.lt_or_ge lo hi with hlt | hge
 ·have hlt':lo<s.es.length:=by omega
  obtain ⟨b,off,cs,rfl,hb,hS,hl,hr,hcell⟩:=HE.out.get lo hlt'
  have hne:¬ hi=lo:=by omega
  clear hS hl hr hcell
  go_enter Tryz.func226,Tryz.ntmps226
  go_wp2_with fail
  refine (hc1 _ bel).mono ?_
  rintro e w1 ⟨rfl,h1⟩
  have hcl:=h1.cells
  have hsz:w.heap.size<w1.heap.size:=by have:=h1.size;simp at this;omega
  have hE1:Ext w w1:=bel
  go_wp2_with fail
  refine (hc2 _ bel).mono ?_
  rintro e w2 ⟨rfl,h2⟩
  have hcl2:=h2.cells
  have hE2:Ext w w2:=bel
  go_wp2_with fail
  go_ret
  refine ⟨some ⟨b,off+lo*3,none⟩,hi-lo,?_,?_,hE2⟩
  ·rw [hlen];rfl
  ·rw [hlen,HO.out]
   exact RSl.mid (qcj.good.bel HE.out hE2) lo (hi-lo) (by omega) (by omega)
 ·obtain rfl:lo=hi:=by omega
  have hLE:LE=[]:=List.eq_nil_of_length_eq_zero (by omega)
  go_enter Tryz.func226,Tryz.ntmps226
  go_wp2_with fail
  refine (hc1 _ bel).mono ?_
  rintro e w1 ⟨rfl,h1⟩
  have hcl:=h1.cells
  have hsz:w.heap.size<w1.heap.size:=by have:=h1.size;simp at this;omega
  have hE1:Ext w w1:=bel
  go_wp2_with fail
  refine (hc2 _ bel).mono ?_
  rintro e w2 ⟨rfl,h2⟩
  have hcl2:=h2.cells
  have hE2:Ext w w2:=bel
  go_wp2_with fail
  go_ret
  subst hLE
  exact ⟨A',0,rfl,⟨A',0,rfl,Nat.le_refl _,by omega,.inl rfl⟩,hE2⟩
end
section
open Go.Shelf
def qcy (l:List Bool) (i:Nat):Bool:=l.getD i false
def mkT (l:List Bool) (k:Nat):List Int:=((List.range k).filter (qcy l)).map fun i:Nat=>(i:Int)
abbrev mkL (l:List Bool):List Int:=mkT l l.length
theorem qsn (l:List Bool) (k:Nat):mkT l (k+1)=if qcy l k=true then mkT l k++[(k:Int)] else mkT l k:=by
 unfold mkT
 rw [List.range_succ,List.filter_append,List.map_append,List.filter_cons]
 by_cases h:qcy l k=true
 ·rw [if_pos h,if_pos h]
  rfl
 ·rw [if_neg h,if_neg h,List.filter_nil,List.map_nil,List.append_nil]
theorem mkT_mem (l:List Bool) (k:Nat) (j:Int):j∈mkT l k↔∃ i:Nat,i<k∧qcy l i=true∧(i:Int)=j:=by
 unfold mkT
 simp only [List.mem_map,List.mem_filter,List.mem_range,and_assoc]
theorem qmk (l:List Bool) (k:Nat):(mkT l k).length<=k:=by
 unfold mkT
 have:=List.length_filter_le (qcy l) (List.range k)
 rw [List.length_map]
 simpa using this
theorem qd1 {l:List Bool} {k:Nat} (h:k<l.length):qcy l k=l[k]:=by simp [qcy,List.getD_eq_getElem?_getD,List.getElem?_eq_getElem h]
theorem qgg:(Tryz.prog.info? 3).map (fun i=>(i.zero,i.size,i.bytes))=some (some (.int .i64 0),1,8):=by kernel_rfl
def MarkP (r:List Int) (w:World) (e:Ending) (w':World):Prop:=∃ A c,e = .returned (.slice A r.length c)∧qab qac 1 3 w.heap.size (fun _=>False) w' r (.slice A r.length c)∧Ext w w'
set_option maxHeartbeats 1000000 in
set_option maxRecDepth 100000 in
theorem quk (S:Nat->Prop) (l:List Bool) (v:Value) (w:World) (hx:RSl qad 1 S w l [v]) (hl:l.length<=1000000):Calls Tryz.prog 108 #[v] w (MarkP (mkL l) w):=by
 obtain ⟨A,c,rfl,hc,hc0⟩:=hx.val
 have HX:=Hd hx
 clear hx
 go_enter Tryz.func108,Tryz.ntmps108
 go_wp2_with fail
 go_loopw [3,4] (fun v3 vi wr=>∃ (k:Nat) (ys:List Int) (Ao:Option Addr) (co:Nat),k<=l.length∧vi = .int .i64 k∧v3 = .slice Ao ys.length co∧Hid (ys=mkT l k)∧Ext w wr∧Hid (qab qac 1 3 w.heap.size (fun _=>False) wr ys (.slice Ao ys.length co))) (fun _ vi _=>l.length-(intOf vi).toNat)
 case atStart=>exact ⟨0,[],none,0,Nat.zero_le _,rfl,rfl,by simp [mkT,Hid],Ext.refl _,qab.nil ..⟩
 case round =>
  obtain ⟨k,ys,Ao,co,hk,rfl,rfl,hY,hE,hO⟩:=hrel
  by_cases hlt:k<l.length
  ·obtain ⟨b,off,cs,rfl,hb,hSb,hl1,hr,hcell⟩:=((RSl.good qad.good).bel HX.out hE).get k hlt
   obtain rfl:cs=[.bool l[k]]:=hr
   have a0:=hcell.get 0 _
   simp only [Nat.add_zero,Nat.mul_one] at a0
   have HST:=Hd (qsn l k)
   rw [qd1 hlt] at HST
   cases hb2:l[k]
   ·rw [hb2] at a0 HST
    clear hl1 hcell hSb hb2
    go_wp2_with fail
    go_roundw
    case rel=>exact ⟨k+1,ys,Ao,co,by omega,by go_num,rfl,by rw [hY.out];exact HST.out.symm,hE,hO.out⟩
    case measure=>simp [intOf];omega
   ·rw [hb2] at a0 HST
    have hyl:ys.length<=1000000:=by have:=qmk l k;rw [hY.out];omega
    obtain ⟨g2,c2,w2,hr2,ho2,hb3,_,_⟩:=qct qac.good (by decide) w.heap.size 3 53 (.int .i64 0) 8 Tryz.underlying53 qgg rfl (by decide) (fun _=>False) wr ys (.slice Ao ys.length co) (k:Int) [.int .i64 k] hO.out ⟨rfl,by unfold I64;omega⟩ hE.size hyl
    have HO2:=Hd ho2
    have hlo:∀ q,(Value.slice Ao ys.length co).ownBlock=some q->w.heap.size<=q:=fun q e=>(hO.out.own_lt e).1
    have HB2:Hid (Ext w w2):=Bt.new hE hb3 fun q _ h=>hlo q h
    have HY2:Hid (ys++[(k:Int)]=mkT l (k+1)):=by
     show _=_
     rw [hY.out]
     exact HST.out.symm
    clear hl1 hcell hSb hb2 hO ho2 hb3 hlo hY HST
    go_wp2_with (at_builtin;refine wpList_append_run rfl _ _ _ rfl _ _ _ rfl rfl hr2 ?_;clear hr2)
    go_roundw
    case rel=>exact ⟨k+1,ys++[(k:Int)],some ⟨g2,0,none⟩,c2,by omega,by go_num,by simp,HY2.out,HB2.out,(by have h:=HO2.out;show qab _ _ _ _ _ _ _ _;simpa using h)⟩
    case measure=>simp [intOf];omega
  ·have hkl:k=l.length:=by omega
   subst hkl
   have hys:=hY.out
   subst hys
   go_wp2_with fail
   go_ret
   exact ⟨Ao,co,rfl,hO.out,hE⟩
end
section

def Inc (l:List Lb):Prop:=l.Pairwise fun a b=>qan a b<0
theorem Inc.of_get {l:List Lb} (h:∀ i,(hi:i+1<l.length)->qan l[i] l[i+1]<0):Inc l:=by
 induction l with
 | nil=>exact List.Pairwise.nil
 | cons a r ih =>
  have hr:Inc r:=ih fun i hi=>h (i+1) (by simpa using hi)
  refine List.pairwise_cons.2 ⟨fun b hb=>?_,hr⟩
  cases r with
  | nil=>simp at hb
  | cons c r =>
   have h0:qan a c<0:=h 0 (by simp)
   rcases List.mem_cons.1 hb with rfl | hb
   ·exact h0
   ·exact qc2.trans _ _ _ h0 ((List.pairwise_cons.1 hr).1 b hb)
theorem Inc.get {l:List Lb} (h:Inc l) {i j:Nat} (hij:i<j) (hj:j<l.length):qan (l[i]'(by omega)) l[j]<0:=List.pairwise_iff_getElem.1 h i j (by omega) hj hij
theorem ql6 (l:List Lb):qfi l=true↔Inc l:=⟨fun h=>Inc.of_get ((qhy l).1 h),fun h=>(qhy l).2 fun i hi=>h.get (Nat.lt_succ_self i) hi⟩
theorem qh8 (x:Lb):¬ qan x x<0:=by have:=qc2.refl x;omega
theorem qkz (p:Nat->Bool) (n:Nat) (hm:∀ a b,a<=b->p b=true->p a=true):∀ (f i j:Nat),i<=j->j-i<=f->(∀ k,k<i->p k=true)->(∀ k,j<=k->p k=false)->(∀ k,k<bsI p f i j->p k=true)∧∀ k,bsI p f i j<=k->p k=false
 | 0,i,j,hij,hf,h1,h2=>by
  rw [bsI]
  exact ⟨h1,fun k hk=>h2 k (by omega)⟩
 | f+1,i,j,hij,hf,h1,h2=>by
  rw [bsI]
  split
  ·split
   ·rename_i hp
    exact qkz p n hm f _ j (by omega) (by omega) (fun k hk=>hm k _ (by omega) hp) h2
   ·rename_i hp
    refine qkz p n hm f i _ (by omega) (by omega) h1 fun k hk=>?_
    cases hpk:p k
    ·rfl
    ·exact absurd (hm _ k hk hpk) hp
  ·exact ⟨h1,fun k hk=>h2 k (by omega)⟩
theorem bsP_mono {l:List Lb} (h:Inc l) (x:Lb) (a b:Nat) (hab:a<=b) (hb:bsP l x b=true):bsP l x a=true:=by
 by_cases hl:b<l.length
 ·rw [qg7 hl,decide_eq_true_eq] at hb
  rw [qg7 (by omega),decide_eq_true_eq]
  by_cases e:a=b
  ·subst e;exact hb
  ·exact qc2.trans _ _ _ (h.get (by omega) hl) hb
 ·simp [bsP,List.getElem?_eq_none (Nat.le_of_not_lt hl)] at hb
theorem qsp {l:List Lb} (h:Inc l) (x:Lb):(∀ k,k<qcq l x->bsP l x k=true)∧∀ k,qcq l x<=k->bsP l x k=false :=
 qkz _ 0 (bsP_mono h x) l.length 0 l.length (Nat.zero_le _) (by omega) (fun k hk=>absurd hk (by omega)) fun k hk=>by simp [bsP,List.getElem?_eq_none hk]
theorem qpp {l:List Lb} (h:Inc l) (x:Lb):qdg x l=true↔x∈l:=by
 have hs:=qsp h x
 constructor
 ·intro hi
  by_cases hb:qcq l x<l.length
  ·rw [qdg,qn3 hb,decide_eq_true_eq] at hi
   rw [<- qc2.eq _ _ hi]
   exact List.getElem_mem hb
  ·rw [qdg,qm2 hb] at hi
   cases hi
 ·intro hx
  obtain ⟨i,hi,rfl⟩:=List.mem_iff_getElem.1 hx
  have e:qcq l l[i]=i:=by
   refine Nat.le_antisymm (Nat.le_of_not_lt fun hlt=>?_) (Nat.le_of_not_lt fun hlt=>?_)
   ·have:=hs.1 i hlt
    rw [qg7 hi,decide_eq_true_eq] at this
    exact qh8 _ this
   ·have:=hs.2 _ (Nat.le_refl _)
    rw [qg7 (by omega),decide_eq_false_iff_not] at this
    exact this (h.get hlt hi)
  rw [qdg,e,qn3 hi,decide_eq_true_eq]
  exact qc2.refl _
theorem Inc.sub {l m:List Lb} (h:Inc l) (hs:m.Sublist l):Inc m:=List.Pairwise.sublist hs h
theorem Inc.sublist:∀ {b a:List Lb},Inc a->Inc b->(∀ x∈a,x∈b)->a.Sublist b
 | [],a,_,_,h=>by
  cases a with
  | nil=>exact List.Sublist.refl _
  | cons x a=>exact absurd (h x (by simp)) (by simp)
 | y :: b,[],_,_,_=>List.nil_sublist _
 | y :: b,x :: a,ha,hb,h=>by
  have ha':=List.pairwise_cons.1 ha
  have hb':=List.pairwise_cons.1 hb
  by_cases e:x=y
  ·subst e
   refine List.Sublist.cons_cons _ (Inc.sublist ha'.2 hb'.2 fun z hz=>?_)
   rcases List.mem_cons.1 (h z (List.mem_cons_of_mem _ hz)) with rfl | hz'
   ·exact absurd (ha'.1 _ hz) (qh8 _)
   ·exact hz'
  ·refine List.Sublist.cons _ (Inc.sublist ha hb'.2 fun z hz=>?_)
   rcases List.mem_cons.1 (h z hz) with rfl | hz'
   ·exfalso
    have hx:x∈b:=by
     rcases List.mem_cons.1 (h x (by simp)) with hx | hx
     ·exact absurd hx e
     ·exact hx
    rcases List.mem_cons.1 hz with hz | hz
    ·exact e hz.symm
    ·exact qh8 _ (qc2.trans _ _ _ (ha'.1 _ hz) (hb'.1 _ hx))
   ·exact hz'
theorem subB_iff {a b:List Lb} (hb:Inc b):subB a b=true↔∀ x∈a,x∈b:=by
 unfold subB
 rw [Bool.not_eq_true',List.any_eq_false]
 refine forall_congr' fun x=>forall_congr' fun _=>?_
 rw [<- qpp hb x]
 cases qdg x b <;> simp
theorem qj2 {a b:List Lb} (hb:Inc b):qel a b=true↔∃ x∈a,x∈b:=by
 unfold qel
 rw [List.any_eq_true]
 exact exists_congr fun x=>and_congr_right fun _=>qpp hb x
theorem qjs (l:List Lb) (x y:Lb):y∈qcm l x↔y∈l∨y=x:=by
 refine ⟨qr5 l x y,fun h=>?_⟩
 rw [qcm]
 rcases h with h | rfl
 ·rw [<- List.take_append_drop (qcq l x) l] at h
  rcases List.mem_append.1 h with h | h
  ·simp [h]
  ·simp [h]
 ·simp
theorem qpt {l:List Lb} (h:Inc l) (x:Lb) (hx:x∉l):Inc (qcm l x):=by
 have hs:=qsp h x
 have hlt:∀ y∈l.take (qcq l x),qan y x<0:=fun y hy=>by
  obtain ⟨i,hi,rfl⟩:=List.mem_iff_getElem.1 hy
  rw [List.length_take] at hi
  have:=hs.1 i (by omega)
  rw [qg7 (by omega),decide_eq_true_eq] at this
  rw [List.getElem_take]
  exact this
 have hgt:∀ y∈l.drop (qcq l x),qan x y<0:=fun y hy=>by
  have hyl:=List.mem_of_mem_drop hy
  obtain ⟨i,hi,rfl⟩:=List.mem_iff_getElem.1 hy
  rw [List.length_drop] at hi
  have:=hs.2 (qcq l x+i) (by omega)
  rw [qg7 (by omega),decide_eq_false_iff_not] at this
  rw [List.getElem_drop] at hyl ⊢
  have h2:=(qc2.sgn x (l[qcq l x+i]'(by omega)))
  have h3:qan (l[qcq l x+i]'(by omega)) x≠0:=fun e=>hx (qc2.eq _ _ e ▸ hyl)
  omega
 refine List.pairwise_append.2 ⟨List.pairwise_append.2 ⟨h.sub (List.take_sublist _ _),List.pairwise_singleton _ _,fun a ha b hb=>?_⟩,h.sub (List.drop_sublist _ _),fun a ha b hb=>?_⟩
 ·rw [List.mem_singleton.1 hb]
  exact hlt a ha
 ·rcases List.mem_append.1 ha with ha | ha
  ·exact qc2.trans _ _ _ (hlt a ha) (hgt b hb)
  ·rw [List.mem_singleton.1 ha]
   exact hgt b hb
section
variable {α:Type} {cf:α->α->Int} {eq:α->α->Bool}
theorem quj (he:∀ x y,eq x y=true↔x=y):∀ (ys:List α) (p x:α),(x=p∨x∈qdj eq p ys)↔x∈p :: ys
 | [],p,x=>by simp [qdj]
 | y :: ys,p,x=>by
  have ih:=quj he ys y x
  rw [qdj]
  by_cases h:eq y p=true
  ·have e:=(he y p).1 h
   subst e
   rw [if_pos h,ih]
   simp
  ·rw [if_neg h,List.mem_cons,ih,List.mem_cons,List.mem_cons,List.mem_cons]
theorem qsk (he:∀ x y,eq x y=true↔x=y) (l:List α) (x:α):x∈qbv eq l↔x∈l:=by
 cases l with
 | nil=>rw [qbv]
 | cons p ys=>rw [qbv,List.mem_cons,quj he]
theorem qqg (h:qdh cf) (he:∀ x y,eq x y=true↔x=y):∀ (ys:List α) (p:α),Srt cf (p :: ys)->(p :: qdj eq p ys).Pairwise fun a b=>cf a b<0
 | [],p,_=>by rw [qdj];exact List.pairwise_singleton _ _
 | y :: ys,p,hs=>by
  have hs':=List.pairwise_cons.1 hs
  have ih:=qqg h he ys y hs'.2
  rw [qdj]
  by_cases e:eq y p=true
  ·rw [if_pos e]
   have e':=(he y p).1 e
   subst e'
   exact ih
  ·rw [if_neg e]
   have hpy:cf p y<0:=by
    have h1:=hs'.1 y (by simp)
    have h2:cf p y≠0:=fun h0=>e ((he y p).2 (h.eq p y h0).symm)
    omega
   refine List.pairwise_cons.2 ⟨fun z hz=>?_,ih⟩
   rcases List.mem_cons.1 hz with rfl | hz
   ·exact hpy
   ·exact h.trans _ _ _ hpy ((List.pairwise_cons.1 ih).1 z hz)
theorem qma (h:qdh cf) (he:∀ x y,eq x y=true↔x=y) (l:List α) (hs:Srt cf l):(qbv eq l).Pairwise fun a b=>cf a b<0:=by
 cases l with
 | nil=>exact List.Pairwise.nil
 | cons p ys=>exact qqg h he ys p hs
end
theorem qll (x y:List Lb):qco x y=true↔x=y:=by unfold qco;rw [decide_eq_true_eq];exact qes.iff x y
theorem qi4 (l:List (List Lb)) (x:List Lb):x∈qcg (qb7 l)↔x∈l:=(qsk qll _ x).trans (qh6 l x)
theorem sc_nodup (l:List (List Lb)):(qcg (qb7 l)).Nodup:=List.Pairwise.imp (fun {a b} h e=>by subst e;have:=qes.refl a;omega) (qma qes qll _ (qi1 qes l))
structure MOK (pre:List Lb->Prop) (ls:List (List Lb)):Prop where
 inc:∀ m∈ls,Inc m
 hit:∀ m∈ls,∀ a,pre a->∃ x∈m,x∈a
 cov:∀ S:Lb->Prop,(∀ a,pre a->∃ x∈a,S x)->∃ m∈ls,∀ x∈m,S x
 anti:∀ a∈ls,∀ b∈ls,(∀ x∈a,x∈b)->a=b
 nodup:ls.Nodup
 own:∀ m∈ls,∀ x∈m,∃ a,pre a∧x∈a
theorem qoy {a b:List Lb} (ha:Inc a):qfx a b=true↔b.length<a.length∧∀ x∈b,x∈a:=by
 rw [qfx,Bool.and_eq_true,decide_eq_true_eq,subB_iff ha]
theorem mok_step {pre:List Lb->Prop} {ls:List (List Lb)} (h:MOK pre ls) (a:List Lb) (ha:Inc a):MOK (fun b=>pre b∨b=a) (qew (qdm ls a)):=by
 have hn:∀ m,m∈qdm ls a↔∃ m0∈ls,m∈qe8 a m0:=fun m=>by rw [qdm,qi4,qcp,List.mem_flatMap]
 have hstep:∀ m0∈ls,∀ m,m∈qe8 a m0->(m=m0∧∃ x∈m0,x∈a)∨∃ x∈a,x∉m0∧m=qcm m0 x:=fun m0 hm0 m hm=>by
  rw [qe8] at hm
  split at hm
  ·rename_i hc
   exact .inl ⟨List.mem_singleton.1 hm,(qj2 ha).1 hc⟩
  ·rename_i hc
   obtain ⟨x,hx,rfl⟩:=List.mem_map.1 hm
   exact .inr ⟨x,hx,fun hx2=>hc ((qj2 ha).2 ⟨x,hx2,hx⟩),rfl⟩
 have hinc:∀ m∈qdm ls a,Inc m:=fun m hm=>by
  obtain ⟨m0,hm0,hm⟩:=(hn m).1 hm
  rcases hstep m0 hm0 m hm with ⟨rfl,_⟩ | ⟨x,hx,hx2,rfl⟩
  ·exact h.inc _ hm0
  ·exact qpt (h.inc _ hm0) x hx2
 have hlc:∀ m,m∈qew (qdm ls a)↔m∈qdm ls a∧∀ b∈qdm ls a,¬ (b.length<m.length∧∀ x∈b,x∈m):=fun m=>by
  rw [qew,leastOf,List.mem_filter,qi4]
  refine and_congr_right fun hm=>?_
  rw [Bool.not_eq_true',List.any_eq_false]
  refine forall_congr' fun b=>?_
  rw [qi4]
  refine forall_congr' fun hb=>?_
  rw [qoy (hinc m hm)]
 refine ⟨fun m hm=>hinc m ((hlc m).1 hm).1,fun m hm b hb=>?_,fun S hS=>?_,fun b hb c hc hbc=>?_,(sc_nodup _).sublist List.filter_sublist,fun m hm x hx=>?_⟩
 ·obtain ⟨m0,hm0,hm1⟩:=(hn m).1 ((hlc m).1 hm).1
  rcases hstep m0 hm0 m hm1 with ⟨rfl,hc⟩ | ⟨x,hx,hx2,rfl⟩
  ·rcases hb with hb | rfl
   ·exact h.hit _ hm0 b hb
   ·exact hc
  ·rcases hb with hb | rfl
   ·obtain ⟨y,hy,hyb⟩:=h.hit _ hm0 b hb
    exact ⟨y,(qjs _ _ _).2 (.inl hy),hyb⟩
   ·exact ⟨x,(qjs _ _ _).2 (.inr rfl),hx⟩
 ·have go:∀ (n:Nat) (m:List Lb),m.length<=n->m∈qdm ls a->(∀ x∈m,S x)->∃ m'∈qew (qdm ls a),∀ x∈m',S x:=by
   intro n
   induction n with
   | zero =>
    intro m hml hm hmS
    exact ⟨m,(hlc m).2 ⟨hm,fun b hb hx=>by omega⟩,hmS⟩
   | succ n ih =>
    intro m hml hm hmS
    by_cases hx:∃ b∈qdm ls a,b.length<m.length∧∀ x∈b,x∈m
    ·obtain ⟨b,hb,hbl,hbm⟩:=hx
     exact ih b (by omega) hb fun x hx=>hmS x (hbm x hx)
    ·exact ⟨m,(hlc m).2 ⟨hm,fun b hb hbx=>hx ⟨b,hb,hbx⟩⟩,hmS⟩
  obtain ⟨m0,hm0,hmS⟩:=h.cov S fun b hb=>hS b (.inl hb)
  by_cases hc:qel m0 a=true
  ·exact go m0.length m0 (Nat.le_refl _) ((hn m0).2 ⟨m0,hm0,by rw [qe8,if_pos hc];simp⟩) hmS
  ·obtain ⟨x,hx,hxS⟩:=hS a (.inr rfl)
   refine go _ (qcm m0 x) (Nat.le_refl _) ((hn _).2 ⟨m0,hm0,by rw [qe8,if_neg hc];exact List.mem_map.2 ⟨x,hx,rfl⟩⟩) fun y hy=>?_
   rcases (qjs _ _ _).1 hy with hy | rfl
   ·exact hmS y hy
   ·exact hxS
 ·have hb':=(hlc b).1 hb
  have hc':=(hlc c).1 hc
  by_cases hl:b.length<c.length
  ·exact absurd ⟨hl,hbc⟩ (hc'.2 b hb'.1)
  ·exact (Inc.sublist (hinc b hb'.1) (hinc c hc'.1) hbc).eq_of_length_le (by omega)
 ·obtain ⟨m0,hm0,hm1⟩:=(hn m).1 ((hlc m).1 hm).1
  rcases hstep m0 hm0 m hm1 with ⟨rfl,_⟩ | ⟨y,hy,_,rfl⟩
  ·obtain ⟨b,hb,hxb⟩:=h.own _ hm0 x hx
   exact ⟨b,.inl hb,hxb⟩
  ·rcases (qjs _ _ _).1 hx with hx | rfl
   ·obtain ⟨b,hb,hxb⟩:=h.own _ hm0 x hx
    exact ⟨b,.inl hb,hxb⟩
   ·exact ⟨a,.inr rfl,hy⟩
theorem MOK.congr {p q:List Lb->Prop} {ls:List (List Lb)} (h:MOK p ls) (e:∀ a,p a↔q a):MOK q ls:=by
 have:p=q:=funext fun a=>propext (e a)
 exact this ▸ h
theorem qs6:∀ (bs ls r:List (List Lb)) (pre:List Lb->Prop),(∀ a∈bs,Inc a)->MOK pre ls->qc4 bs ls=some r->MOK (fun b=>pre b∨b∈bs) r
 | [],ls,r,pre,_,h,e=>by
  rw [qc4] at e
  injection e with e
  subst e
  exact h.congr fun a=>by simp
 | a :: bs,ls,r,pre,hb,h,e=>by
  rw [qc4] at e
  split at e
  ·cases e
  ·exact (qs6 bs _ r _ (fun b hb'=>hb b (List.mem_cons_of_mem _ hb')) (mok_step h a (hb a (by simp))) e).congr fun b=>by simp [or_assoc]
theorem mok_nil:MOK (fun _=>False) [[]]:={
 inc:=fun m hm=>by rw [List.mem_singleton.1 hm];exact List.Pairwise.nil
 hit:=fun _ _ _ h=>h.elim
 cov:=fun S _=>⟨[],by simp,by simp⟩
 anti:=fun a ha b hb _=>by rw [List.mem_singleton.1 ha,List.mem_singleton.1 hb]
 nodup:=by simp
 own:=fun m hm x hx=>by rw [List.mem_singleton.1 hm] at hx;simp at hx }
theorem qqp {s:Sy} (h:qah s):Inc s.ls:=Inc.of_get fun i hi=>by
 have:=(h.2.2.2.2.1 (i+1) hi).2 (by omega)
 simpa using this
theorem qpc (p:Int->Bool):∀ (i:Nat) (xs:List Lb),(qbo p i xs).Sublist xs
 | _,[]=>List.Sublist.refl _
 | i,x :: xs=>by
  rw [qbo]
  split
  ·exact (qpc p (i+1) xs).cons_cons x
  ·exact (qpc p (i+1) xs).cons x
theorem qqn (p:Int->Bool) (x:Lb):∀ (i:Nat) (xs:List Lb),x∈qbo p i xs↔∃ k,∃ h:k<xs.length,xs[k]=x∧p ((i+k:Nat):Int)=true
 | i,[]=>by simp [qbo]
 | i,y :: xs=>by
  have ih:=qqn p x (i+1) xs
  have hx:(x∈qbo p (i+1) xs)↔∃ k,∃ h:k+1<(y :: xs).length,(y :: xs)[k+1]=x∧p ((i+(k+1):Nat):Int)=true:=by
   rw [ih]
   refine exists_congr fun k=>?_
   constructor
   ·rintro ⟨h,e,hp⟩
    exact ⟨by simpa using h,by simpa using e,by rw [show i+(k+1)=i+1+k by omega];exact hp⟩
   ·rintro ⟨h,e,hp⟩
    exact ⟨by simpa using h,by simpa using e,by rw [show i+1+k=i+(k+1) by omega];exact hp⟩
  rw [qbo]
  constructor
  ·intro h
   split at h
   ·rename_i hp
    rcases List.mem_cons.1 h with rfl | h
    ·exact ⟨0,by simp,rfl,by simpa using hp⟩
    ·obtain ⟨k,hk,e,hp⟩:=hx.1 h
     exact ⟨k+1,hk,e,hp⟩
   ·obtain ⟨k,hk,e,hp⟩:=hx.1 h
    exact ⟨k+1,hk,e,hp⟩
  ·rintro ⟨k,hk,e,hp⟩
   cases k with
   | zero =>
    have hp':p (i:Int)=true:=by simpa using hp
    have e':y=x:=e
    rw [if_pos hp',e']
    exact List.mem_cons_self ..
   | succ k =>
    have:=hx.2 ⟨k,hk,e,hp⟩
    split
    ·exact List.mem_cons_of_mem _ this
    ·exact this
theorem qq0 {s:Sy} (h:qah s) (t:Int):Inc (qbh s t):=(qqp h).sub (qpc _ _ _)
theorem qkd (s:Sy) (t:Int) (x:Lb):x∈qbh s t↔∃ k,∃ h:k<s.ls.length,s.ls[k]=x∧qa3 x.g=true∧∃ st∈qaq s [t],∃ j∈qaw s.es st,s.es[j].l=(k:Int):=by
 rw [qbh,qqn]
 refine exists_congr fun k=>exists_congr fun h=>?_
 constructor
 ·rintro ⟨e,hp⟩
  rw [Nat.zero_add,qde,List.any_eq_true] at hp
  obtain ⟨st,hst,hp⟩:=hp
  obtain ⟨j,hj,hp⟩:=List.any_eq_true.1 hp
  rw [qhu,Bool.and_eq_true,decide_eq_true_eq] at hp
  have hv:=hp.2
  rw [qg6 s _ hp.1 h] at hv
  exact ⟨e,by rw [<- e];exact hv,st,hst,j,hj,hp.1⟩
 ·rintro ⟨e,hv,st,hst,j,hj,hl⟩
  refine ⟨e,?_⟩
  rw [Nat.zero_add,qde,List.any_eq_true]
  refine ⟨st,hst,List.any_eq_true.2 ⟨j,hj,?_⟩⟩
  rw [qhu,Bool.and_eq_true,decide_eq_true_eq,qg6 s _ hl h,e]
  exact ⟨hl,hv⟩
theorem accL_okV {s:Sy} (h:qah s) (t:Int) (x:Lb) (hx:x∈qbh s t):okV x=true:=by
 obtain ⟨k,hk,e,hv,_⟩:=(qkd s t x).1 hx
 have:=(h.2.2.2.2.1 k hk).1
 rw [e] at this
 rw [okV,this,hv]
 rfl
theorem qif {s:Sy} (sts:List Int) {l:List Lb} (hl:Inc l):qb5 s sts l=false↔∀ t∈sts,∃ x∈qbh s t,x∈l:=by
 unfold qb5
 rw [List.any_eq_false]
 refine forall_congr' fun t=>forall_congr' fun _=>?_
 rw [<- qj2 hl]
 cases qel (qbh s t) l <;> simp
theorem mustsL_ok {s:Sy} (h:qah s) {sts:List Int} {r:List (List Lb)} (e:qbe s sts=some r) (hs:sts≠[]):MOK (fun a=>∃ t∈sts,a=qbh s t) r:=by
 rw [qbe,if_neg hs] at e
 have hm:∀ a,a∈qcg (qb7 (sts.map (qbh s)))↔∃ t∈sts,a=qbh s t:=fun a=>by
  rw [qi4,List.mem_map]
  exact exists_congr fun t=>and_congr_right fun _=>eq_comm
 refine (qs6 _ _ r _ (fun a ha=>?_) mok_nil e).congr fun a=>?_
 ·obtain ⟨t,_,rfl⟩:=(hm a).1 ha
  exact qq0 h t
 ·rw [hm]
  simp
structure MustsLaw (s:Sy) (sts:List Int) (r:List (List Lb)):Prop where
 set:∀ m∈r,qbm m=true
 ne:∀ m∈r,m≠[]
 no:∀ m∈r,qb5 s sts m=false
 cov:∀ l,Inc l->sts≠[]->qb5 s sts l=false->∃ m∈r,∀ x∈m,x∈l
 anti:∀ a∈r,∀ b∈r,(∀ x∈a,x∈b)->a=b
 nodup:r.Nodup
 least:∀ m∈r,∀ l,l.Sublist m->l.length<m.length->qb5 s sts l=true
theorem qlg {s:Sy} (h:qah s) {sts:List Int} {r:List (List Lb)} (e:qbe s sts=some r):MustsLaw s sts r:=by
 by_cases hs:sts=[]
 ·rw [qbe,if_pos hs] at e
  injection e with e
  subst e
  exact ⟨by simp,by simp,by simp,fun _ _ h=>absurd hs h,by simp,List.Pairwise.nil,by simp⟩
 ·have hM:=mustsL_ok h e hs
  have hlen:∀ m∈r,m.length<=64:=by have:=(ql1 s sts).2;rw [e] at this;exact this
  have hno:∀ m∈r,qb5 s sts m=false:=fun m hm=>(qif sts (hM.inc m hm)).2 fun t ht=>by
   obtain ⟨x,hx,hxa⟩:=hM.hit m hm _ ⟨t,ht,rfl⟩
   exact ⟨x,hxa,hx⟩
  have hcov:∀ l,Inc l->sts≠[]->qb5 s sts l=false->∃ m∈r,∀ x∈m,x∈l:=fun l hl _ hr=>hM.cov (· ∈ l) fun a ⟨t,ht,ha⟩=>by
   rw [ha]
   exact (qif sts hl).1 hr t ht
  refine ⟨fun m hm=>?_,fun m hm hm0=>?_,hno,hcov,hM.anti,hM.nodup,fun m hm l hl hll=>?_⟩
  ·rw [qbm,Bool.and_eq_true,Bool.and_eq_true,decide_eq_true_eq,ql6,List.all_eq_true]
   refine ⟨⟨hM.inc m hm,hlen m hm⟩,fun x hx=>?_⟩
   obtain ⟨a,⟨t,_,rfl⟩,hxa⟩:=hM.own m hm x hx
   exact accL_okV h t x hxa
  ·obtain ⟨t,ht⟩:=List.exists_mem_of_ne_nil sts hs
   obtain ⟨x,hx,_⟩:=hM.hit m hm _ ⟨t,ht,rfl⟩
   rw [hm0] at hx
   simp at hx
  ·cases hr:qb5 s sts l
   ·exfalso
    obtain ⟨m',hm',hsub⟩:=hcov l ((hM.inc m hm).sub hl) hs hr
    have:=hM.anti m' hm' m hm fun x hx=>hl.subset (hsub x hx)
    subst this
    have h1:=(Inc.sublist (hM.inc _ hm') ((hM.inc _ hm').sub hl) hsub).length_le
    omega
   ·rfl
end
end Go.Proofs.YtegenalcheooeaaGreat
