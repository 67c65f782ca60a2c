/- Of the proof of a law of the suites: RFirst, ROut, RListed. -/
import Derived.Test.YtegenalcheooeaaGreatB07
import Derived.Test.YtegenalcheooeaaGreatB11
import Derived.Test.YtegenalcheooeaaGreatB13
import Derived.Test.YtegenalcheooeaaGreatB19
import Derived.Test.YtegenalcheooeaaGreatB23
import Derived.Test.YtegenalcheooeaaGreatB28
import Derived.Test.YtegenalcheooeaaGreatB33
import Derived.Test.YtegenalcheooeaaGreatRM01
set_option linter.unusedSectionVars false
set_option linter.unusedSimpArgs false
set_option linter.unusedVariables false
namespace Go.Proofs.YtegenalcheooeaaGreat
open Go.RowKit
attribute [local go_sem] cell?_exto
section

def qgf (es:List Ed) (n:Int) (h:Nat):Bool:=match es[h]? with | some e=>decide (e.f<n) | none=>false
theorem qgh {es:List Ed} {n:Int} {h:Nat} (hh:h<es.length):qgf es n h=decide (es[h].f<n):=by simp [qgf,List.getElem?_eq_getElem hh]
def qbr (es:List Ed) (n:Int):Nat:=bsI (qgf es n) es.length 0 es.length
theorem qkd (es:List Ed) (n:Int):qbr es n≤es.length:=(qjj _ _ 0 es.length (Nat.zero_le _)).2
set_option maxHeartbeats 1000000 in
set_option maxRecDepth 100000 in
theorem first_c (S:Nat→Prop) (s:Sy) (cs:List Value) (n:Int) (w:World) (hx:RSy S w s cs) (hn:s.es.length≤4611686018427387903) :
  Calls Tryz.prog 263 #[.agg cs.toArray,.int .i64 n] w fun e w'=>e = .returned (.int .i64 (qbr s.es n:Nat))∧Ext w w':=by
 obtain ⟨_,v,u,rfl,hv,hu⟩:=id hx
 obtain ⟨A,c,rfl,hc,hc0⟩:=hv.val
 obtain ⟨A',c',rfl,hc',hc0'⟩:=hu.val
 have HE:=Hd hu
 clear hx hv hu
 obtain ⟨m,hm⟩:∃ m,s.n=m:=⟨_,rfl⟩
 rw [hm]
 clear hm
 obtain ⟨W0,hW0⟩:∃ W0,w.alloc (.cells #[.int .i64 m,.slice A s.ls.length c,.slice A' s.es.length c'] 25)=W0:=⟨_,rfl⟩
 have hE0:Ext w W0:=by rw [← hW0];exact (Ext.refl w).alloc _
 have hB0:qah W0 w.heap.size 25 [.int .i64 m,.slice A s.ls.length c,.slice A' s.es.length c']:=by rw [← hW0];exact qah.new w 25 _
 have x2:=hB0.cell 2 _
 have xz:=hB0.lt
 have HB0:=Hd hB0
 have HE0:=Hd hE0
 obtain ⟨p0,hp0⟩:∃ p0,w.heap.size=p0:=⟨_,rfl⟩
 rw [hp0] at HB0 x2 xz
 have HP0:=Hd hp0
 have HW0:=Hd hW0
 clear hE0 hB0 hp0 hW0
 go_enter Tryz.func263,Tryz.ntmps263
 go_wp2_with fail
 rw [HW0.out,HP0.out]
 go_wp2_with fail
 go_loopw [5,6] (fun vi vj wr=>∃ i j:Nat,i≤j∧j≤s.es.length∧vi = .int .i64 i∧vj = .int .i64 j∧Ext W0 wr∧Hid (qbr s.es n=bsI (qgf s.es n) (j-i) i j)) (fun vi vj _=>((intOf vj)-(intOf vi)).toNat)
 case atStart=>exact ⟨0,s.es.length,Nat.zero_le _,Nat.le_refl _,rfl,rfl,Ext.refl _,rfl⟩
 case round =>
  clear x2 xz
  obtain ⟨i,j,hij,hj,rfl,rfl,hE,hbs⟩:=hrel
  have hbx:=HB0.out.ext hE
  have x2:=hbx.cell 2 _
  have xz:=hbx.lt
  clear hbx
  by_cases hlt:i<j
  ·have hst0:=qnc (qgf s.es n) i j hlt
   obtain ⟨h,hh⟩:∃ h,(i+j) / 2=h:=⟨_,rfl⟩
   have y1:((i:Int)+(j:Int)) / 2=(h:Int):=by omega
   have y3:((i:Int)+(j:Int)).tdiv 2=(h:Int):=by rw [Int.tdiv_eq_ediv_of_nonneg (by omega)];exact y1
   have hm:h<s.es.length:=by omega
   have hm1:i≤h:=by omega
   have hm2:h<j:=by omega
   rw [hh] at hst0
   clear hh
   obtain ⟨b,off,cs,rfl,hb,hS,hl,hr,hcell⟩:=(qb6.good.bel HE.out (HE0.out.trans' hE)).get h hm
   obtain ⟨_,_,_,rfl⟩:=id hr
   have g0:=hcell.get 0 _
   simp only [Nat.add_zero] at g0
   have z1:(0:Int)≤(h:Int):=by omega
   have z2:(h:Int)<(s.es.length:Int):=by omega
   have hst:=Hd hst0
   have hpa:=qgh (n:=n) hm
   obtain ⟨q1,hq⟩:∃ q,s.es[h].f=q:=⟨_,rfl⟩
   rw [hq] at hpa g0
   clear hcell hl hS hr hst0 hq
   by_cases hc2:q1<n
   ·have HC:=Hd (hpa.trans (decide_eq_true hc2))
    clear hpa
    go_wp2_with fail
    go_roundw
    case rel =>
     refine ⟨h+1,j,by omega,hj,by go_num,rfl,hE,?_⟩
     rw [hbs.out,hst.out,if_pos HC.out]
     exact rfl
    case measure=>simp [intOf];omega
   ·have HC:=Hd (hpa.trans (decide_eq_false hc2))
    clear hpa
    go_wp2_with fail
    go_roundw
    case rel =>
     refine ⟨i,h,by omega,by omega,rfl,rfl,hE,?_⟩
     rw [hbs.out,hst.out,if_neg (by rw [HC.out];decide)]
     exact rfl
    case measure=>simp [intOf];omega
  ·obtain rfl:i=j:=by omega
   have HI:=Hd (show qbr s.es n=i by rw [hbs.out,show i-i=0 from by omega,bsI])
   clear hlt hbs
   go_wp2_with fail
   go_ret
   exact ⟨by rw [HI.out];rfl,HE0.out.trans' hE⟩
theorem qok (p:Nat→Bool) (n:Nat) (hm:∀ a b,a≤b→p b=true→p a=true):∀ (f i j:Nat),i≤j→j-i≤f→(∀ k,k<i→p k=true)→(∀ k,j≤k→p k=false)→(∀ k,k<bsI p f i j→p k=true)∧(∀ k,bsI p f i j≤k→p k=false)
 | 0,i,j,h,hf,h1,h2=>by
  rw [bsI]
  exact ⟨h1,fun k hk=>h2 k (by omega)⟩
 | f+1,i,j,h,hf,h1,h2=>by
  rw [bsI]
  by_cases hlt:i<j
  ·rw [if_pos hlt]
   by_cases hp:p ((i+j) / 2)=true
   ·rw [if_pos hp]
    exact qok p n hm f _ j (by omega) (by omega) (fun k hk=>hm k _ (by omega) hp) h2
   ·rw [if_neg hp]
    refine qok p n hm f i _ (by omega) (by omega) h1 fun k hk=>?_
    cases hk':p k with
    | false=>rfl
    | true=>exact absurd (hm _ k hk hk') hp
  ·rw [if_neg hlt]
   exact ⟨h1,fun k hk=>h2 k (by omega)⟩
def qgu (es:List Ed):Prop:=∀ i j,(hij:i≤j)→(hj:j<es.length)→(es[i]'(by omega)).f≤es[j].f
theorem qtw {s:Sy} (h:∀ j,qkv s j):qgu s.es:=by
 intro i j hij
 induction j with
 | zero =>
  intro hj
  obtain rfl:i=0:=by omega
  exact Int.le_refl _
 | succ j ih =>
  intro hj
  rcases Nat.lt_or_ge i (j+1) with h' | h'
  ·have h1:=ih (by omega) (by omega)
   have h2:=(qja _ _).1 ((h (j+1) hj).2 (by omega))
   simp only [Nat.add_sub_cancel] at h2
   rcases h2 with h2 | ⟨h2,_⟩ <;> omega
  ·obtain rfl:i=j+1:=by omega
   exact Int.le_refl _
theorem qld {es:List Ed} (hs:qgu es) (n:Int):(∀ k,k<qbr es n→qgf es n k=true)∧(∀ k,qbr es n≤k→qgf es n k=false):=by
 refine qok _ 0 (fun a b hab hb=>?_) es.length 0 es.length (Nat.zero_le _) (by omega) (fun k hk=>absurd hk (by omega)) fun k hk=>by simp [qgf,List.getElem?_eq_none hk]
 by_cases hl:b<es.length
 ·rw [qgh hl,decide_eq_true_eq] at hb
  rw [qgh (by omega),decide_eq_true_eq]
  have:=hs a b hab hl
  omega
 ·simp [qgf,List.getElem?_eq_none (Nat.le_of_not_lt hl)] at hb
theorem qr0 {es:List Ed} (hs:qgu es) (n:Int):qbr es n≤qbr es (n+1):=by
 refine Nat.le_of_not_lt fun h=>?_
 have h1:=(qld hs n).1 _ h
 have h2:=(qld hs (n+1)).2 _ (Nat.le_refl _)
 have hl:qbr es (n+1)<es.length:=Nat.lt_of_lt_of_le h (qkd es n)
 rw [qgh hl,decide_eq_true_eq] at h1
 rw [qgh hl,decide_eq_false_iff_not] at h2
 omega
def qdg (es:List Ed) (n:Int):List Ed:=(es.drop (qbr es n)).take (qbr es (n+1)-qbr es n)
theorem qqg {es:List Ed} (hs:qgu es) (n:Int):(qdg es n).length=qbr es (n+1)-qbr es n:=by
 have:=qkd es (n+1)
 rw [qdg,List.length_take,List.length_drop]
 omega
theorem qof {es:List Ed} (hs:qgu es) (n:Int):qdg es n=es.filter fun e=>decide (e.f=n):=by
 have hlo:=qld hs n
 have hhi:=qld hs (n+1)
 have hm:=qr0 hs n
 have hle:=qkd es (n+1)
 have h0:es=es.take (qbr es n)++(qdg es n++es.drop (qbr es (n+1))):=by
  have:es.drop (qbr es n)=qdg es n++es.drop (qbr es (n+1)):=by
   rw [qdg]
   conv=>lhs;rw [← List.take_append_drop (qbr es (n+1)-qbr es n) (es.drop (qbr es n))]
   rw [List.drop_drop,Nat.add_sub_cancel' hm]
  rw [← this,List.take_append_drop]
 have ha:(es.take (qbr es n)).filter (fun e=>decide (e.f=n))=[]:=by
  rw [List.filter_eq_nil_iff]
  intro e he
  obtain ⟨i,hi,rfl⟩:=List.getElem_of_mem he
  rw [List.length_take] at hi
  have:=hlo.1 i (by omega)
  rw [qgh (by omega),decide_eq_true_eq] at this
  rw [List.getElem_take]
  simp
  omega
 have hb:(qdg es n).filter (fun e=>decide (e.f=n))=qdg es n:=by
  rw [List.filter_eq_self]
  intro e he
  obtain ⟨i,hi,rfl⟩:=List.getElem_of_mem he
  have hi':=hi
  rw [qqg hs] at hi'
  have h1:=hlo.2 (qbr es n+i) (by omega)
  have h2:=hhi.1 (qbr es n+i) (by omega)
  rw [qgh (by omega),decide_eq_false_iff_not] at h1
  rw [qgh (by omega),decide_eq_true_eq] at h2
  simp only [qdg,List.getElem_take,List.getElem_drop]
  simp
  omega
 have hc:(es.drop (qbr es (n+1))).filter (fun e=>decide (e.f=n))=[]:=by
  rw [List.filter_eq_nil_iff]
  intro e he
  obtain ⟨i,hi,rfl⟩:=List.getElem_of_mem he
  rw [List.length_drop] at hi
  have:=hhi.2 (qbr es (n+1)+i) (by omega)
  rw [qgh (by omega),decide_eq_false_iff_not] at this
  rw [List.getElem_drop]
  simp
  omega
 conv=>rhs;rw [h0]
 rw [List.filter_append,List.filter_append,ha,hb,hc,List.nil_append,List.append_nil]
theorem qrw {es:List Ed} (hs:qgu es) (n:Int):qdg es n=(qat es n).map fun i=>es[i]:=by
 rw [qof hs,qat]
 have:es=(List.finRange es.length).map fun i=>es[i]:=by
  apply List.ext_getElem
  ·simp
  ·intro i h1 h2;simp
 conv=>lhs;rw [this]
 rw [List.filter_map]
 rfl
theorem RSl.mid {α:Type} {R:Rdr α} {k:Nat} {S:Nat→Prop} {W:World} {xs:List α} {b off n c:Nat} (h:RSl R k S W xs [.slice (some ⟨b,off,none⟩) n c]) (i m:Nat) (hm:i+m≤xs.length) (h0:0<m) :
  RSl R k S W ((xs.drop i).take m) [.slice (some ⟨b,off+i*k,none⟩) m m]:=by
 obtain ⟨A,c',e,h1,h2,h3⟩:=h
 injection e with e
 injection e with e1 e2 e3
 subst e1 e2 e3
 have hl:((xs.drop i).take m).length=m:=by rw [List.length_take,List.length_drop];omega
 refine ⟨_,m,by rw [hl],by rw [hl];omega,by omega,.inr ?_⟩
 rcases h3 with rfl | ⟨b',off',e,h4,h5,h6⟩
 ·simp at hm;omega
 ·injection e with e
  injection e with e1 e2
  subst e1 e2
  refine ⟨b,off+i*k,rfl,h4,h5,qcp.of_get fun j hj=>?_⟩
  rw [hl] at hj
  obtain ⟨cs,g1,g2,g3⟩:=h6.get (i+j) (by omega)
  refine ⟨cs,g1,by rw [List.getElem_take,List.getElem_drop];exact g2,?_⟩
  rw [Nat.add_assoc,← Nat.add_mul]
  exact g3
end
section

def OutPost (S:Nat→Prop) (l:List Ed) (w:World) (e:Ending) (w':World):Prop:=∃ A1 c1,e = .returned (.slice A1 l.length c1)∧RSl REd 3 S w' l [.slice A1 l.length c1]∧Ext w w'
set_option maxHeartbeats 1000000 in
set_option maxRecDepth 100000 in
theorem OutOf_c (S:Nat→Prop) (s:Sy) (hs:qgu s.es) (cs:List Value) (n:Int) (w:World) (hx:RSy S w s cs) (hn:s.es.length≤100000) (hn0 : -1≤n) (hn1:n≤1000000) :
  Calls Tryz.prog 226 #[.agg cs.toArray,.int .i64 n] w (OutPost S (qdg s.es n) w):=by
 have hc1:=fun W (hb:Ext w W)=>first_c S s cs n W (RSy.good.bel hx hb) (by omega)
 have hc2:=fun W (hb:Ext w W)=>first_c S s cs (n+1) W (RSy.good.bel hx hb) (by omega)
 have hlen:=qqg hs n
 have hmo:=qr0 hs n
 have hle:=qkd s.es (n+1)
 have HO:Hid (qdg s.es n=(s.es.drop (qbr s.es n)).take (qbr s.es (n+1)-qbr s.es n)):=rfl
 obtain ⟨lo,hlo⟩:∃ lo,qbr s.es n=lo:=⟨_,rfl⟩
 obtain ⟨hi,hhi⟩:∃ hi,qbr s.es (n+1)=hi:=⟨_,rfl⟩
 rw [hlo] at hc1 hlen hmo HO
 rw [hhi] at hc2 hlen hmo hle HO
 obtain ⟨_,v,u,rfl,hv,hu⟩:=id hx
 obtain ⟨A,c,rfl,hc,hc0⟩:=hv.val
 obtain ⟨A',c',rfl,hc',hc0'⟩:=hu.val
 have HE:=Hd hu
 obtain ⟨m,hm⟩:∃ m,s.n=m:=⟨_,rfl⟩
 rw [hm] at hc1 hc2
 rw [hm]
 obtain ⟨LE,hLE⟩:∃ LE,qdg s.es n=LE:=⟨_,rfl⟩
 rw [hLE] at hlen HO
 rw [hLE]
 clear hx hv hu hm hLE hlo hhi
 have u1:IntKind.i64.wrap (n+1)=n+1:=IntWalk.i64_in _ (by omega)
 have hlc:hi≤c':=by omega
 rcases Nat.lt_or_ge lo hi with hlt | hge
 ·have hlt':lo<s.es.length:=by omega
  obtain ⟨b,off,cs,rfl,hb,hS,hl,hr,hcell⟩:=HE.out.get lo hlt'
  have hne:¬ hi=lo:=by omega
  clear hS hl hr hcell
  go_enter Tryz.func226,Tryz.ntmps226
  go_wp2_with fail
  refine (hc1 _ bel).mono ?_
  rintro e w1 ⟨rfl,h1⟩
  have hcl:=h1.cells
  have hsz:w.heap.size<w1.heap.size:=by have:=h1.size;simp at this;omega
  have hE1:Ext w w1:=bel
  go_wp2_with fail
  refine (hc2 _ bel).mono ?_
  rintro e w2 ⟨rfl,h2⟩
  have hcl2:=h2.cells
  have hE2:Ext w w2:=bel
  go_wp2_with fail
  go_ret
  refine ⟨some ⟨b,off+lo*3,none⟩,hi-lo,?_,?_,hE2⟩
  ·rw [hlen];rfl
  ·rw [hlen,HO.out]
   exact RSl.mid (qb6.good.bel HE.out hE2) lo (hi-lo) (by omega) (by omega)
 ·obtain rfl:lo=hi:=by omega
  have hLE:LE=[]:=List.eq_nil_of_length_eq_zero (by omega)
  go_enter Tryz.func226,Tryz.ntmps226
  go_wp2_with fail
  refine (hc1 _ bel).mono ?_
  rintro e w1 ⟨rfl,h1⟩
  have hcl:=h1.cells
  have hsz:w.heap.size<w1.heap.size:=by have:=h1.size;simp at this;omega
  have hE1:Ext w w1:=bel
  go_wp2_with fail
  refine (hc2 _ bel).mono ?_
  rintro e w2 ⟨rfl,h2⟩
  have hcl2:=h2.cells
  have hE2:Ext w w2:=bel
  go_wp2_with fail
  go_ret
  subst hLE
  exact ⟨A',0,rfl,⟨A',0,rfl,Nat.le_refl _,by omega,.inl rfl⟩,hE2⟩
end
section
open Go.Shelf
def qc1 (l:List Bool) (i:Nat):Bool:=l.getD i false
def mkT (l:List Bool) (k:Nat):List Int:=((List.range k).filter (qc1 l)).map fun i:Nat=>(i:Int)
abbrev mkL (l:List Bool):List Int:=mkT l l.length
theorem qr2 (l:List Bool) (k:Nat):mkT l (k+1)=if qc1 l k=true then mkT l k++[(k:Int)] else mkT l k:=by
 unfold mkT
 rw [List.range_succ,List.filter_append,List.map_append,List.filter_cons]
 by_cases h:qc1 l k=true
 ·rw [if_pos h,if_pos h]
  rfl
 ·rw [if_neg h,if_neg h,List.filter_nil,List.map_nil,List.append_nil]
theorem mkT_mem (l:List Bool) (k:Nat) (j:Int):j∈mkT l k↔∃ i:Nat,i<k∧qc1 l i=true∧(i:Int)=j:=by
 unfold mkT
 simp only [List.mem_map,List.mem_filter,List.mem_range,and_assoc]
theorem qoq (l:List Bool) (k:Nat):(mkT l k).length≤k:=by
 unfold mkT
 have:=List.length_filter_le (qc1 l) (List.range k)
 rw [List.length_map]
 simpa using this
theorem qd6 {l:List Bool} {k:Nat} (h:k<l.length):qc1 l k=l[k]:=by simp [qc1,List.getD_eq_getElem?_getD,List.getElem?_eq_getElem h]
theorem qhk:(Tryz.prog.info? 3).map (fun i=>(i.zero,i.size,i.bytes))=some (some (.int .i64 0),1,8):=by kernel_rfl
def MarkP (r:List Int) (w:World) (e:Ending) (w':World):Prop:=∃ A c,e = .returned (.slice A r.length c)∧qab qac 1 3 w.heap.size (fun _=>False) w' r (.slice A r.length c)∧Ext w w'
set_option maxHeartbeats 1000000 in
set_option maxRecDepth 100000 in
theorem qr1 (S:Nat→Prop) (l:List Bool) (v:Value) (w:World) (hx:RSl qad 1 S w l [v]) (hl:l.length≤1000000):Calls Tryz.prog 108 #[v] w (MarkP (mkL l) w):=by
 obtain ⟨A,c,rfl,hc,hc0⟩:=hx.val
 have HX:=Hd hx
 clear hx
 go_enter Tryz.func108,Tryz.ntmps108
 go_wp2_with fail
 go_loopw [3,4] (fun v3 vi wr=>∃ (k:Nat) (ys:List Int) (Ao:Option Addr) (co:Nat),k≤l.length∧vi = .int .i64 k∧v3 = .slice Ao ys.length co∧Hid (ys=mkT l k)∧Ext w wr∧Hid (qab qac 1 3 w.heap.size (fun _=>False) wr ys (.slice Ao ys.length co))) (fun _ vi _=>l.length-(intOf vi).toNat)
 case atStart=>exact ⟨0,[],none,0,Nat.zero_le _,rfl,rfl,by simp [mkT,Hid],Ext.refl _,qab.nil ..⟩
 case round =>
  obtain ⟨k,ys,Ao,co,hk,rfl,rfl,hY,hE,hO⟩:=hrel
  by_cases hlt:k<l.length
  ·obtain ⟨b,off,cs,rfl,hb,hSb,hl1,hr,hcell⟩:=((RSl.good qad.good).bel HX.out hE).get k hlt
   obtain rfl:cs=[.bool l[k]]:=hr
   have a0:=hcell.get 0 _
   simp only [Nat.add_zero,Nat.mul_one] at a0
   have HST:=Hd (qr2 l k)
   rw [qd6 hlt] at HST
   cases hb2:l[k]
   ·rw [hb2] at a0 HST
    clear hl1 hcell hSb hb2
    go_wp2_with fail
    go_roundw
    case rel=>exact ⟨k+1,ys,Ao,co,by omega,by go_num,rfl,by rw [hY.out];exact HST.out.symm,hE,hO.out⟩
    case measure=>simp [intOf];omega
   ·rw [hb2] at a0 HST
    have hyl:ys.length≤1000000:=by have:=qoq l k;rw [hY.out];omega
    obtain ⟨g2,c2,w2,hr2,ho2,hb3,_,_⟩:=qcy qac.good (by decide) w.heap.size 3 53 (.int .i64 0) 8 Tryz.underlying53 qhk rfl (by decide) (fun _=>False) wr ys (.slice Ao ys.length co) (k:Int) [.int .i64 k] hO.out ⟨rfl,by unfold I64;omega⟩ hE.size hyl
    have HO2:=Hd ho2
    have hlo:∀ q,(Value.slice Ao ys.length co).ownBlock=some q→w.heap.size≤q:=fun q e=>(hO.out.own_lt e).1
    have HB2:Hid (Ext w w2):=Bt.new hE hb3 fun q _ h=>hlo q h
    have HY2:Hid (ys++[(k:Int)]=mkT l (k+1)):=by
     show _=_
     rw [hY.out]
     exact HST.out.symm
    clear hl1 hcell hSb hb2 hO ho2 hb3 hlo hY HST
    go_wp2_with (at_builtin;refine wpList_append_run rfl _ _ _ rfl _ _ _ rfl rfl hr2 ?_;clear hr2)
    go_roundw
    case rel=>exact ⟨k+1,ys++[(k:Int)],some ⟨g2,0,none⟩,c2,by omega,by go_num,by simp,HY2.out,HB2.out,(by have h:=HO2.out;show qab _ _ _ _ _ _ _ _;simpa using h)⟩
    case measure=>simp [intOf];omega
  ·have hkl:k=l.length:=by omega
   subst hkl
   have hys:=hY.out
   subst hys
   go_wp2_with fail
   go_ret
   exact ⟨Ao,co,rfl,hO.out,hE⟩
end
end Go.Proofs.YtegenalcheooeaaGreat
