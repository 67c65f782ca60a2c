/- Of the proof of a law of the suites: LPdqA, PCalm. -/
import Derived.Test.YtegenalcheooeaaGreatAF01
import Derived.Test.YtegenalcheooeaaGreatB18
import Derived.Test.YtegenalcheooeaaGreatB20
import Derived.Test.YtegenalcheooeaaGreatB22
import Derived.Test.YtegenalcheooeaaGreatLaid
import Derived.Shelf.Small.Bits
import Derived.Ground.Names2Prog
set_option linter.unusedSectionVars false
set_option linter.unusedSimpArgs false
set_option linter.unusedVariables false
namespace Go.Proofs.YtegenalcheooeaaGreat
open Go.RowKit
attribute [local go_sem] cell?_exto
section
set_option maxHeartbeats 1000000
set_option maxRecDepth 100000
/- sort.Slice at whole numbers: the choice of a pivot,and the look at whether all is in order: walked. -/
open Go.Shelf Go.Sort Go.Lib
theorem Bt.side {Z:Nat->Prop} {a b c:World} {gs:Nat} (h:Bt Z a b) (k:Bt (fun q=>q=gs) b c) (hg:a.heap.size<=gs):Bt Z a c :=
 ⟨k.os.trans h.os,k.tape.trans h.tape,k.output.trans h.output,Nat.le_trans h.size k.size,fun q hq hz=>(k.block q (Nat.lt_of_lt_of_le hq h.size) (by omega)).trans (h.block q hq hz)⟩
theorem qbn.side {base:Nat} {W W':World} {d:Array Int} {g n c gs:Nat} (h:qbn base W d g n c) (k:Bt (fun q=>q=gs) W W') (hg:g≠gs):qbn base W' d g n c :=
 qab.bt h qac.good k fun q _ hq=>⟨id,fun e=>hg ((show g=q by simpa [Value.ownBlock] using e).trans hq)⟩
abbrev qin (lf:Nat) (lb:Array Value) (sf:Nat) (sb:Array Value):Value:=.agg #[.func (.func lf) #[] lb,.func (.func sf) #[] sb]
def OrdP (i j gs:Nat) (k:Int) (w:World) (e:Ending) (w':World):Prop:=∃ (x y:Nat) (k':Int),e = .returned (.tuple #[.int .i64 (x:Int),.int .i64 (y:Int)])∧((x=i∧y=j)∨(x=j∧y=i))∧k<=k'∧k'<=k+1∧qaf w' gs 3 [.int .i64 k']∧Bt (fun q=>q=gs) w w'
theorem order2_c (lf:Nat) (lb:Array Value) (sf:Nat) (sb:Array Value) (lt:Int->Int->Bool) (p:Int->Prop) (base g n c i j gs:Nat) (k:Int) (d:Array Int) (W0 w:World) (el:∀ args w,(callFunc lf args).run Tryz.prog w = .ok (.enter lf args) w)
  (hless:qd6 lf lb lt p base g n c W0) (hW:Bt (fun q=>q=g) W0 w) (hrow:qbn base w d g n c) (hd:d.size=n) (hp:∀ x∈d.toList,p x) (hn:n<=1000) (hi:i<n) (hj:j<n) (hbx:qaf w gs 3 [.int .i64 k]) (hk:0<=k∧k<=100) :
  Calls Tryz.prog 327 #[qin lf lb sf sb,.int .i64 i,.int .i64 j,.pointer (some ⟨gs,0,none⟩)] w (OrdP i j gs k w):=by
 have hX:Ext w (w.alloc (.cells #[.func (.func lf) #[] lb,.func (.func sf) #[] sb] 299)):=(Ext.refl w).alloc _
 have hl:=hless _ d (hW.ext hX) (hrow.ext qac.good hX) hd hp j i hj hi
 have HBX:=Hd hbx
 have HX:=Hd hX
 clear hless hW hrow hp hX hbx
 cases hlv:lt d[j]! d[i]! with
 | false =>
  rw [hlv] at hl
  clear hlv
  go_enter Tryz.func327,Tryz.ntmps327
  go_wp2_with (go_at_fn lf;refine hl.mono ?_;rintro e w' ⟨rfl,hx⟩)
  have hE:Ext w w':=HX.out.trans' hx
  go_ret2
  exact ⟨i,j,k,rfl,.inl ⟨rfl,rfl⟩,by omega,by omega,HBX.out.ext hE,hE.bt⟩
 | true =>
  rw [hlv] at hl
  clear hlv
  go_enter Tryz.func327,Tryz.ntmps327
  go_wp2_with (go_at_fn lf;refine hl.mono ?_;rintro e w' ⟨rfl,hx⟩;have hb:=HBX.out.ext (HX.out.trans' hx);have x0:=hb.cell 0 _;have xz:=hb.lt;have xf:=hb.frozen 0;have HB:=Hd hb;clear hb)
  have hE:Ext w w':=HX.out.trans' hx
  go_ret2
  exact ⟨j,i,k+1,rfl,.inr ⟨rfl,rfl⟩,by omega,by omega,HB.out.set 0 _,Bt.set (Z:=fun q=>q=gs) (p:=⟨gs,0,none⟩) hE.bt (.inr rfl) _⟩
def MedP (i j l gs:Nat) (k:Int) (w:World) (e:Ending) (w':World):Prop:=∃ (x:Nat) (k':Int),e = .returned (.int .i64 (x:Int))∧(x=i∨x=j∨x=l)∧k<=k'∧k'<=k+3∧qaf w' gs 3 [.int .i64 k']∧Bt (fun q=>q=gs) w w'
theorem median_c (lf:Nat) (lb:Array Value) (sf:Nat) (sb:Array Value) (lt:Int->Int->Bool) (p:Int->Prop) (base g n c i j l gs:Nat) (k:Int) (d:Array Int) (W0 w:World) (el:∀ args w,(callFunc lf args).run Tryz.prog w = .ok (.enter lf args) w)
  (hless:qd6 lf lb lt p base g n c W0) (hW:Bt (fun q=>q=g) W0 w) (hrow:qbn base w d g n c) (hd:d.size=n) (hp:∀ x∈d.toList,p x) (hn:n<=1000) (hi:i<n) (hj:j<n) (hl:l<n) (hbx:qaf w gs 3 [.int .i64 k]) (hk:0<=k∧k<=90) (hgs:g≠gs) (hgs0:W0.heap.size<=gs) :
  Calls Tryz.prog 321 #[qin lf lb sf sb,.int .i64 i,.int .i64 j,.int .i64 l,.pointer (some ⟨gs,0,none⟩)] w (MedP i j l gs k w):=by
 have ho:=fun W (hW:Bt (fun q=>q=g) W0 W) hrow x y hx hy kk hbx hk=>order2_c lf lb sf sb lt p base g n c x y gs kk d W0 W el hless hW hrow hd hp hn hx hy hbx hk
 have hX:Ext w (w.alloc (.cells #[.func (.func lf) #[] lb,.func (.func sf) #[] sb] 299)):=(Ext.refl w).alloc _
 have hB:qaf (w.alloc (.cells #[.func (.func lf) #[] lb,.func (.func sf) #[] sb] 299)) w.heap.size 299 [.func (.func lf) #[] lb,.func (.func sf) #[] sb]:=qaf.new _ _ _
 have hgz:=hbx.lt
 have hne:¬ w.heap.size=gs:=by omega
 have ho1:=ho _ (hW.ext hX) (hrow.ext qac.good hX) i j hi hj k (hbx.ext hX) (by omega)
 have HW:=Hd (hW.ext hX)
 have HR:=Hd (hrow.ext qac.good hX)
 have HO:=Hd ho
 have HX:=Hd hX
 have HB:=Hd hB
 clear hless hW hrow hp hX hbx ho hB
 go_enter Tryz.func321,Tryz.ntmps321
 go_wp2_with fail
 refine ho1.mono ?_
 rintro e w1 ⟨x,y,k1,rfl,hxy,hk1,hk1',hb1,ht1⟩
 have hx:x<n:=by omega
 have hy:y<n:=by omega
 have HB1:=Hd (HB.out.bt ht1 hne)
 have b0:=HB1.out.cell 0 _
 have b1:=HB1.out.cell 1 _
 have bz:=HB1.out.lt
 have HW1:=Hd (HW.out.side ht1 hgs0)
 have HR1:=Hd (qbn.side HR.out ht1 hgs)
 have ho2:=HO.out _ HW1.out HR1.out y l hy hl k1 hb1 (by omega)
 have HT1:=Hd ht1
 clear ht1 hb1 ho1
 go_wp2_with fail
 refine ho2.mono ?_
 rintro e w2 ⟨y2,z2,k2,rfl,hyz,hk2,hk2',hb2,ht2⟩
 have hy2:y2<n:=by omega
 clear b0 b1 bz
 have HB2:=Hd (HB1.out.bt ht2 hne)
 have b0:=HB2.out.cell 0 _
 have b1:=HB2.out.cell 1 _
 have bz:=HB2.out.lt
 have HW2:=Hd (HW1.out.side ht2 hgs0)
 have HR2:=Hd (qbn.side HR1.out ht2 hgs)
 have ho3:=HO.out _ HW2.out HR2.out x y2 hx hy2 k2 hb2 (by omega)
 have HT2:=Hd (HT1.out.trans ht2)
 clear ht2 hb2 ho2
 go_wp2_with fail
 refine ho3.mono ?_
 rintro e w3 ⟨x3,y3,k3,rfl,hxy3,hk3,hk3',hb3,ht3⟩
 go_wp2_with fail
 go_ret
 exact ⟨y3,k3,rfl,by omega,by omega,by omega,hb3,(Ext.bt (Z:=fun q=>q=gs) HX.out).trans (HT2.out.trans ht3)⟩
end
section

def Tau (s:Sy) (y z:Int):Prop:=∃ j:Fin s.es.length,s.es[j].f=y∧qf8 s s.es[j].l = -1∧s.es[j].t=z
theorem qgm (es:List Ed) (n:Int) (j:Fin es.length):j∈qaw es n↔es[j].f=n:=by simp [qaw,List.mem_filter,List.mem_finRange]
theorem qun (s:Sy) (l:List Int) (e:Ed) (z:Int):z∈qcc s l e↔z∈l∨(qf8 s e.l = -1∧e.t=z):=by
 unfold qcc
 split
 ·rename_i h
  rw [List.mem_append,List.mem_singleton]
  refine or_congr_right ⟨fun e=>⟨h.1,e.symm⟩,fun e=>e.2.symm⟩
 ·rename_i h
  refine ⟨.inl,fun hz=>hz.elim id fun ⟨h1,h2⟩=>?_⟩
  rw [<- h2]
  exact Classical.byContradiction fun hn=>h ⟨h1,hn⟩
theorem qkx (s:Sy) (z:Int):∀ (is:List (Fin s.es.length)) (l:List Int),z∈qa6 s is l↔z∈l∨∃ j∈is,qf8 s s.es[j].l = -1∧s.es[j].t=z
 | [],l=>by simp [qa6]
 | i :: is,l=>by
  have ih:=qkx s z is (qcc s l s.es[i])
  have e:qa6 s (i :: is) l=qa6 s is (qcc s l s.es[i]):=rfl
  rw [e,ih,qun]
  simp only [List.mem_cons,exists_eq_or_imp]
  rw [or_assoc]
theorem qs6 (s:Sy):∀ (is:List (Fin s.es.length)) (l:List Int),∃ m,qa6 s is l=l++m
 | [],l=>⟨[],by simp [qa6]⟩
 | i :: is,l=>by
  obtain ⟨m,hm⟩:=qs6 s is (qcc s l s.es[i])
  have e:qa6 s (i :: is) l=qa6 s is (qcc s l s.es[i]):=rfl
  rw [e,hm]
  unfold qcc
  split
  ·exact ⟨_,by rw [List.append_assoc]⟩
  ·exact ⟨m,rfl⟩
theorem qmb (s:Sy):∀ (f i:Nat) (l:List Int),l.length+qbq s l<=i+f->(∀ y∈l.take i,∀ z,Tau s y z->z∈l)->(∀ y∈qa9 s f i l,∀ z,Tau s y z->z∈qa9 s f i l)∧∀ y∈l,y∈qa9 s f i l
 | 0,i,l,hf,hc=>by
  rw [qa9]
  rw [List.take_of_length_le (by omega)] at hc
  exact ⟨hc,fun y h=>h⟩
 | f+1,i,l,hf,hc=>by
  rw [qa9]
  split
  ·rename_i hi
   obtain ⟨m,hm⟩:=qs6 s (qaw s.es l[i]) l
   have hp:=(qgd s (qaw s.es l[i]) l).1
   have hsub:∀ y∈l,y∈qa6 s (qaw s.es l[i]) l:=fun y hy=>(qkx s y _ l).2 (.inl hy)
   have:=qmb s f (i+1) (qa6 s (qaw s.es l[i]) l) (by omega) fun y hy z hz=>by
    have ht:(qa6 s (qaw s.es l[i]) l).take (i+1)=l.take i++[l[i]]:=by
     rw [hm,List.take_append_of_le_length (by omega),List.take_succ_eq_append_getElem hi]
    rw [ht,List.mem_append,List.mem_singleton] at hy
    rcases hy with hy | hy
    ·exact hsub z (hc y hy z hz)
    ·obtain ⟨j,h1,h2,h3⟩:=hz
     exact (qkx s z _ l).2 (.inr ⟨j,(qgm _ _ _).2 (h1.trans hy),h2,h3⟩)
   exact ⟨this.1,fun y hy=>this.2 y (hsub y hy)⟩
  ·rw [List.take_of_length_le (by omega)] at hc
   exact ⟨hc,fun y h=>h⟩
theorem qri (s:Sy) (R:Int->Prop) (hR:∀ y z,R y->Tau s y z->R z):∀ (f i:Nat) (l:List Int),(∀ y∈l,R y)->∀ y∈qa9 s f i l,R y
 | 0,i,l,hl=>by rw [qa9];exact hl
 | f+1,i,l,hl=>by
  rw [qa9]
  split
  ·rename_i hi
   refine qri s R hR f (i+1) _ fun y hy=>?_
   rcases (qkx s y _ l).1 hy with hy | ⟨j,hj,h1,h2⟩
   ·exact hl y hy
   ·exact hR _ y (hl _ (List.getElem_mem hi)) ⟨j,(qgm _ _ _).1 hj,h1,h2⟩
  ·exact hl
def qi1 (s:Sy) (l:List Int):Prop:=∀ y∈l,∀ z,Tau s y z->z∈l
theorem qjm (s:Sy) (l:List Int):qi1 s (qau s l):=fun y hy z hz=>by
 unfold qau at hy ⊢
 rw [qje] at hy ⊢
 exact (qmb s _ 0 l (by have:=qf6 s l;omega) (by simp)).1 y hy z hz
theorem qic (s:Sy) (l:List Int) (y:Int) (hy:y∈l):y∈qau s l:=by
 unfold qau
 rw [qje]
 exact (qmb s _ 0 l (by have:=qf6 s l;omega) (by simp)).2 y hy
theorem qim (s:Sy) (R:Int->Prop) (hR:∀ y z,R y->Tau s y z->R z) (l:List Int) (hl:∀ y∈l,R y):∀ y∈qau s l,R y:=fun y hy=>by
 unfold qau at hy
 rw [qje] at hy
 exact qri s R hR _ 0 l hl y hy
theorem qui (s:Sy) (x:Lb) (l:List Int) (e:Ed) (z:Int):z∈qev s x l e↔z∈l∨(qem s e.l (fun y=>qa0 y.g && decide (qan y x=0))=true∧e.t=z):=by
 unfold qev
 split
 ·rename_i h
  rw [List.mem_append,List.mem_singleton]
  refine or_congr_right ⟨fun e=>⟨h.1,e.symm⟩,fun e=>e.2.symm⟩
 ·rename_i h
  refine ⟨.inl,fun hz=>hz.elim id fun ⟨h1,h2⟩=>?_⟩
  rw [<- h2]
  exact Classical.byContradiction fun hn=>h ⟨h1,hn⟩
theorem qqm (s:Sy) (x:Lb) (z:Int):∀ (is:List (Fin s.es.length)) (l:List Int),z∈qb4 s x is l↔z∈l∨∃ j∈is,qem s s.es[j].l (fun y=>qa0 y.g && decide (qan y x=0))=true∧s.es[j].t=z
 | [],l=>by simp [qb4]
 | i :: is,l=>by
  have ih:=qqm s x z is (qev s x l s.es[i])
  have e:qb4 s x (i :: is) l=qb4 s x is (qev s x l s.es[i]):=rfl
  rw [e,ih,qui]
  simp only [List.mem_cons,exists_eq_or_imp]
  rw [or_assoc]
theorem qg4 (s:Sy) (x:Lb) (sts:List Int) (z:Int):z∈qb2 s x sts↔∃ j:Fin s.es.length,s.es[j].f∈sts∧qem s s.es[j].l (fun y=>qa0 y.g && decide (qan y x=0))=true∧s.es[j].t=z:=by
 have:∀ (sts l:List Int),z∈sts.foldl (fun l st=>qb4 s x (qaw s.es st) l) l↔z∈l∨∃ j:Fin s.es.length,s.es[j].f∈sts∧qem s s.es[j].l (fun y=>qa0 y.g && decide (qan y x=0))=true∧s.es[j].t=z:=by
  intro sts
  induction sts with
  | nil=>intro l;simp
  | cons st sts ih =>
   intro l
   rw [List.foldl_cons,ih,qqm,or_assoc]
   refine or_congr_right ⟨?_,?_⟩
   ·rintro (⟨j,hj,h⟩ | ⟨j,hj,h⟩)
    ·exact ⟨j,by rw [(qgm _ _ _).1 hj];simp,h⟩
    ·exact ⟨j,List.mem_cons_of_mem _ hj,h⟩
   ·rintro ⟨j,hj,h⟩
    rcases List.mem_cons.1 hj with hj | hj
    ·exact .inl ⟨j,(qgm _ _ _).2 hj,h⟩
    ·exact .inr ⟨j,hj,h⟩
 rw [qb2,this]
 simp
theorem qrd (s:Sy):qal s []≠[]:=fun h=>by
 have:=qic s [0] 0 (by simp)
 rw [show qau s [0]=qal s [] from rfl,h] at this
 cases this
end
end Go.Proofs.YtegenalcheooeaaGreat
