/- Of the proof of a law of the suites: Base, Cmp, Cmp2, LibWords, MapW. -/
import Derived.Test.YtegenalcheooeaaGreatProg
import Derived.WalkKit
import Derived.Below
import Derived.BigQuiet
import Derived.Deep.QuietTactic
import Derived.Deep.LoopGhost
import Derived.Deep.DeepCutAuto
import Derived.Deep.RegionHeld3
import Derived.Maps.AppendAt
import Derived.Lib.Hide
import Derived.Shelf.Abstract
import Derived.Laws.EntriesVeiled
import Derived.Carry
/- The data of the program,how they lie in memory,and what a call that only adds to memory leaves as it was. -/
set_option linter.unusedSectionVars false
set_option linter.unusedSimpArgs false
set_option linter.unusedVariables false
namespace Go.Proofs.YtegenalcheooeaaGreat
open Go.RowKit
inductive Tm where
  | mk (k n:Int) (l:List Tm)
def Tm.k:Tm->Int | .mk k _ _=>k
def Tm.n:Tm->Int | .mk _ n _=>n
def Tm.l:Tm->List Tm | .mk _ _ l=>l
structure Lb where
  g:Int
  v:List Tm
structure Ed where
  f:Int
  l:Int
  t:Int
structure Sy where
  n:Int
  ls:List Lb
  es:List Ed
structure Te where
  tr:List Lb
  mu:List Lb
structure Ar where
  f:Int
  l:Lb
  t:Int
structure Mu where
  k:Int
  e:Int
  t:Int
  l:Int
def I64 (n:Int):Prop:=-9223372036854775808<=n∧n<=9223372036854775807
structure Kp (S:Nat->Prop) (w w':World):Prop where
  size:w.heap.size<=w'.heap.size
  block:∀ k,k<w.heap.size->S k->w'.heap[k]? = w.heap[k]?
abbrev Ext (w w':World):Prop:=Below w.heap.size w w'
theorem Ext.kp {S:Nat->Prop} {w w':World} (h:Ext w w'):Kp S w w':=⟨h.size,fun k c _=>h.block k c⟩
theorem Kp.refl (S:Nat->Prop) (w:World):Kp S w w:=⟨Nat.le_refl _,fun _ _ _=>rfl⟩
theorem Kp.trans {S:Nat->Prop} {a b c:World} (h:Kp S a b) (k:Kp S b c):Kp S a c :=
  ⟨Nat.le_trans h.size k.size,fun i hi hs=>(k.block i (Nat.lt_of_lt_of_le hi h.size) hs).trans (h.block i hi hs)⟩
theorem Kp.mono {S S':Nat->Prop} {a b:World} (h:Kp S a b) (hs:∀ k,k<a.heap.size->S' k->S k):Kp S' a b:=⟨h.size,fun k c d=>h.block k c (hs k c d)⟩
theorem Kp.grown {a b:World} {row:Option Nat} (h:a.grownBy b row):Kp (fun k=>some k≠row) a b:=⟨h.size,fun k c hs=>h.block k c hs⟩
theorem Ext.trans' {a b c:World} (h:Ext a b) (k:Ext b c):Ext a c:=h.trans (k.mono h.size)
theorem Ext.refl (a:World):Ext a a:=Below.refl _ _
theorem Ext.alloc {a b:World} (h:Ext a b) (o:Obj):Ext a (b.alloc o):=Below.alloc h h.size o
theorem Ext.drewN {a b:World} (h:Ext a b) (n:Nat):Ext a (b.drewN n):=⟨h.os,h.tape,h.output,h.size,h.block⟩
theorem Ext.set {a b:World} (h:Ext a b) {p:Addr} (c:a.heap.size<=p.block) (u:Value):Ext a (b.setCell p u):=Below.setCell h c u
theorem Ext.cells {W c:World} (d:Ext W c):(∀ b o,b<W.heap.size->c.cell? ⟨b,o,none⟩=W.cell? ⟨b,o,none⟩)∧(∀ b o,b<W.heap.size->c.frozen? ⟨b,o,none⟩=W.frozen? ⟨b,o,none⟩) :=
  ⟨fun b o h=>d.cell (p:=⟨b,o,none⟩) h,fun b o h=>d.frozen (p:=⟨b,o,none⟩) h⟩
structure Bt (Z:Nat->Prop) (w w':World):Prop where
  os:w'.os=w.os
  tape:w'.tape=w.tape
  output:w'.output=w.output
  size:w.heap.size<=w'.heap.size
  block:∀ k,k<w.heap.size->¬ Z k->w'.heap[k]? = w.heap[k]?
theorem Ext.bt {Z:Nat->Prop} {w w':World} (h:Ext w w'):Bt Z w w':=⟨h.os,h.tape,h.output,h.size,fun k c _=>h.block k c⟩
theorem Bt.refl (Z:Nat->Prop) (w:World):Bt Z w w:=⟨rfl,rfl,rfl,Nat.le_refl _,fun _ _ _=>rfl⟩
theorem Bt.trans {Z:Nat->Prop} {a b c:World} (h:Bt Z a b) (k:Bt Z b c):Bt Z a c :=
  ⟨k.os.trans h.os,k.tape.trans h.tape,k.output.trans h.output,Nat.le_trans h.size k.size,fun i hi d=>(k.block i (Nat.lt_of_lt_of_le hi h.size) d).trans (h.block i hi d)⟩
theorem Bt.ext {Z:Nat->Prop} {a b c:World} (h:Bt Z a b) (k:Ext b c):Bt Z a c:=h.trans k.bt
theorem Bt.alloc {Z:Nat->Prop} {a b:World} (h:Bt Z a b) (o:Obj):Bt Z a (b.alloc o):=h.ext ((Ext.refl b).alloc o)
theorem Bt.drew {Z:Nat->Prop} {a b:World} (h:Bt Z a b):Bt Z a b.drew:=h.ext (Ext.refl b).drew
theorem Bt.drewN {Z:Nat->Prop} {a b:World} (h:Bt Z a b) (n:Nat):Bt Z a (b.drewN n):=h.ext ((Ext.refl b).drewN n)
theorem Bt.set {Z:Nat->Prop} {a b:World} (h:Bt Z a b) {p:Addr} (c:a.heap.size<=p.block∨Z p.block) (u:Value):Bt Z a (b.setCell p u) :=
  ⟨h.os,h.tape,h.output,Nat.le_trans h.size (by simp [World.setCell]),fun k m d=>(Below.heap_setCell b p u k (by rintro rfl;rcases c with c | c;exact absurd m (by omega);exact d c)).trans (h.block k m d)⟩
theorem Bt.mono {Z Z':Nat->Prop} {a b:World} (h:Bt Z a b) (m:∀ k,k<a.heap.size->Z k->Z' k):Bt Z' a b:=⟨h.os,h.tape,h.output,h.size,fun k d hn=>h.block k d (fun c=>hn (m k d c))⟩
theorem Bt.kp {Z S:Nat->Prop} {a b:World} (h:Bt Z a b) (hs:∀ k,k<a.heap.size->S k->¬ Z k):Kp S a b:=⟨h.size,fun k d c=>h.block k d (hs k d c)⟩
theorem Bt.of_grown {a b:World} {row:Option Nat} (h:a.grownBy b row):Bt (fun k=>some k=row) a b:=⟨h.os,h.tape,h.output,h.size,fun k c hn=>h.block k c hn⟩
theorem Bt.new {Z:Nat->Prop} {a b c:World} (h:Ext a b) (k:Bt Z b c) (m:∀ i,i<b.heap.size->Z i->a.heap.size<=i):Ext a c :=
  ⟨k.os.trans h.os,k.tape.trans h.tape,k.output.trans h.output,Nat.le_trans h.size k.size,fun i hi=>(k.block i (Nat.lt_of_lt_of_le hi h.size) (fun d=>absurd (m i (Nat.lt_of_lt_of_le hi h.size) d) (by omega))).trans (h.block i hi)⟩
theorem Bt.cell {Z:Nat->Prop} {a b:World} (h:Bt Z a b) {p:Addr} {v:Value} (c:a.cell? p=some v) (d:¬ Z p.block):b.cell? p=some v :=
  (World.cell?_of_block (h.block p.block (World.block_lt_of_cell? a p c) d)).trans c
structure qag (w w':World):Prop where
  ext:Ext w w'
  drawn:w.drawn<=w'.drawn
theorem qag.refl (w:World):qag w w:=⟨Ext.refl w,Nat.le_refl _⟩
theorem qag.trans {a b c:World} (h:qag a b) (k:qag b c):qag a c:=⟨h.ext.trans' k.ext,Nat.le_trans h.drawn k.drawn⟩
theorem qag.alloc {a b:World} (h:qag a b) (o:Obj):qag a (b.alloc o):=⟨h.ext.alloc o,h.drawn⟩
theorem qag.drew {a b:World} (h:qag a b):qag a b.drew:=⟨h.ext.drew,Nat.le_succ_of_le h.drawn⟩
theorem qag.drewN {a b:World} (h:qag a b) (n:Nat):qag a (b.drewN n):=⟨h.ext.drewN n,Nat.le_trans h.drawn (Nat.le_add_right _ _)⟩
theorem qag.keep {W c:World} (d:qag W c) {a:Addr} {v:Value} (h:W.cell? a=some v):c.cell? a=some v:=(d.ext.cell (World.block_lt_of_cell? W a h)).trans h
theorem qag.k3 {W c:World} (d:qag W c) {A u m:Addr} {D v1 v2:Value}:W.cell? A=some D∧W.cell? u=some v1∧W.cell? m=some v2->c.cell? A=some D∧c.cell? u=some v1∧c.cell? m=some v2:=And.imp d.keep (And.imp d.keep d.keep)
theorem qag.k4 {W c:World} (d:qag W c) {A u m D:Addr} {E v1 v2 v3:Value}:W.cell? A=some E∧W.cell? u=some v1∧W.cell? m=some v2∧W.cell? D=some v3->c.cell? A=some E∧c.cell? u=some v1∧c.cell? m=some v2∧c.cell? D=some v3:=And.imp d.keep (And.imp d.keep (And.imp d.keep d.keep))
theorem qag.k5 {W c:World} (d:qag W c) {A u m E D:Addr} {F v1 v2 v3 v4:Value}:W.cell? A=some F∧W.cell? u=some v1∧W.cell? m=some v2∧W.cell? E=some v3∧W.cell? D=some v4->c.cell? A=some F∧c.cell? u=some v1∧c.cell? m=some v2∧c.cell? E=some v3∧c.cell? D=some v4:=And.imp d.keep (And.imp d.keep (And.imp d.keep (And.imp d.keep d.keep)))
theorem qag.k6 {W c:World} (d:qag W c) {A u m E D F:Addr} {G v1 v2 v3 v4 v5:Value}:W.cell? A=some G∧W.cell? u=some v1∧W.cell? m=some v2∧W.cell? E=some v3∧W.cell? D=some v4∧W.cell? F=some v5->c.cell? A=some G∧c.cell? u=some v1∧c.cell? m=some v2∧c.cell? E=some v3∧c.cell? D=some v4∧c.cell? F=some v5:=And.imp d.keep (And.imp d.keep (And.imp d.keep (And.imp d.keep (And.imp d.keep d.keep))))
theorem qag.k7 {W c:World} (d:qag W c) {A u m E D G F:Addr} {I v1 v2 v3 v4 v5 v6:Value}:W.cell? A=some I∧W.cell? u=some v1∧W.cell? m=some v2∧W.cell? E=some v3∧W.cell? D=some v4∧W.cell? G=some v5∧W.cell? F=some v6->c.cell? A=some I∧c.cell? u=some v1∧c.cell? m=some v2∧c.cell? E=some v3∧c.cell? D=some v4∧c.cell? G=some v5∧c.cell? F=some v6:=And.imp d.keep (And.imp d.keep (And.imp d.keep (And.imp d.keep (And.imp d.keep (And.imp d.keep d.keep)))))
theorem qag.k8 {W c:World} (d:qag W c) {u J m D A F E I:Addr} {G v1 v2 v3 v4 v5 v6 v7:Value}:W.cell? u=some G∧W.cell? J=some v1∧W.cell? m=some v2∧W.cell? D=some v3∧W.cell? A=some v4∧W.cell? F=some v5∧W.cell? E=some v6∧W.cell? I=some v7->c.cell? u=some G∧c.cell? J=some v1∧c.cell? m=some v2∧c.cell? D=some v3∧c.cell? A=some v4∧c.cell? F=some v5∧c.cell? E=some v6∧c.cell? I=some v7:=And.imp d.keep (And.imp d.keep (And.imp d.keep (And.imp d.keep (And.imp d.keep (And.imp d.keep (And.imp d.keep d.keep))))))
theorem Ext.keep {W c:World} (d:Ext W c) {a:Addr} {v:Value} (h:W.cell? a=some v):c.cell? a=some v:=(d.cell (World.block_lt_of_cell? W a h)).trans h
theorem Ext.k2 {W c:World} (u:Ext W c) {d A:Addr} {m v1:Value}:W.cell? d=some m∧W.cell? A=some v1->c.cell? d=some m∧c.cell? A=some v1:=And.imp (Ext.keep u) (Ext.keep u)
theorem Ext.k3 {W c:World} (d:Ext W c) {A u m:Addr} {D v1 v2:Value}:W.cell? A=some D∧W.cell? u=some v1∧W.cell? m=some v2->c.cell? A=some D∧c.cell? u=some v1∧c.cell? m=some v2:=And.imp (Ext.keep d) (And.imp (Ext.keep d) (Ext.keep d))
theorem Ext.k4 {W c:World} (d:Ext W c) {A u m D:Addr} {E v1 v2 v3:Value}:W.cell? A=some E∧W.cell? u=some v1∧W.cell? m=some v2∧W.cell? D=some v3->c.cell? A=some E∧c.cell? u=some v1∧c.cell? m=some v2∧c.cell? D=some v3:=And.imp (Ext.keep d) (And.imp (Ext.keep d) (And.imp (Ext.keep d) (Ext.keep d)))
theorem Ext.k5 {W c:World} (d:Ext W c) {A u m E D:Addr} {F v1 v2 v3 v4:Value}:W.cell? A=some F∧W.cell? u=some v1∧W.cell? m=some v2∧W.cell? E=some v3∧W.cell? D=some v4->c.cell? A=some F∧c.cell? u=some v1∧c.cell? m=some v2∧c.cell? E=some v3∧c.cell? D=some v4:=And.imp (Ext.keep d) (And.imp (Ext.keep d) (And.imp (Ext.keep d) (And.imp (Ext.keep d) (Ext.keep d))))
theorem Ext.k6 {W c:World} (d:Ext W c) {A u m E D F:Addr} {G v1 v2 v3 v4 v5:Value}:W.cell? A=some G∧W.cell? u=some v1∧W.cell? m=some v2∧W.cell? E=some v3∧W.cell? D=some v4∧W.cell? F=some v5->c.cell? A=some G∧c.cell? u=some v1∧c.cell? m=some v2∧c.cell? E=some v3∧c.cell? D=some v4∧c.cell? F=some v5:=And.imp (Ext.keep d) (And.imp (Ext.keep d) (And.imp (Ext.keep d) (And.imp (Ext.keep d) (And.imp (Ext.keep d) (Ext.keep d)))))
theorem Ext.k7 {W c:World} (d:Ext W c) {A u m E D G F:Addr} {I v1 v2 v3 v4 v5 v6:Value}:W.cell? A=some I∧W.cell? u=some v1∧W.cell? m=some v2∧W.cell? E=some v3∧W.cell? D=some v4∧W.cell? G=some v5∧W.cell? F=some v6->c.cell? A=some I∧c.cell? u=some v1∧c.cell? m=some v2∧c.cell? E=some v3∧c.cell? D=some v4∧c.cell? G=some v5∧c.cell? F=some v6:=And.imp (Ext.keep d) (And.imp (Ext.keep d) (And.imp (Ext.keep d) (And.imp (Ext.keep d) (And.imp (Ext.keep d) (And.imp (Ext.keep d) (Ext.keep d))))))
theorem bel {a b:World} (h:Ext a b:=by repeat (first | exact Ext.refl _ | apply Ext.alloc | apply Below.drew | apply Ext.drewN | refine Ext.trans' ?_ (by assumption) | refine Ext.trans' ?_ (qag.ext (by assumption)))):Ext a b:=h
theorem qan {a b:World} (h:qag a b:=by repeat (first | exact qag.refl _ | apply qag.alloc | apply qag.drew | apply qag.drewN | refine qag.trans ?_ (by assumption))):qag a b:=h
theorem btt {Z:Nat->Prop} {a b:World} (h:Bt Z a b:=by repeat (first | exact Bt.refl _ _ | assumption | apply Bt.alloc | apply Bt.drew | apply Bt.drewN | refine Bt.set ?_ (by first | (right;rfl) | (left;simp;omega) | (right;simp;omega)) _ | refine Bt.ext ?_ (by assumption) | refine Bt.trans ?_ (by assumption))):Bt Z a b:=h
noncomputable def qam (w x:World):World:=@ite _ (Ext w x) (Classical.propDecidable _) x w
theorem qa7 (w x:World):Ext w (qam w x):=by
  unfold qam
  split
  · assumption
  · exact Ext.refl _
theorem qms {w x:World} (h:Ext w x):qam w x=x:=if_pos h
theorem cell?_exto (w x:World) (a:Addr) (h:(w.cell? a).isSome=true):(qam w x).cell? a=w.cell? a:=by
  obtain ⟨v,c⟩:=Option.isSome_iff_exists.1 h
  rw [c,Ext.keep (qa7 w x) c]
theorem qbh {P:Program} {f:FuncId} {args:Array Value} {w x:World} {v:Value}
    (h:Calls P f args (qam w x) fun e w'=>e = .returned v∧Ext (qam w x) w'):Calls P f args (qam w x) fun e c=>e = .returned v∧∃ y,c=qam w y :=
  h.mono fun _ w' ⟨m,d⟩=>⟨m,w',(qms ((qa7 w x).trans' d)).symm⟩
theorem qaq {P:Program} {f:FuncId} {args:Array Value} {w x:World} {v:Value}
    (h:Calls P f args (qam w x) fun e w'=>e = .returned v∧qag (qam w x) w'):Calls P f args (qam w x) fun e c=>e = .returned v∧∃ y,c=qam w y :=
  qbh (h.mono fun _ w' ⟨m,d⟩=>⟨m,d.ext⟩)
theorem qbs {P:Program} {f:FuncId} {args:Array Value} {w x:World} {v:Value}
    (h:Calls P f args (qam w x) fun e w'=>e = .returned v∧w'=qam w x):Calls P f args (qam w x) fun e c=>e = .returned v∧∃ y,c=qam w y :=
  h.mono fun _ w' ⟨m,d⟩=>⟨m,x,d⟩
theorem qyj {P:Program} {id:Nat} {Q:Exit->Act->World->Prop} {a:Act} {w:World} {l:List Oper} (D:P.follows .mixedOrders=true) (u:Region.lexB .any l.toArray=true)
    (h:wpQuiet P l.toArray (fun w'=>∃ x,w'=qam w x) (fun c=>∀ w',Ext w w'->Q .normal c w') l a):(Code.region id l.toArray true).wp P Q a w:=by
  refine wp_region_quiet (C:=fun w'=>∃ x,w'=qam w x) D u ⟨_,(qms (Ext.refl w).drew).symm⟩ ?_
  have A:(fun c=>∀ w',(∃ x,w'=qam w x)->Q .normal c w')=(fun c=>∀ w',Ext w w'->Q .normal c w'):=by
    funext c
    exact propext ⟨fun h w' m=>h w' ⟨w',(qms m).symm⟩,fun h w' ⟨x,d⟩=>h w' (d ▸ qa7 w x)⟩
  rw [A]
  simpa using h
theorem qap {P:Program} {id:Nat} {Q:Exit->Act->World->Prop} {a:Act} {w:World} {l:List Oper}
    (h:wpQuiet P l.toArray (fun w'=>∃ x,w'=qam w x) (fun c=>∀ w',Ext w w'->Q .normal c w') l a) (d:P.follows .mixedOrders=true:=by kernel_rfl) (hB:Region.lexB .any l.toArray=true:=by kernel_rfl):(Code.region id l.toArray true).wp P Q a w:=qyj d hB h
abbrev Rdr (α:Type):=(Nat->Prop)->World->α->List Value->Prop
def qfm (w:World) (b off:Nat) (cs:List Value):Prop:=∀ i v,cs[i]? = some v->w.cell? ⟨b,off+i,none⟩=some v
structure Good {α:Type} (R:Rdr α) (k:Nat):Prop where
  len:∀ {S w x cs},R S w x cs->cs.length=k
  one:∀ {S w x cs},R S w x cs->∀ u∈cs,u.oneCell'=true
  move:∀ {S w w' x cs},R S w x cs->Kp S w w'->R S w' x cs
  mono:∀ {S S' w x cs},R S w x cs->(∀ b,b<w.heap.size->S b->S' b)->R S' w x cs
theorem qfm.move {w w':World} {b c:Nat} {cs:List Value} (h:qfm w b c cs) (d:w'.heap[b]? = w.heap[b]?):qfm w' b c cs :=
  fun i v hi=>(World.cell?_of_block (a:=⟨b,c+i,none⟩) d).trans (h i v hi)
def qc2 {α:Type} (R:Rdr α) (k:Nat) (S:Nat->Prop) (w:World) (b:Nat):Nat->List α->Prop
  | _,[]=>True
  | off,x :: xs=>(∃ cs,cs.length=k∧R S w x cs∧qfm w b off cs)∧qc2 R k S w b (off+k) xs
theorem qc2.get {α:Type} {R:Rdr α} {k:Nat} {S:Nat->Prop} {w:World} {b:Nat}:∀ {c:Nat} {xs:List α},qc2 R k S w b c xs->∀ i,(h:i<xs.length) ->
    ∃ cs,cs.length=k∧R S w xs[i] cs∧qfm w b (c+i*k) cs
  | c,x :: xs,h,0,_=>by simpa using h.1
  | c,x :: xs,h,i+1,hi=>by
    obtain ⟨cs,m,d,u⟩:=qc2.get h.2 i (by simpa using hi)
    refine ⟨cs,m,by simpa using d,?_⟩
    rwa [show c+(i+1)*k=c+k+i*k from by rw [Nat.add_mul];omega]
theorem qc2.of_get {α:Type} {R:Rdr α} {k:Nat} {S:Nat->Prop} {w:World} {b:Nat}:∀ {c:Nat} {xs:List α},
    (∀ i,(h:i<xs.length)->∃ cs,cs.length=k∧R S w xs[i] cs∧qfm w b (c+i*k) cs)->qc2 R k S w b c xs
  | _,[],_=>trivial
  | c,x :: xs,h=>by
    refine ⟨by obtain ⟨cs,m,d,u⟩:=h 0 (by simp);exact ⟨cs,m,d,by simpa using u⟩,qc2.of_get fun i hi=>?_⟩
    obtain ⟨cs,m,d,u⟩:=h (i+1) (by simpa using hi)
    refine ⟨cs,m,by simpa using d,?_⟩
    rwa [show c+k+i*k=c+(i+1)*k from by rw [Nat.add_mul];omega]
theorem qc2.imp {α:Type} {R:Rdr α} {k:Nat} {S S':Nat->Prop} {w w':World} {b c:Nat} {xs:List α} (h:qc2 R k S w b c xs)
    (A:∀ x∈xs,∀ cs,R S w x cs->R S' w' x cs) (d:w'.heap[b]? = w.heap[b]?):qc2 R k S' w' b c xs :=
  qc2.of_get fun i hi=>by
    obtain ⟨cs,D,m,u⟩:=h.get i hi
    exact ⟨cs,D,A _ (List.getElem_mem hi) _ m,u.move d⟩
def RSl {α:Type} (R:Rdr α) (k:Nat):Rdr (List α):=fun S w xs cs =>
  ∃ A c,cs=[.slice A xs.length c]∧xs.length<=c∧c<=9223372036854775807∧(xs=[]∨∃ b off,A=some ⟨b,off,none⟩∧b<w.heap.size∧S b∧qc2 R k S w b off xs)
theorem RSl.good {α:Type} {R:Rdr α} {k:Nat} (J:Good R k):Good (RSl R k) 1:={
  len:=by rintro S w x cs ⟨A,c,rfl,_⟩;rfl
  one:=by rintro S w x cs ⟨A,c,rfl,_⟩ u L;simp at L;subst L;rfl
  move:=by
    rintro S w w' x cs ⟨A,c,rfl,E,I,D⟩ G
    refine ⟨A,c,rfl,E,I,D.imp id ?_⟩
    rintro ⟨b,d,rfl,m,hs,hr⟩
    exact ⟨b,d,rfl,Nat.lt_of_lt_of_le m G.size,hs,hr.imp (fun x _ cs h=>J.move h G) (G.block b m hs)⟩
  mono:=by
    rintro S S' w x cs ⟨A,c,rfl,E,I,D⟩ hs
    refine ⟨A,c,rfl,E,I,D.imp id ?_⟩
    rintro ⟨b,d,rfl,m,F,hr⟩
    exact ⟨b,d,rfl,m,hs b m F,hr.imp (fun x _ cs h=>J.mono h hs) rfl⟩ }
def qad:Rdr Int:=fun _ _ n cs=>cs=[.int .i64 n]∧I64 n
theorem qad.good:Good qad 1:={
  len:=by rintro S w x cs ⟨rfl,_⟩;rfl
  one:=by rintro S w x cs ⟨rfl,_⟩ u c;simp at c;subst c;rfl
  move:=fun h _=>h
  mono:=fun h _=>h }
def qac:Rdr Bool:=fun _ _ n cs=>cs=[.bool n]
theorem qac.good:Good qac 1:={
  len:=by rintro S w x cs rfl;rfl
  one:=by rintro S w x cs rfl u c;simp at c;subst c;rfl
  move:=fun h _=>h
  mono:=fun h _=>h }
theorem Good.ext {α:Type} {R:Rdr α} {k:Nat} (c:Good R k) {S:Nat->Prop} {w w':World} {x:α} {cs:List Value} (h:R S w x cs) (d:qag w w'):R S w' x cs:=c.move h (Ext.kp d.ext)
theorem Good.bel {α:Type} {R:Rdr α} {k:Nat} (c:Good R k) {S:Nat->Prop} {w w':World} {x:α} {cs:List Value} (h:R S w x cs) (d:Ext w w'):R S w' x cs:=c.move h (Ext.kp d)
mutual
def rTm (S:Nat->Prop) (w:World):Tm->List Value->Prop
  | .mk k n l,cs=>I64 k∧I64 n∧∃ A c,cs=[.int .i64 k,.int .i64 n,.slice A l.length c]∧l.length<=c∧c<=9223372036854775807 ∧
      (l=[]∨∃ b off,A=some ⟨b,off,none⟩∧b<w.heap.size∧S b∧rTms S w b off l)
def rTms (S:Nat->Prop) (w:World) (b:Nat):Nat->List Tm->Prop
  | _,[]=>True
  | off,t :: ts=>(∃ cs,cs.length=3∧rTm S w t cs∧qfm w b off cs)∧rTms S w b (off+3) ts
end
def RTm:Rdr Tm:=rTm
theorem qq9 (S:Nat->Prop) (w:World) (b:Nat):∀ (c:Nat) (l:List Tm),rTms S w b c l↔qc2 RTm 3 S w b c l
  | _,[]=>by simp [rTms,qc2]
  | c,t :: ts=>by
    rw [rTms,qc2,qq9 S w b (c+3) ts]
    rfl
theorem qa6 (S:Nat->Prop) (w:World) (t:Tm) (cs:List Value):RTm S w t cs↔(I64 t.k∧I64 t.n∧∃ v,cs=[.int .i64 t.k,.int .i64 t.n,v]∧RSl RTm 3 S w t.l [v]):=by
  cases t with
  | mk k n l =>
    show rTm S w (.mk k n l) cs↔_
    rw [rTm]
    constructor
    · rintro ⟨D,u,A,c,rfl,F,I,G⟩
      exact ⟨D,u,_,rfl,A,c,rfl,F,I,G.imp id fun ⟨b,d,e,m,hs,hr⟩=>⟨b,d,e,m,hs,(qq9 S w b d l).1 hr⟩⟩
    · rintro ⟨D,u,v,rfl,A,c,E,F,I,G⟩
      injection E with E
      subst E
      exact ⟨D,u,A,c,rfl,F,I,G.imp id fun ⟨b,d,e,m,hs,hr⟩=>⟨b,d,e,m,hs,(qq9 S w b d l).2 hr⟩⟩
theorem RTm.len {S w t cs} (h:RTm S w t cs):cs.length=3:=by
  obtain ⟨_,_,v,rfl,_⟩:=(qa6 ..).1 h
  rfl
mutual
def Tm.size:Tm->Nat
  | .mk _ _ l=>Tm.sizes l+1
def Tm.sizes:List Tm->Nat
  | []=>0
  | t :: ts=>t.size+Tm.sizes ts
end
theorem Tm.size_mem {t:Tm}:∀ {l:List Tm},t∈l->t.size<=Tm.sizes l
  | x :: l,h=>by
    rw [Tm.sizes]
    rcases List.mem_cons.1 h with rfl | h
    · omega
    · have:=Tm.size_mem h;omega
theorem Tm.size_l {t s:Tm} (h:s∈t.l):s.size<t.size:=by
  cases t with
  | mk k n l=>have:=Tm.size_mem (l:=l) h;rw [Tm.size];omega
theorem Tm.ind {p:Tm->Prop} (h:∀ t,(∀ s∈t.l,p s)->p t):∀ t,p t:=by
  have:∀ n t,t.size<=n->p t:=by
    intro n
    induction n with
    | zero=>intro t c;cases t;simp [Tm.size] at c
    | succ n ih=>exact fun t c=>h t fun s hs=>ih s (by have:=Tm.size_l hs;omega)
  exact fun t=>this _ t (Nat.le_refl _)
theorem RTm.move_mono:∀ (t:Tm),(∀ {S w w' cs},RTm S w t cs->Kp S w w'->RTm S w' t cs)∧(∀ {S S':Nat->Prop} {w cs},RTm S w t cs->(∀ b,b<w.heap.size->S b->S' b)->RTm S' w t cs):=by
  refine Tm.ind fun t ih=>⟨fun {S w w' cs} h J=>?_,fun {S S' w cs} h hs=>?_⟩
  · obtain ⟨D,u,v,rfl,A,c,E,I,M,L⟩:=(qa6 ..).1 h
    refine (qa6 ..).2 ⟨D,u,v,rfl,A,c,E,I,M,L.imp id ?_⟩
    rintro ⟨b,d,rfl,m,hs,hr⟩
    exact ⟨b,d,rfl,Nat.lt_of_lt_of_le m J.size,hs,hr.imp (fun x F cs h=>(ih x F).1 h J) (J.block b m hs)⟩
  · obtain ⟨D,u,v,rfl,A,c,E,I,M,L⟩:=(qa6 ..).1 h
    refine (qa6 ..).2 ⟨D,u,v,rfl,A,c,E,I,M,L.imp id ?_⟩
    rintro ⟨b,d,rfl,m,G,hr⟩
    exact ⟨b,d,rfl,m,hs b m G,hr.imp (fun x F cs h=>(ih x F).2 h hs) rfl⟩
theorem RTm.good:Good RTm 3:={
  len:=RTm.len
  one:=by
    rintro S w t cs h u m
    obtain ⟨_,_,v,rfl,A,c,d,_⟩:=(qa6 ..).1 h
    injection d with d
    subst d
    simp at m
    rcases m with rfl | rfl | rfl <;> rfl
  move:=fun h D=>(RTm.move_mono _).1 h D
  mono:=fun h hs=>(RTm.move_mono _).2 h hs }
abbrev qar:Rdr (List Tm):=RSl RTm 3
theorem qar.good:Good qar 1:=RSl.good RTm.good
def RLb:Rdr Lb:=fun S w x cs=>I64 x.g∧∃ v,cs=[.int .i64 x.g,v]∧qar S w x.v [v]
theorem RLb.good:Good RLb 2:={
  len:=by rintro S w x cs ⟨_,v,rfl,_⟩;rfl
  one:=by
    rintro S w t cs ⟨_,v,rfl,A,c,d,_⟩ u m
    injection d with d
    subst d
    simp at m
    rcases m with rfl | rfl <;> rfl
  move:=by rintro S w w' x cs ⟨h,v,rfl,d⟩ D;exact ⟨h,v,rfl,(RSl.good RTm.good).move d D⟩
  mono:=by rintro S S' w x cs ⟨h,v,rfl,d⟩ hs;exact ⟨h,v,rfl,(RSl.good RTm.good).mono d hs⟩ }
abbrev qaa:Rdr (List Lb):=RSl RLb 2
theorem qaa.good:Good qaa 1:=RSl.good RLb.good
def REd:Rdr Ed:=fun _ _ x cs=>I64 x.f∧I64 x.l∧I64 x.t∧cs=[.int .i64 x.f,.int .i64 x.l,.int .i64 x.t]
theorem REd.good:Good REd 3:={
  len:=by rintro S w x cs ⟨_,_,_,rfl⟩;rfl
  one:=by
    rintro S w t cs ⟨_,_,_,rfl⟩ u c
    simp at c
    rcases c with rfl | rfl | rfl <;> rfl
  move:=fun h _=>h
  mono:=fun h _=>h }
abbrev qa3:Rdr (List Ed):=RSl REd 3
theorem qa3.good:Good qa3 1:=RSl.good REd.good
def RSy:Rdr Sy:=fun S w x cs=>I64 x.n∧∃ v u,cs=[.int .i64 x.n,v,u]∧qaa S w x.ls [v]∧qa3 S w x.es [u]
def RTe:Rdr Te:=fun S w x cs=>∃ v u,cs=[v,u]∧qaa S w x.tr [v]∧qaa S w x.mu [u]
theorem RSl.oneCell {α:Type} {R:Rdr α} {k:Nat} {S w} {x:List α} {v:Value} (h:RSl R k S w x [v]):v.oneCell'=true:=by
  obtain ⟨A,c,d,_⟩:=h
  injection d with d
  subst d
  rfl
theorem RSy.good:Good RSy 3:={
  len:=by rintro S w x cs ⟨_,v,u,rfl,_⟩;rfl
  one:=by
    rintro S w t cs ⟨_,v,u,rfl,c,d⟩ y hy
    simp at hy
    rcases hy with rfl | rfl | rfl
    · rfl
    · exact c.oneCell
    · exact d.oneCell
  move:=by rintro S w w' x cs ⟨h,v,u,rfl,c,d⟩ m;exact ⟨h,v,u,rfl,qaa.good.move c m,qa3.good.move d m⟩
  mono:=by rintro S S' w x cs ⟨h,v,u,rfl,c,d⟩ hs;exact ⟨h,v,u,rfl,qaa.good.mono c hs,qa3.good.mono d hs⟩ }
theorem RTe.good:Good RTe 2 where
  len:=by rintro S w x cs ⟨v,u,rfl,_⟩;rfl
  one:=by
    rintro S w t cs ⟨v,u,rfl,c,d⟩ y hy
    simp at hy
    rcases hy with rfl | rfl
    · exact c.oneCell
    · exact d.oneCell
  move:=by rintro S w w' x cs ⟨v,u,rfl,c,d⟩ m;exact ⟨v,u,rfl,qaa.good.move c m,qaa.good.move d m⟩
  mono:=by rintro S S' w x cs ⟨v,u,rfl,c,d⟩ hs;exact ⟨v,u,rfl,qaa.good.mono c hs,qaa.good.mono d hs⟩
def RAr:Rdr Ar:=fun S w x cs=>I64 x.f∧I64 x.t∧∃ v,cs=[.int .i64 x.f,.int .i64 x.l.g,v,.int .i64 x.t]∧I64 x.l.g∧qar S w x.l.v [v]
theorem RAr.good:Good RAr 4:={
  len:=by rintro S w x cs ⟨_,_,v,rfl,_⟩;rfl
  one:=by
    rintro S w t cs ⟨_,_,v,rfl,_,c⟩ y hy
    simp at hy
    rcases hy with rfl | rfl | rfl | rfl
    · rfl
    · rfl
    · exact c.oneCell
    · rfl
  move:=by rintro S w w' x cs ⟨h,d,v,rfl,m,c⟩ u;exact ⟨h,d,v,rfl,m,(RSl.good RTm.good).move c u⟩
  mono:=by rintro S S' w x cs ⟨h,d,v,rfl,m,c⟩ hs;exact ⟨h,d,v,rfl,m,(RSl.good RTm.good).mono c hs⟩ }
def RMu:Rdr Mu:=fun _ _ x cs=>I64 x.k∧I64 x.e∧I64 x.t∧I64 x.l∧cs=[.int .i64 x.k,.int .i64 x.e,.int .i64 x.t,.int .i64 x.l]
theorem RMu.good:Good RMu 4:={
  len:=by rintro S w x cs ⟨_,_,_,_,rfl⟩;rfl
  one:=by
    rintro S w t cs ⟨_,_,_,_,rfl⟩ u c
    simp at c
    rcases c with rfl | rfl | rfl | rfl <;> rfl
  move:=fun h _=>h
  mono:=fun h _=>h }
theorem RSl.at {α:Type} {R:Rdr α} {k:Nat} {S:Nat->Prop} {w:World} {xs:List α} {v:Value} (h:RSl R k S w xs [v]) (i:Nat) (hi:i<xs.length) :
    ∃ b d c cs,v = .slice (some ⟨b,d,none⟩) xs.length c∧b<w.heap.size∧S b∧cs.length=k∧R S w xs[i] cs∧qfm w b (d+i*k) cs:=by
  obtain ⟨A,c,m,I,J,D⟩:=h
  injection m with m
  subst m
  rcases D with rfl | ⟨b,d,rfl,u,hs,hr⟩
  · simp at hi
  · obtain ⟨cs,E,F,G⟩:=hr.get i hi
    exact ⟨b,d,c,cs,rfl,u,hs,E,F,G⟩
theorem RSl.get {α:Type} {R:Rdr α} {k:Nat} {S:Nat->Prop} {w:World} {xs:List α} {A:Option Addr} {n c:Nat} (h:RSl R k S w xs [.slice A n c]) (i:Nat) (hi:i<xs.length) :
    ∃ b d cs,A=some ⟨b,d,none⟩∧b<w.heap.size∧S b∧cs.length=k∧R S w xs[i] cs∧qfm w b (d+i*k) cs:=by
  obtain ⟨b,d,I,cs,m,G,u,D,E,F⟩:=h.at i hi
  injection m with m
  exact ⟨b,d,cs,m,G,u,D,E,F⟩
theorem RSl.val {α:Type} {R:Rdr α} {k:Nat} {S:Nat->Prop} {w:World} {xs:List α} {v:Value} (h:RSl R k S w xs [v]):∃ A c,v = .slice A xs.length c∧xs.length<=c∧c<=9223372036854775807:=by
  obtain ⟨A,c,d,m,u,D⟩:=h
  injection d with d
  exact ⟨A,c,d,m,u⟩
theorem qfm.get {w:World} {b c:Nat} {cs:List Value} (h:qfm w b c cs) (i:Nat) (v:Value) (hi:cs[i]? = some v:=by rfl):w.cell? ⟨b,c+i,none⟩=some v:=h i v hi
theorem tk {P:Program} {md:Region.Mode} {m:Array Oper} {Q:Exit->Act->World->Prop} {S:World->Prop} (i:Nat) {A:Oper} {v:Value} {u:Nat} {d:Array Bool} {a:Act} {w:World}
    (h:wpAnyH P md m Q S u (d.setIfInBounds i true) (a.put A.dst v) w) (hi:m[i]? = some A:=by exact rfl) (hs:Region.noSelect m=true:=by kernel_rfl) (hf:Region.free md m d i=true:=by kernel_rfl)
    (hr:(Region.ready md m d).contains i=true:=by kernel_rfl) (hQ:∀ c a w,Q (.panic c) (a.put A.dst v) w->Q (.panic c) a w:=by exact fun _ _ _ h=>h) (hn:Region.wanted A (yielded m a.tmps)=true:=by rfl)
    (hy:∀ w,S w->(execOp a.eval A).run P w = .ok (.value v) w:=by (intro w D;(try dsimp only at D);go_simp;(try with_reducible rfl))) (hS:S w:=by assumption):wpAnyH P md m Q S (u+1) d a w :=
  wpAnyH_take hi hs hf hr hQ (Or.inl ⟨hn,hy⟩) hS h
theorem Hd {p:Prop} (h:p):Hid p:=h
theorem qae:(∀ (a:Act) (v:Value),a.put none v=a)∧(∀ (a:Act) (t:Nat) (v:Value),a.put (some t) v={ a with tmps:=a.tmps.setIfInBounds t v })∧(∀ (α:Type) (xs:List α) (i:Nat) (v:α),xs.toArray.setIfInBounds i v=(xs.set i v).toArray)∧(∀ (α:Type) (x v:α) (xs:List α),(x :: xs).set 0 v=v :: xs)∧(∀ (α:Type) (x v:α) (xs:List α) (i:Nat),(x :: xs).set (i+1) v=x :: xs.set i v) :=
  ⟨fun _ _=>rfl,fun _ _ _=>rfl,fun _ _ _ _=>by simp,fun _ _ _ _=>rfl,fun _ _ _ _ _=>rfl⟩
theorem nm {α:Sort _} (a:α):∃ x,a=x:=⟨_,rfl⟩
theorem dx {a b:World} (h:Ext a.drew b):Ext a b:=Ext.trans' (Below.drew (Ext.refl _)) h
theorem g2 {w:World} {b c:Nat} {u v:Value} {cs:List Value} (h:qfm w b c (u :: v :: cs)):w.cell? ⟨b,c,none⟩=some u∧w.cell? ⟨b,c+1,none⟩=some v:=⟨h 0 u rfl,h 1 v rfl⟩
theorem g3 {w:World} {b c:Nat} {u v x:Value} {cs:List Value} (h:qfm w b c (u :: v :: x :: cs)):w.cell? ⟨b,c,none⟩=some u∧w.cell? ⟨b,c+1,none⟩=some v∧w.cell? ⟨b,c+2,none⟩=some x:=⟨h 0 u rfl,h 1 v rfl,h 2 x rfl⟩
end Go.Proofs.YtegenalcheooeaaGreat
set_option linter.unusedSectionVars false
set_option linter.unusedSimpArgs false
set_option linter.unusedVariables false
namespace Go.Proofs.YtegenalcheooeaaGreat
open Go.RowKit
attribute [local go_sem] cell?_exto
set_option maxHeartbeats 16000000
set_option maxRecDepth 100000
section
/- The order of labels in the program: what compare,term and cmp's helpers come to. -/
def qai (a b:Int):Int:=if a<b then -1 else if b<a then 1 else 0
theorem qod (a:Int) (w:World):Calls Tryz.prog 187 #[.int .i64 a] w λe w'=>e = .returned (.bool false)/\w'=w:=by
 go_enter Tryz.func187,Tryz.ntmps187
 go_wp2
 all_goals go_ret
 all_goals exact⟨by simp,rfl⟩
theorem qgh (a b:Int) (w:World):Calls Tryz.prog 120 #[.int .i64 a,.int .i64 b] w λe w'=>e = .returned (.int .i64 (qai a b))/\w'=w:=by
 unfold qai
 by_cases c:a<b
 .go_enter Tryz.func120,Tryz.ntmps120
  go_wp2_with (go_at_call 187;refine(qod _ _).mono ?_;rintro e w' ⟨rfl,rfl⟩)
  go_ret;exact⟨by simp[c],rfl⟩
 by_cases d:b<a
 .go_enter Tryz.func120,Tryz.ntmps120
  go_wp2_with (go_at_call 187;refine(qod _ _).mono ?_;rintro e w' ⟨rfl,rfl⟩)
  go_ret;exact⟨by simp[c,d],rfl⟩
 go_enter Tryz.func120,Tryz.ntmps120
 go_wp2_with (go_at_call 187;refine(qod _ _).mono ?_;rintro e w' ⟨rfl,rfl⟩)
 go_ret;exact⟨by simp[c,d],rfl⟩
theorem qg6 (a b:Int):I64 (qai a b):=by
 unfold qai I64
 split
 .omega
 split <;> omega
def orI:List Int->Int
 | []=>0
 | x :: xs=>if x=0 then orI xs else x
theorem qtn (l:List Int) (k:Nat) (h:∀j,(c:j<l.length)->j<k->l[j]=0):orI l=orI (l.drop k):=by
 induction k generalizing l with
 | zero=>rfl
 | succ k ih =>
  cases l with
  | nil=>rfl
  | cons x xs =>
   have d:x=0:=h 0 (by simp) (by omega);rw[List.drop_succ_cons,<- ih xs (λj c m=>by have:=h (j+1) (by simpa using c) (by omega);simpa using this)];simp[orI,d]
theorem orI_64 {l:List Int} (h:∀x∈l,I64 x):I64 (orI l):=by
 induction l with
 | nil=>exact⟨by decide,by decide⟩
 | cons x xs ih =>
  unfold orI
  split
  .exact ih λy hy=>h y (List.mem_cons_of_mem _ hy)
  exact h x (by simp)
theorem or_c (S) (l:List Int) (v:Value) (w:World) (h:RSl qad 1 S w l [v]):Calls Tryz.prog 119 #[v] w λe w'=>e = .returned (.int .i64 (orI l))/\w'=w:=by
 obtain⟨A,c,rfl,U,L⟩:=h.val
 go_enter Tryz.func119,Tryz.ntmps119
 go_wp2
 go_loop [5,8] (λ_ i=>∃k:Nat,k<=l.length/\i = .int .i64 k/\Hid (∀j,(D:j<l.length)->j<k->l[j]=0)) (λ_ i=>l.length-(intOf i).toNat)
 case atStart=>exact⟨0,Nat.zero_le _,rfl,λj _ D=>absurd D (by omega)⟩
 obtain⟨k,V,rfl,F⟩:=hrel
 by_cases u:k<l.length
 .obtain ⟨b,I,cs,rfl,O,hs,M,⟨J,_⟩,d⟩:=h.get k u;subst J;have g:=by simpa using d.get 0 _
  clear d hs M
  by_cases m:l[k]=0
  .have E:(l[k] != 0)=false:=by simp[m]
   have G:Hid _:=m;clear m
   go_wp2
   go_round
   case rel =>
    refine⟨k+1,by omega,by go_num,λj D N=>?_⟩
    rcases Nat.lt_or_ge j k with h | h
    .exact F j D h
    obtain rfl:j=k:=by omega
    exact G
   simp[intOf];omega
  have E:(l[k] != 0)=true:=by simp[m]
  have G:Hid _:=m;clear m
  go_wp2
  go_ret;refine⟨?_,rfl⟩;rw[qtn l k F,List.drop_eq_getElem_cons u,orI,if_neg G.out];rfl
 go_wp2
 go_ret;refine⟨?_,rfl⟩;rw[qtn l k F,List.drop_of_length_le (by omega)];rfl
theorem qmf (W:World) (l:List Int) (t:TypeId) (h:∀x∈l,I64 x) (m:l.length<=1000):RSl qad 1 (λ_=>True) (W.alloc (.cells (l.map λn=>Value.int .i64 n).toArray t)) l [.slice (some ⟨W.heap.size,0,none⟩) l.length l.length]:=by
 refine⟨_,_,rfl,Nat.le_refl _,by omega,.inr ⟨W.heap.size,0,rfl,by simp,trivial,qc2.of_get λi hi=>⟨[.int .i64 l[i]],rfl,⟨rfl,h _ (List.getElem_mem hi)⟩,?_⟩⟩⟩;intro j v d
 have c:j=0:=by
  rcases j with _ | j
  .rfl
  simp at d
 subst c;simp at d;subst d;have e:(W.alloc (.cells (l.map λn=>Value.int .i64 n).toArray t)).heap[W.heap.size]? = some (.cells (l.map λn=>Value.int .i64 n).toArray t (0,0)):=Array.getElem?_push_size;unfold World.cell?;simp only[Nat.zero_add,Nat.add_zero,Nat.mul_one];rw[e];simp[hi]
mutual
def qb9:Tm->Tm->Int
 | .mk k n l,.mk k' n' l'=>orI [qai k k',qai n n',qai l.length l'.length,qax l l']
def qax:List Tm->List Tm->Int
 | [],l'=>qai 0 l'.length
 | _ :: _,[]=>1
 | x :: xs,y :: ys=>if qb9 x y=0 then qax xs ys else qb9 x y
end
def qak (a b:Lb):Int:=orI [qai a.g b.g,qax a.v b.v]
mutual
theorem cmpTm_64:∀x y,I64 (qb9 x y)
 | .mk k n l,.mk k' n' l'=>by
  rw[qb9];refine orI_64 λx hx=>?_
  simp at hx
  rcases hx with rfl | rfl | rfl | rfl
  .exact qg6 _ _
  .exact qg6 _ _
  .exact qg6 _ _
  exact qlm _ _
theorem qlm:∀x y,I64 (qax x y)
 | [],l'=>by rw[qax];exact qg6 _ _
 | _ :: _,[]=>by rw[qax];exact⟨by decide,by decide⟩
 | x :: xs,y :: ys=>by
  rw[qax]
  split
  .exact qlm _ _
  exact cmpTm_64 _ _
end
theorem qqk (x y:Tm):qb9 x y=orI [qai x.k y.k,qai x.n y.n,qai x.l.length y.l.length,qax x.l y.l]:=by cases x;cases y;rw[qb9];rfl
def qm6 (x:List Tm):Prop:=∀(S:Nat->Prop) (y:List Tm) (B:Nat) (vx vy:Value) (W:World),qar S W x [vx]->qar S W y [vy]->W.cell? ⟨B,0,none⟩=some (.func (.func 230) #[] #[.pointer (some ⟨B,0,none⟩)]) ->
  Calls Tryz.prog 230 #[vx,vy,.pointer (some ⟨B,0,none⟩)] W λe w'=>e = .returned (.int .i64 (qax x y))/\qag W w'
def TermC (x:Tm):Prop:=∀(S:Nat->Prop) (y:Tm) (B:Nat) (cx cy:List Value) (W:World),RTm S W x cx->RTm S W y cy->W.cell? ⟨B,0,none⟩=some (.func (.func 230) #[] #[.pointer (some ⟨B,0,none⟩)]) ->
  Calls Tryz.prog 231 #[.agg cx.toArray,.agg cy.toArray,.func (.func 230) #[] #[.pointer (some ⟨B,0,none⟩)]] W λe w'=>e = .returned (.int .i64 (qb9 x y))/\qag W w'
theorem qw2 (S:Nat->Prop) (x y:Lb) (m E:Value) (w:World) (D:qar S w x.v [m]) (hy:qar S w y.v [E]) (G:qm6 x.v) :
  Calls Tryz.prog 166 #[.agg #[.int .i64 x.g,m],.agg #[.int .i64 y.g,E]] w λe w'=>e = .returned (.int .i64 (qak x y))/\qag w w':=by
 obtain⟨A,c,rfl,N,L⟩:=D.val;obtain⟨I,M,rfl,J,u⟩:=hy.val
 go_enter Tryz.func166,Tryz.ntmps166
 go_wp2
 go_region_held3 (λW=>W.cell? ⟨w.heap.size,0,none⟩=some (.int .i64 x.g)/\W.cell? ⟨w.heap.size,1,none⟩=some (.slice A x.v.length c)/\W.cell? ⟨w.heap.size+1,0,none⟩=some (.int .i64 y.g)/\W.cell? ⟨w.heap.size+1,1,none⟩=some (.slice I y.v.length M)/\W.cell? ⟨w.heap.size+1+1,0,none⟩=some (.func (.func 230) #[] #[.pointer (some ⟨w.heap.size+1+1,0,none⟩)]))
  (first | (refine⟨?_,?_,?_,?_,?_⟩ <;> go_simp <;> done) | exact d.k5 (by assumption) | exact((qag.refl _).alloc _).k5 (by assumption))
  (first | (go_at_call 120;refine(qgh _ _ _).mono ?_;rintro e w' ⟨rfl,rfl⟩) | (go_at_call 230;refine(G S y.v _ _ _ _ (qar.good.ext D qan) (qar.good.ext hy qan) (by go_simp)).mono ?_;rintro e O ⟨rfl,d⟩) | (go_at_call 119;refine(or_c (λ_=>True) [qai x.g y.g,qax x.v y.v] _ _ (qmf _ [qai x.g y.g,qax x.v y.v] 3 (by intro z F;simp at F;rcases F with rfl | rfl <;> first | exact qg6 _ _ | exact qlm _ _) (by simp))).mono ?_;rintro e w' ⟨rfl,rfl⟩))
 go_wp2
 go_ret;exact⟨rfl,qan⟩
theorem term_of (x:Tm) (J:qm6 x.l):TermC x:=by
 intro S y B X V w E hy I;obtain⟨_,_,vx,rfl,d⟩:=(qa6 ..).1 E;obtain⟨_,_,U,rfl,m⟩:=(qa6 ..).1 hy;obtain⟨A,c,rfl,Y,O⟩:=d.val;obtain⟨G,L,rfl,M,D⟩:=m.val;have N:=World.block_lt_of_cell? w _ I;clear E hy
 go_enter Tryz.func231,Tryz.ntmps231
 go_wp2
 go_region_held3 (λW=>W.cell? ⟨w.heap.size,0,none⟩=some (.int .i64 x.k)/\W.cell? ⟨w.heap.size,1,none⟩=some (.int .i64 x.n)/\W.cell? ⟨w.heap.size,2,none⟩=some (.slice A x.l.length c)/\W.cell? ⟨w.heap.size+1,0,none⟩=some (.int .i64 y.k)/\W.cell? ⟨w.heap.size+1,1,none⟩=some (.int .i64 y.n)/\W.cell? ⟨w.heap.size+1,2,none⟩=some (.slice G y.l.length L)/\W.cell? ⟨B,0,none⟩=some (.func (.func 230) #[] #[.pointer (some ⟨B,0,none⟩)]))
  (first | (refine⟨?_,?_,?_,?_,?_,?_,?_⟩ <;> go_simp <;> done) | exact u.k7 (by assumption) | exact((qag.refl _).alloc _).k7 (by assumption))
  (first | (go_at_call 120;refine(qgh _ _ _).mono ?_;rintro e w' ⟨rfl,rfl⟩) | (go_at_call 230;refine(J S y.l _ _ _ _ (qar.good.ext d qan) (qar.good.ext m qan) (by go_simp)).mono ?_;rintro e w1 ⟨rfl,u⟩) | (go_at_call 119;refine(or_c (λ_=>True) [qai x.k y.k,qai x.n y.n,qai x.l.length y.l.length,qax x.l y.l] _ _ (qmf _ [qai x.k y.k,qai x.n y.n,qai x.l.length y.l.length,qax x.l y.l] 3 (by intro z F;simp at F;rcases F with rfl | rfl | rfl | rfl <;> first | exact qg6 _ _ | exact qlm _ _) (by simp))).mono ?_;rintro e w' ⟨rfl,rfl⟩))
 go_wp2
 go_ret;exact⟨by rw[qqk];rfl,qan⟩
theorem qo0:∀(k:Nat) (x y:List Tm),(∀j,(m:j<x.length)->(d:j<y.length)->j<k->qb9 x[j] y[j]=0)->k<=x.length->k<=y.length->qax x y=qax (x.drop k) (y.drop k)
 | 0,_,_,_,_,_=>rfl
 | k+1,x :: xs,y :: ys,h,m,d=>by
  rw[List.drop_succ_cons,List.drop_succ_cons,<- qo0 k xs ys (λj a b c=>by have:=h (j+1) (by simpa using a) (by simpa using b) (by omega);simpa using this) (by simpa using m) (by simpa using d),qax,if_pos];exact h 0 (by simp) (by simp) (by omega)
 | k+1,[],_,_,m,_=>by simp at m
 | k+1,_ :: _,[],_,_,d=>by simp at d
theorem qq6 {x y:List Tm} {k:Nat} (h:k=x.length\/k=y.length) (u:k<=x.length) (m:k<=y.length):qax (x.drop k) (y.drop k)=qai x.length y.length:=by
 unfold qai
 rcases Nat.lt_or_ge k x.length with c | c
 .have hy:y.length=k:=by omega
  rw[List.drop_eq_getElem_cons c,List.drop_of_length_le (l:=y) (by omega),qax,if_neg (by omega),if_pos (by omega)]
 rw[List.drop_of_length_le (l:=x) (by omega),qax,qai];have d:((y.drop k).length:Int)=y.length-x.length:=by rw[List.length_drop];omega
 rw[d];have e1:(0<(y.length:Int)-x.length)↔((x.length:Int)<y.length):=by omega
 have e2:((y.length:Int)-x.length<0)↔((y.length:Int)<x.length):=by omega
 simp only[e1,e2]
end
section

theorem qud (x:List Tm) (ht:∀t∈x,TermC t):qm6 x:=by
 intro S y B vx vy w hx hy hB;obtain⟨A,c,rfl,hc,hc0⟩:=hx.val;obtain⟨A',c',rfl,hc',hc0'⟩:=hy.val;have hB0:=World.block_lt_of_cell? w _ hB
 go_enter Tryz.func230,Tryz.ntmps230
 go_wp2
 go_loopw [5,6,7] (λ_ i _ wr=>∃k:Nat,k<=x.length/\k<=y.length/\i = .int .i64 k/\qag w wr/\Hid (∀j,(h1:j<x.length)->(h2:j<y.length)->j<k->qb9 x[j] y[j]=0)) (λ_ i _ _=>x.length-(intOf i).toNat)
 case atStart=>exact⟨0,Nat.zero_le _,Nat.zero_le _,rfl,qag.refl _,λj _ _ hj=>absurd hj (by omega)⟩
 obtain⟨k,hk,hk',rfl,hE,hz⟩:=hrel
 by_cases hlt:k<x.length/\k<y.length
 .obtain ⟨hlt,hlt'⟩:=hlt;have tB:=hE.keep hB;obtain⟨b,off,cs,rfl,hb,hs,hl,hr,hcell⟩:=(qar.good.ext hx hE).get k hlt;obtain⟨b',off',cs',rfl,hb',hs',hl',hr',hcell'⟩:=(qar.good.ext hy hE).get k hlt';obtain⟨i1,i2,v,rfl,hv⟩:=(qa6 ..).1 hr;obtain⟨i1',i2',v',rfl,hv'⟩:=(qa6 ..).1 hr';obtain⟨A2,c2,rfl,_,_⟩:=hv.val;obtain⟨A2',c2',rfl,_,_⟩:=hv'.val;have g0:=hcell.get 0 _;have g1:=hcell.get 1 _;have g2:=hcell.get 2 _;have g0':=hcell'.get 0 _;have g1':=hcell'.get 1 _;have g2':=hcell'.get 2 _;simp only[Nat.add_zero]at g0 g0';have hcon:=ht x[k] (List.getElem_mem hlt) S y[k] B;clear hcell hcell' hl hl' hs hs' ht;have z1:(0:Int)<=(k:Int):=by omega
  have z2:(k:Int)<(x.length:Int):=by omega
  have z3:(k:Int)<(y.length:Int):=by omega
  by_cases h0:qb9 x[k] y[k]=0
  .have h0':(qb9 x[k] y[k] != 0)=false:=by simp[h0]
   have H0:Hid _:=h0;clear h0
   go_wp2
   go_region_held3 (λW=>W.cell? ⟨b,off+k*3,none⟩=some (.int .i64 x[k].k)/\W.cell? ⟨b,off+k*3+1,none⟩=some (.int .i64 x[k].n)/\W.cell? ⟨b,off+k*3+2,none⟩=some (.slice A2 x[k].l.length c2)/\W.cell? ⟨b',off'+k*3,none⟩=some (.int .i64 y[k].k)/\W.cell? ⟨b',off'+k*3+1,none⟩=some (.int .i64 y[k].n)/\W.cell? ⟨b',off'+k*3+2,none⟩=some (.slice A2' y[k].l.length c2')/\W.cell? ⟨B,0,none⟩=some (.func (.func 230) #[] #[.pointer (some ⟨B,0,none⟩)]))
    (first | (refine⟨?_,?_,?_,?_,?_,?_,?_⟩ <;> go_simp <;> done) | exact hx1.k7 (by assumption) | exact((qag.refl _).alloc _).k7 (by assumption))
    (first | (go_at_call 231;refine(hcon _ _ _ (RTm.good.ext hr qan) (RTm.good.ext hr' qan) (by go_simp)).mono ?_;rintro e w1 ⟨rfl,hx1⟩))
   go_wp2
   go_roundw
   case rel =>
    refine⟨k+1,by omega,by omega,by go_num,qan,λj h1 h2 hjk=>?_⟩
    rcases Nat.lt_or_ge j k with h | h
    .exact hz j h1 h2 h
    obtain rfl:j=k:=by omega
    exact H0
   simp[intOf];omega
  have h0':(qb9 x[k] y[k] != 0)=true:=by simp[h0]
  have H0:Hid _:=h0;clear h0
  go_wp2
  go_region_held3 (λW=>W.cell? ⟨b,off+k*3,none⟩=some (.int .i64 x[k].k)/\W.cell? ⟨b,off+k*3+1,none⟩=some (.int .i64 x[k].n)/\W.cell? ⟨b,off+k*3+2,none⟩=some (.slice A2 x[k].l.length c2)/\W.cell? ⟨b',off'+k*3,none⟩=some (.int .i64 y[k].k)/\W.cell? ⟨b',off'+k*3+1,none⟩=some (.int .i64 y[k].n)/\W.cell? ⟨b',off'+k*3+2,none⟩=some (.slice A2' y[k].l.length c2')/\W.cell? ⟨B,0,none⟩=some (.func (.func 230) #[] #[.pointer (some ⟨B,0,none⟩)]))
   (first | (refine⟨?_,?_,?_,?_,?_,?_,?_⟩ <;> go_simp <;> done) | exact hx1.k7 (by assumption) | exact((qag.refl _).alloc _).k7 (by assumption))
   (first | (go_at_call 231;refine(hcon _ _ _ (RTm.good.ext hr qan) (RTm.good.ext hr' qan) (by go_simp)).mono ?_;rintro e w1 ⟨rfl,hx1⟩))
  go_wp2
  go_ret;refine⟨?_,qan⟩;rw[qo0 k x y hz hk hk',List.drop_eq_getElem_cons hlt,List.drop_eq_getElem_cons hlt',qax,if_neg H0.out];rfl
 have e:qax x y=qai x.length y.length:=by rw[qo0 k x y hz hk hk',qq6 (by omega) hk hk']
 have HE:Hid _:=e;clear e
 by_cases hl1:k<x.length
 .have hl2:decide (k<y.length)=false:=by simp;omega
  have hl3:decide ((k:Int)<(y.length:Int))=false:=by simp;omega
  clear hlt ht
  go_wp2_with (go_at_call 120;refine(qgh _ _ _).mono ?_;rintro e w' ⟨rfl,rfl⟩)
  go_ret;exact⟨by rw[HE.out];rfl,hE⟩
 clear hlt ht
 go_wp2_with (go_at_call 120;refine(qgh _ _ _).mono ?_;rintro e w' ⟨rfl,rfl⟩)
 go_ret;exact⟨by rw[HE.out];rfl,hE⟩
theorem term_c:∀x,TermC x:=Tm.ind λt ih=>term_of t (qud t.l ih)
theorem terms_c (x:List Tm):qm6 x:=qud x λt _=>term_c t
theorem qi2 (S:Nat->Prop) (x y:Lb) (m d:List Value) (w:World) (c:RLb S w x m) (hy:RLb S w y d) :
  Calls Tryz.prog 166 #[.agg m.toArray,.agg d.toArray] w λe w'=>e = .returned (.int .i64 (qak x y))/\qag w w':=by
 obtain⟨_,u,rfl,c⟩:=c;obtain⟨_,A,rfl,hy⟩:=hy;exact qw2 S x y u A w c hy (terms_c _)
end
section
def qav {σ α:Type} (step:σ->α->Bool×σ):σ->List α->Int×σ
 | s,[]=>(-1,s)
 | s,x :: xs=>if (step s x).1 then (0,(step s x).2) else
   ((qav step (step s x).2 xs).1+(if (qav step (step s x).2 xs).1<0 then 0 else 1),(qav step (step s x).2 xs).2)
def qc9 {σ α:Type} (step:σ->α->Bool×σ):σ->List α->Bool×σ
 | s,[]=>(false,s)
 | s,x :: xs=>if (step s x).1 then (true,(step s x).2) else qc9 step (step s x).2 xs
theorem qrz {σ α:Type} (c:σ->α->Bool×σ):∀(s:σ) (xs:List α),-1<=(qav c s xs).1
 | s,[]=>by simp[qav]
 | s,x :: xs=>by
  have:=qrz c (c s x).2 xs;rw[qav]
  split
  .simp
  simp only[];split <;> omega
theorem qje {σ α:Type} (c:σ->α->Bool×σ):∀(s:σ) (xs:List α),qc9 c s xs=(decide (0<=(qav c s xs).1),(qav c s xs).2)
 | s,[]=>by simp[qav,qc9]
 | s,x :: xs=>by
  have h:=qrz c (c s x).2 xs;rw[qav,qc9]
  split
  .simp
  rw[qje c _ xs];simp only[Prod.mk.injEq,and_true]
  split
  .simp
  simp;omega
theorem qjo {σ:Type} (r:Int×σ) (k:Nat) :
  ((if false=true then ((0:Int),r.2) else (r.1+(if r.1<0 then 0 else 1),r.2)).1+(if (if false=true then ((0:Int),r.2) else (r.1+(if r.1<0 then 0 else 1),r.2)).1<0 then 0 else (k:Int)),(if false=true then ((0:Int),r.2) else (r.1+(if r.1<0 then 0 else 1),r.2)).2) =
   (r.1+(if r.1<0 then 0 else ((k+1:Nat):Int)),r.2):=by
 simp only[Bool.false_eq_true,if_false,Prod.mk.injEq,and_true]
 split
 .rw [if_pos (by omega)];omega
 rw[if_neg (by omega)];omega
def qbd {α:Type} (p:α->Bool):List α->Int
 | []=>-1
 | x :: xs=>if p x then 0 else qbd p xs+(if qbd p xs<0 then 0 else 1)
theorem qjj {α:Type} (p:α->Bool) (xs:List α):(qav (λ(s:Unit) x=>(p x,s)) () xs).1=qbd p xs:=by
 induction xs with
 | nil=>rfl
 | cons x xs ih=>rw[qav,qbd];split <;> simp_all
theorem qkc {α:Type} (p:α->Bool) (xs:List α):(qc9 (λ(s:Unit) x=>(p x,s)) () xs).1=xs.any p:=by
 induction xs with
 | nil=>rfl
 | cons x xs ih=>rw[qc9,List.any_cons];cases h:p x <;> simp_all
def qa5 {α:Type} (cf:α->α->Int):List α->List α->Int
 | [],[]=>0
 | [],_ :: _=>-1
 | _ :: _,[]=>1
 | x :: xs,y :: ys=>if cf x y=0 then qa5 cf xs ys else cf x y
def leq {α:Type} (cf:α->α->Bool):List α->List α->Bool
 | [],[]=>true
 | [],_ :: _=>false
 | _ :: _,[]=>false
 | x :: xs,y :: ys=>cf x y && leq cf xs ys
theorem qkg {α:Type} (cf:α->α->Bool):∀(xs ys:List α),xs.length≠ys.length->leq cf xs ys=false
 | [],[],h=>absurd rfl h
 | [],_ :: _,_=>rfl
 | _ :: _,[],_=>rfl
 | x :: xs,y :: ys,h=>by rw[leq,qkg cf xs ys (by simpa using h),Bool.and_false]
end
section

section
variable {κ:Type} [DecidableEq κ]
structure KeyOk (P:Program) (kt:TypeId) (K:κ->Value):Prop where
 kind:∃d,P.underlying kt=some d/\(∀a b,Instr.sameNow d (K a) (K b)=some (decide (a=b)))/\(∀W b n a,(Instr.checkKey b (n+1) kt (K a)).run P W = .ok () W)
 bits:∀a,Instr.sameBits 10000 (K a) (K a)=true
def IsMap (K:κ->Value) (W:World) (m:Nat) (f:κ->Option Value):Prop :=
 ∃(es:Array MapEntry) (clock:Nat) (ks:List κ),W.heap[m]? = some (.map es clock)/\es.toList.map (·.key)=ks.map K/\ks.Nodup /\
  (∀i,(h:i<ks.length)->f ks[i]=(es.toList[i]?).map (·.val))/\(∀a,a∉ks->f a=none)
theorem IsMap.move {K:κ->Value} {W W':World} {m:Nat} {f:κ->Option Value} (h:IsMap K W m f) (E:W'.heap[m]? = W.heap[m]?):IsMap K W' m f:=by
 obtain⟨u,c,A,D,d⟩:=h;exact⟨u,c,A,E.trans D,d⟩
theorem IsMap.lt {K:κ->Value} {W:World} {m:Nat} {f:κ->Option Value} (h:IsMap K W m f):m<W.heap.size:=by
 obtain⟨u,c,A,d,_⟩:=h;exact(Array.getElem?_eq_some_iff.1 d).1
theorem IsMap.new (K:κ->Value) (W:World):IsMap K (W.alloc (.map #[] 0)) W.heap.size (λ_=>none) :=
 ⟨#[],0,[],Array.getElem?_push_size,rfl,List.nodup_nil,λi h=>absurd h (by simp),λ_ _=>rfl⟩
theorem qkv {d:TypeDesc} {K:κ->Value} (A:∀a b,Instr.sameNow d (K a) (K b)=some (decide (a=b))) (a:κ):∀(l:List MapEntry) (m:List κ) (i:Nat),l.map (·.key)=m.map K ->
  Instr.findNow d (K a) l i=some (if h:a∈m then (l[m.idxOf a]?).map (λe=>(i+m.idxOf a,e.val)) else none)
 | [],[],i,_=>by simp[Instr.findNow]
 | [],_ :: _,_,h=>by simp at h
 | _ :: _,[],_,h=>by simp at h
 | e :: l,k :: m,i,h=>by
  simp only[List.map_cons,List.cons.injEq]at h;rw[Instr.findNow,h.1,A a k]
  by_cases c:a=k
  .subst c
   simp
  simp only[c,decide_false];rw[qkv A a l m (i+1) h.2]
  by_cases u:a∈m
  .rw [dif_pos u,dif_pos (by simp[u]),List.idxOf_cons,show(k == a)=false from beq_eq_false_iff_ne.2 (Ne.symm c),cond_false];simp only[List.getElem?_cons_succ]
   congr 1
   congr 1
   funext e
   rw[show i+1+m.idxOf a=i+(m.idxOf a+1) from by omega]
  rw[dif_neg u,dif_neg (by simp[u,c])]
theorem IsMap.lookup {P:Program} {K:κ->Value} {W:World} {m:Nat} {f:κ->Option Value} (h:IsMap K W m f) {t G J:TypeId} (F:P.underlying t=some (.map G J)) (V:KeyOk P G K) {z:Value} (X:(zeroValue J).run P W = .ok z W) (a:κ) :
  (Instr.lookup t (.map (some m)) (K a) false).run P W = .ok ((f a).getD z) W:=by
 obtain⟨E,D,c,O,N,h3,Y,U⟩:=h;obtain⟨d,M,hs,L⟩:=V.kind;have hf:=qkv hs a E.toList c 0 N;have I:E.toList.length=c.length:=by have:=congrArg List.length N;simpa using this
 unfold Instr.lookup Instr.findKey
 by_cases A:a∈c
 .rw [dif_pos A]at hf;have hi:c.idxOf a<c.length:=List.idxOf_lt_length_of_mem A;have u:=Y _ hi;rw[List.getElem_idxOf]at u;rw[List.getElem?_eq_getElem (by omega)]at u hf;simp only[Option.map_some]at u hf;simp[run_underlying F,run_underlying M,getObj,Sem.run,O,L,hf,u]
 rw[dif_neg A]at hf;rw[U a A];simp[run_underlying F,run_underlying M,getObj,Sem.run,O,L,hf,X]
theorem IsMap.store {P:Program} {K:κ->Value} {W:World} {m:Nat} {f:κ->Option Value} (h:IsMap K W m f) {t Y et:TypeId} (X:P.underlying t=some (.map Y et)) (O:KeyOk P Y K) (a:κ) (v:Value) :
  ∃W',(Instr.mapUpdate t (.map (some m)) (K a) v).run P W = .ok () W'/\IsMap K W' m (λb=>if b=a then some v else f b)/\W.grownBy W' (some m):=by
 have U:=h.lt;obtain⟨E,u,c,h1,J,N,h4,V⟩:=h;obtain⟨d,hd,hs,hc⟩:=O.kind;have hf:=qkv hs a E.toList c 0 J;have aa:E.toList.length=c.length:=by have:=congrArg List.length J;simpa using this
 have D:∀o:Obj,({ W with heap:=W.heap.setIfInBounds m o }:World).heap[m]? = some o:=λo=>by simp[U]
 have I:∀o:Obj,W.grownBy { W with heap:=W.heap.setIfInBounds m o } (some m):=λo =>
  ⟨rfl,rfl,rfl,by simp,λk O L=>by
   have:m≠k:=λe=>L (by rw[e])
   simp[Array.getElem?_setIfInBounds,this]⟩
 by_cases G:a∈c
 .rw [dif_pos G]at hf;have hi:c.idxOf a<c.length:=List.idxOf_lt_length_of_mem G;rw[List.getElem?_eq_getElem (by omega)]at hf;simp only[Option.map_some,Nat.zero_add]at hf
  have A:(E.toList[c.idxOf a]'(by omega)).key=K a:=by
   have:=congrArg (·[c.idxOf a]?) J;simp only[List.getElem?_map]at this;rw[List.getElem?_eq_getElem (by omega),List.getElem?_eq_getElem hi]at this;simpa[List.getElem_idxOf]using this
  refine⟨{ W with heap:=W.heap.setIfInBounds m (.map (E.modify (c.idxOf a) λe=>{ e with key:=K a,val:=v }) u) },?_,⟨_,u,c,D _,?_,N,?_,?_⟩,I _⟩
  .unfold Instr.mapUpdate Instr.findKey
   have M:((E[c.idxOf a]?).map (·.key)).getD (K a)=K a:=by
    rw[<- Array.getElem?_toList,List.getElem?_eq_getElem (by omega)];simpa using A
   simp[run_underlying X,run_underlying hd,getObj,setObj,Sem.run,h1,hc,hf,Instr.keyThatStays,M,O.bits]
  .rw [Array.toList_modify,<- J]
   apply List.ext_getElem
   .simp
   intro i p q;simp only[List.getElem_map,List.getElem_modify]
   split
   .rename_i e;subst e;simpa using A.symm
   rfl
  .intro i p;show(if c[i]=a then some v else f c[i])=_;simp only[Array.toList_modify,List.getElem?_modify]
   by_cases e:c[i]=a
   .have:c.idxOf a=i:=by rw[<- e];exact List.Nodup.idxOf_getElem N i p
    rw[if_pos e,this,List.getElem?_eq_getElem (by omega)]
    simp
   have:c.idxOf a≠i:=λe'=>e (by subst e';exact List.getElem_idxOf hi)
   rw[if_neg e,h4 i p];simp[this]
  intro b F;show(if b=a then some v else f b)=none;rw[if_neg (λe:b=a=>F (e ▸ G)),V b F]
 rw[dif_neg G]at hf;refine⟨{ W with heap:=W.heap.setIfInBounds m (.map (E.push { key:=K a,val:=v,born:=u }) (u+1)) },?_,⟨_,u+1,c++[a],D _,?_,?_,?_,?_⟩,I _⟩
 .unfold Instr.mapUpdate Instr.findKey;simp[run_underlying X,run_underlying hd,getObj,setObj,Sem.run,h1,hc,hf]
 .simp [J]
 .rw [List.nodup_append];exact⟨N,by simp,by intro x hx y hy;simp at hy;subst hy;exact λe=>G (e ▸ hx)⟩
 .intro i p;rw[Array.toList_push];show(if (c++[a])[i]=a then some v else f (c++[a])[i])=_
  rcases Nat.lt_or_ge i c.length with h | h
  .have e1:(c++[a])[i]=c[i]:=List.getElem_append_left h;rw[e1,if_neg (λe:c[i]=a=>G (e ▸ List.getElem_mem h)),h4 i h,List.getElem?_append_left (by omega)]
  have e1:(c++[a])[i]=a:=by
   rw[List.getElem_append_right h];simp
  have e2:i=E.toList.length:=by simp at p;omega
  rw[e1,if_pos rfl,List.getElem?_append_right (by omega),e2]
  simp
 intro b F;simp at F;show(if b=a then some v else f b)=none;rw[if_neg F.2,V b F.1]
end
theorem qio:KeyOk Tryz.prog 3 (Value.int .i64):={
 kind:=⟨.int .i64,Tryz.underlying3,λa b=>by
  have:(a == b)=decide (a=b):=by rw[Bool.eq_iff_iff];simp
  simp[Instr.sameNow,this],λW b n a=>by simp[Instr.checkKey,run_underlying Tryz.underlying3]⟩
 bits a:=by simp[Instr.sameBits] }
theorem bytes_beq (a b:ByteArray):(a == b)=true↔a=b:=by
 cases a;cases b
 rename_i x y;show(x == y)=true↔_
 simp
theorem qmz:KeyOk Tryz.prog 9 Value.string:={
 kind:=⟨.string,Tryz.underlying9,λa b=>by
  have:(a == b)=decide (a=b):=by rw[Bool.eq_iff_iff,bytes_beq];simp
  simp[Instr.sameNow,this],λW b n a=>by simp[Instr.checkKey,run_underlying Tryz.underlying9]⟩
 bits a:=by simp[Instr.sameBits,bytes_beq] }
end
end Go.Proofs.YtegenalcheooeaaGreat
