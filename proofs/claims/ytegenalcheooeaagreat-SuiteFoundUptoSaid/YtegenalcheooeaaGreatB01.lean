/- Of the proof of a law of the suites: Base. -/
import Derived.Test.YtegenalcheooeaaGreatProg
import Derived.WalkKit
import Derived.Below
import Derived.BigQuiet
import Derived.Deep.QuietTactic
import Derived.Deep.LoopGhost
import Derived.Deep.DeepCutAuto
import Derived.Deep.RegionHeld3
import Derived.Maps.AppendAt
import Derived.Lib.Hide
import Derived.Shelf.Abstract
import Derived.Laws.EntriesVeiled
/- The data of the program,how they lie in memory,and what a call that only adds to memory leaves as it was. -/
set_option linter.unusedSectionVars false
set_option linter.unusedSimpArgs false
set_option linter.unusedVariables false
namespace Go.Proofs.YtegenalcheooeaaGreat
open Go.RowKit
inductive Tm where
  | mk (k n:Int) (l:List Tm)
def Tm.k:Tm->Int | .mk k _ _=>k
def Tm.n:Tm->Int | .mk _ n _=>n
def Tm.l:Tm->List Tm | .mk _ _ l=>l
structure Lb where
  g:Int
  v:List Tm
structure Ed where
  f:Int
  l:Int
  t:Int
structure Sy where
  n:Int
  ls:List Lb
  es:List Ed
structure Te where
  tr:List Lb
  mu:List Lb
structure Ar where
  f:Int
  l:Lb
  t:Int
structure Mu where
  k:Int
  e:Int
  t:Int
  l:Int
def I64 (n:Int):Prop:=-9223372036854775808<=n∧n<=9223372036854775807
structure Kp (S:Nat->Prop) (w w':World):Prop where
  size:w.heap.size<=w'.heap.size
  block:∀ k,k<w.heap.size->S k->w'.heap[k]? = w.heap[k]?
abbrev Ext (w w':World):Prop:=Below w.heap.size w w'
theorem Ext.kp {S:Nat->Prop} {w w':World} (h:Ext w w'):Kp S w w':=⟨h.size,fun k hk _=>h.block k hk⟩
theorem Kp.refl (S:Nat->Prop) (w:World):Kp S w w:=⟨Nat.le_refl _,fun _ _ _=>rfl⟩
theorem Kp.trans {S:Nat->Prop} {a b c:World} (h:Kp S a b) (k:Kp S b c):Kp S a c :=
  ⟨Nat.le_trans h.size k.size,fun i hi hs=>(k.block i (Nat.lt_of_lt_of_le hi h.size) hs).trans (h.block i hi hs)⟩
theorem Kp.mono {S S':Nat->Prop} {a b:World} (h:Kp S a b) (hs:∀ k,k<a.heap.size->S' k->S k):Kp S' a b:=⟨h.size,fun k hk h'=>h.block k hk (hs k hk h')⟩
theorem Kp.grown {a b:World} {row:Option Nat} (h:a.grownBy b row):Kp (fun k=>some k≠row) a b:=⟨h.size,fun k hk hs=>h.block k hk hs⟩
theorem Ext.trans' {a b c:World} (h:Ext a b) (k:Ext b c):Ext a c:=h.trans (k.mono h.size)
theorem Ext.refl (a:World):Ext a a:=Below.refl _ _
theorem Ext.alloc {a b:World} (h:Ext a b) (o:Obj):Ext a (b.alloc o):=Below.alloc h h.size o
theorem Ext.drewN {a b:World} (h:Ext a b) (n:Nat):Ext a (b.drewN n):=⟨h.os,h.tape,h.output,h.size,h.block⟩
theorem Ext.set {a b:World} (h:Ext a b) {p:Addr} (hp:a.heap.size<=p.block) (u:Value):Ext a (b.setCell p u):=Below.setCell h hp u
theorem Ext.cells {W w1:World} (hb:Ext W w1):(∀ b o,b<W.heap.size->w1.cell? ⟨b,o,none⟩=W.cell? ⟨b,o,none⟩)∧(∀ b o,b<W.heap.size->w1.frozen? ⟨b,o,none⟩=W.frozen? ⟨b,o,none⟩) :=
  ⟨fun b o h=>hb.cell (p:=⟨b,o,none⟩) h,fun b o h=>hb.frozen (p:=⟨b,o,none⟩) h⟩
structure Bt (Z:Nat->Prop) (w w':World):Prop where
  os:w'.os=w.os
  tape:w'.tape=w.tape
  output:w'.output=w.output
  size:w.heap.size<=w'.heap.size
  block:∀ k,k<w.heap.size->¬ Z k->w'.heap[k]? = w.heap[k]?
theorem Ext.bt {Z:Nat->Prop} {w w':World} (h:Ext w w'):Bt Z w w':=⟨h.os,h.tape,h.output,h.size,fun k hk _=>h.block k hk⟩
theorem Bt.refl (Z:Nat->Prop) (w:World):Bt Z w w:=⟨rfl,rfl,rfl,Nat.le_refl _,fun _ _ _=>rfl⟩
theorem Bt.trans {Z:Nat->Prop} {a b c:World} (h:Bt Z a b) (k:Bt Z b c):Bt Z a c :=
  ⟨k.os.trans h.os,k.tape.trans h.tape,k.output.trans h.output,Nat.le_trans h.size k.size,fun i hi hz=>(k.block i (Nat.lt_of_lt_of_le hi h.size) hz).trans (h.block i hi hz)⟩
theorem Bt.ext {Z:Nat->Prop} {a b c:World} (h:Bt Z a b) (k:Ext b c):Bt Z a c:=h.trans k.bt
theorem Bt.alloc {Z:Nat->Prop} {a b:World} (h:Bt Z a b) (o:Obj):Bt Z a (b.alloc o):=h.ext ((Ext.refl b).alloc o)
theorem Bt.drew {Z:Nat->Prop} {a b:World} (h:Bt Z a b):Bt Z a b.drew:=h.ext (Ext.refl b).drew
theorem Bt.drewN {Z:Nat->Prop} {a b:World} (h:Bt Z a b) (n:Nat):Bt Z a (b.drewN n):=h.ext ((Ext.refl b).drewN n)
theorem Bt.set {Z:Nat->Prop} {a b:World} (h:Bt Z a b) {p:Addr} (hp:a.heap.size<=p.block∨Z p.block) (u:Value):Bt Z a (b.setCell p u) :=
  ⟨h.os,h.tape,h.output,Nat.le_trans h.size (by simp [World.setCell]),fun k hk hz=>(Below.heap_setCell b p u k (by rintro rfl;rcases hp with hp | hp;exact absurd hk (by omega);exact hz hp)).trans (h.block k hk hz)⟩
theorem Bt.mono {Z Z':Nat->Prop} {a b:World} (h:Bt Z a b) (hz:∀ k,k<a.heap.size->Z k->Z' k):Bt Z' a b:=⟨h.os,h.tape,h.output,h.size,fun k hk hn=>h.block k hk (fun hk'=>hn (hz k hk hk'))⟩
theorem Bt.kp {Z S:Nat->Prop} {a b:World} (h:Bt Z a b) (hs:∀ k,k<a.heap.size->S k->¬ Z k):Kp S a b:=⟨h.size,fun k hk hs'=>h.block k hk (hs k hk hs')⟩
theorem Bt.of_grown {a b:World} {row:Option Nat} (h:a.grownBy b row):Bt (fun k=>some k=row) a b:=⟨h.os,h.tape,h.output,h.size,fun k hk hn=>h.block k hk hn⟩
theorem Bt.new {Z:Nat->Prop} {a b c:World} (h:Ext a b) (k:Bt Z b c) (hz:∀ i,i<b.heap.size->Z i->a.heap.size<=i):Ext a c :=
  ⟨k.os.trans h.os,k.tape.trans h.tape,k.output.trans h.output,Nat.le_trans h.size k.size,fun i hi=>(k.block i (Nat.lt_of_lt_of_le hi h.size) (fun hzi=>absurd (hz i (Nat.lt_of_lt_of_le hi h.size) hzi) (by omega))).trans (h.block i hi)⟩
theorem Bt.cell {Z:Nat->Prop} {a b:World} (h:Bt Z a b) {p:Addr} {v:Value} (hc:a.cell? p=some v) (hz:¬ Z p.block):b.cell? p=some v :=
  (World.cell?_of_block (h.block p.block (World.block_lt_of_cell? a p hc) hz)).trans hc
structure qad (w w':World):Prop where
  ext:Ext w w'
  drawn:w.drawn<=w'.drawn
theorem qad.refl (w:World):qad w w:=⟨Ext.refl w,Nat.le_refl _⟩
theorem qad.trans {a b c:World} (h:qad a b) (k:qad b c):qad a c:=⟨h.ext.trans' k.ext,Nat.le_trans h.drawn k.drawn⟩
theorem qad.alloc {a b:World} (h:qad a b) (o:Obj):qad a (b.alloc o):=⟨h.ext.alloc o,h.drawn⟩
theorem qad.drew {a b:World} (h:qad a b):qad a b.drew:=⟨h.ext.drew,Nat.le_succ_of_le h.drawn⟩
theorem qad.drewN {a b:World} (h:qad a b) (n:Nat):qad a (b.drewN n):=⟨h.ext.drewN n,Nat.le_trans h.drawn (Nat.le_add_right _ _)⟩
theorem qad.keep {W W1:World} (he:qad W W1) {a:Addr} {v:Value} (h:W.cell? a=some v):W1.cell? a=some v:=(he.ext.cell (World.block_lt_of_cell? W a h)).trans h
theorem qad.k3 {W W1:World} (he:qad W W1) {a0 a1 a2:Addr} {v0 v1 v2:Value}:W.cell? a0=some v0∧W.cell? a1=some v1∧W.cell? a2=some v2->W1.cell? a0=some v0∧W1.cell? a1=some v1∧W1.cell? a2=some v2:=And.imp he.keep (And.imp he.keep he.keep)
theorem qad.k4 {W W1:World} (he:qad W W1) {a0 a1 a2 a3:Addr} {v0 v1 v2 v3:Value}:W.cell? a0=some v0∧W.cell? a1=some v1∧W.cell? a2=some v2∧W.cell? a3=some v3->W1.cell? a0=some v0∧W1.cell? a1=some v1∧W1.cell? a2=some v2∧W1.cell? a3=some v3:=And.imp he.keep (And.imp he.keep (And.imp he.keep he.keep))
theorem qad.k5 {W W1:World} (he:qad W W1) {a0 a1 a2 a3 a4:Addr} {v0 v1 v2 v3 v4:Value}:W.cell? a0=some v0∧W.cell? a1=some v1∧W.cell? a2=some v2∧W.cell? a3=some v3∧W.cell? a4=some v4->W1.cell? a0=some v0∧W1.cell? a1=some v1∧W1.cell? a2=some v2∧W1.cell? a3=some v3∧W1.cell? a4=some v4:=And.imp he.keep (And.imp he.keep (And.imp he.keep (And.imp he.keep he.keep)))
theorem qad.k6 {W W1:World} (he:qad W W1) {a0 a1 a2 a3 a4 a5:Addr} {v0 v1 v2 v3 v4 v5:Value}:W.cell? a0=some v0∧W.cell? a1=some v1∧W.cell? a2=some v2∧W.cell? a3=some v3∧W.cell? a4=some v4∧W.cell? a5=some v5->W1.cell? a0=some v0∧W1.cell? a1=some v1∧W1.cell? a2=some v2∧W1.cell? a3=some v3∧W1.cell? a4=some v4∧W1.cell? a5=some v5:=And.imp he.keep (And.imp he.keep (And.imp he.keep (And.imp he.keep (And.imp he.keep he.keep))))
theorem qad.k7 {W W1:World} (he:qad W W1) {a0 a1 a2 a3 a4 a5 a6:Addr} {v0 v1 v2 v3 v4 v5 v6:Value}:W.cell? a0=some v0∧W.cell? a1=some v1∧W.cell? a2=some v2∧W.cell? a3=some v3∧W.cell? a4=some v4∧W.cell? a5=some v5∧W.cell? a6=some v6->W1.cell? a0=some v0∧W1.cell? a1=some v1∧W1.cell? a2=some v2∧W1.cell? a3=some v3∧W1.cell? a4=some v4∧W1.cell? a5=some v5∧W1.cell? a6=some v6:=And.imp he.keep (And.imp he.keep (And.imp he.keep (And.imp he.keep (And.imp he.keep (And.imp he.keep he.keep)))))
theorem qad.k8 {W W1:World} (he:qad W W1) {a0 a1 a2 a3 a4 a5 a6 a7:Addr} {v0 v1 v2 v3 v4 v5 v6 v7:Value}:W.cell? a0=some v0∧W.cell? a1=some v1∧W.cell? a2=some v2∧W.cell? a3=some v3∧W.cell? a4=some v4∧W.cell? a5=some v5∧W.cell? a6=some v6∧W.cell? a7=some v7->W1.cell? a0=some v0∧W1.cell? a1=some v1∧W1.cell? a2=some v2∧W1.cell? a3=some v3∧W1.cell? a4=some v4∧W1.cell? a5=some v5∧W1.cell? a6=some v6∧W1.cell? a7=some v7:=And.imp he.keep (And.imp he.keep (And.imp he.keep (And.imp he.keep (And.imp he.keep (And.imp he.keep (And.imp he.keep he.keep))))))
theorem Ext.keep {W W1:World} (he:Ext W W1) {a:Addr} {v:Value} (h:W.cell? a=some v):W1.cell? a=some v:=(he.cell (World.block_lt_of_cell? W a h)).trans h
theorem Ext.k2 {W W1:World} (he:Ext W W1) {a0 a1:Addr} {v0 v1:Value}:W.cell? a0=some v0∧W.cell? a1=some v1->W1.cell? a0=some v0∧W1.cell? a1=some v1:=And.imp (Ext.keep he) (Ext.keep he)
theorem Ext.k3 {W W1:World} (he:Ext W W1) {a0 a1 a2:Addr} {v0 v1 v2:Value}:W.cell? a0=some v0∧W.cell? a1=some v1∧W.cell? a2=some v2->W1.cell? a0=some v0∧W1.cell? a1=some v1∧W1.cell? a2=some v2:=And.imp (Ext.keep he) (And.imp (Ext.keep he) (Ext.keep he))
theorem Ext.k4 {W W1:World} (he:Ext W W1) {a0 a1 a2 a3:Addr} {v0 v1 v2 v3:Value}:W.cell? a0=some v0∧W.cell? a1=some v1∧W.cell? a2=some v2∧W.cell? a3=some v3->W1.cell? a0=some v0∧W1.cell? a1=some v1∧W1.cell? a2=some v2∧W1.cell? a3=some v3:=And.imp (Ext.keep he) (And.imp (Ext.keep he) (And.imp (Ext.keep he) (Ext.keep he)))
theorem Ext.k5 {W W1:World} (he:Ext W W1) {a0 a1 a2 a3 a4:Addr} {v0 v1 v2 v3 v4:Value}:W.cell? a0=some v0∧W.cell? a1=some v1∧W.cell? a2=some v2∧W.cell? a3=some v3∧W.cell? a4=some v4->W1.cell? a0=some v0∧W1.cell? a1=some v1∧W1.cell? a2=some v2∧W1.cell? a3=some v3∧W1.cell? a4=some v4:=And.imp (Ext.keep he) (And.imp (Ext.keep he) (And.imp (Ext.keep he) (And.imp (Ext.keep he) (Ext.keep he))))
theorem Ext.k6 {W W1:World} (he:Ext W W1) {a0 a1 a2 a3 a4 a5:Addr} {v0 v1 v2 v3 v4 v5:Value}:W.cell? a0=some v0∧W.cell? a1=some v1∧W.cell? a2=some v2∧W.cell? a3=some v3∧W.cell? a4=some v4∧W.cell? a5=some v5->W1.cell? a0=some v0∧W1.cell? a1=some v1∧W1.cell? a2=some v2∧W1.cell? a3=some v3∧W1.cell? a4=some v4∧W1.cell? a5=some v5:=And.imp (Ext.keep he) (And.imp (Ext.keep he) (And.imp (Ext.keep he) (And.imp (Ext.keep he) (And.imp (Ext.keep he) (Ext.keep he)))))
theorem bel {a b:World} (h:Ext a b:=by repeat (first | exact Ext.refl _ | apply Ext.alloc | apply Below.drew | apply Ext.drewN | refine Ext.trans' ?_ (by assumption) | refine Ext.trans' ?_ (qad.ext (by assumption)))):Ext a b:=h
theorem qaj {a b:World} (h:qad a b:=by repeat (first | exact qad.refl _ | apply qad.alloc | apply qad.drew | apply qad.drewN | refine qad.trans ?_ (by assumption))):qad a b:=h
theorem btt {Z:Nat->Prop} {a b:World} (h:Bt Z a b:=by repeat (first | exact Bt.refl _ _ | assumption | apply Bt.alloc | apply Bt.drew | apply Bt.drewN | refine Bt.set ?_ (by first | (right;rfl) | (left;simp;omega) | (right;simp;omega)) _ | refine Bt.ext ?_ (by assumption) | refine Bt.trans ?_ (by assumption))):Bt Z a b:=h
noncomputable def qak (w x:World):World:=@ite _ (Ext w x) (Classical.propDecidable _) x w
theorem qa5 (w x:World):Ext w (qak w x):=by
  unfold qak
  split
  · assumption
  · exact Ext.refl _
theorem qlg {w x:World} (h:Ext w x):qak w x=x:=if_pos h
theorem cell?_exto (w x:World) (a:Addr) (h:(w.cell? a).isSome=true):(qak w x).cell? a=w.cell? a:=by
  obtain ⟨v,hv⟩:=Option.isSome_iff_exists.1 h
  rw [hv,Ext.keep (qa5 w x) hv]
theorem qbe {P:Program} {f:FuncId} {args:Array Value} {w x:World} {v:Value}
    (h:Calls P f args (qak w x) fun e w'=>e = .returned v∧Ext (qak w x) w'):Calls P f args (qak w x) fun e w''=>e = .returned v∧∃ y,w''=qak w y :=
  h.mono fun _ w' ⟨he,hm⟩=>⟨he,w',(qlg ((qa5 w x).trans' hm)).symm⟩
theorem qap {P:Program} {f:FuncId} {args:Array Value} {w x:World} {v:Value}
    (h:Calls P f args (qak w x) fun e w'=>e = .returned v∧qad (qak w x) w'):Calls P f args (qak w x) fun e w''=>e = .returned v∧∃ y,w''=qak w y :=
  qbe (h.mono fun _ w' ⟨he,hm⟩=>⟨he,hm.ext⟩)
theorem qb7 {P:Program} {f:FuncId} {args:Array Value} {w x:World} {v:Value}
    (h:Calls P f args (qak w x) fun e w'=>e = .returned v∧w'=qak w x):Calls P f args (qak w x) fun e w''=>e = .returned v∧∃ y,w''=qak w y :=
  h.mono fun _ w' ⟨he,hm⟩=>⟨he,x,hm⟩
theorem qu8 {P:Program} {id:Nat} {Q:Exit->Act->World->Prop} {a:Act} {w:World} {l:List Oper} (hm:P.follows .mixedOrders=true) (hB:Region.lexB .any l.toArray=true)
    (h:wpQuiet P l.toArray (fun w'=>∃ x,w'=qak w x) (fun a'=>∀ w',Ext w w'->Q .normal a' w') l a):(Code.region id l.toArray true).wp P Q a w:=by
  refine wp_region_quiet (C:=fun w'=>∃ x,w'=qak w x) hm hB ⟨_,(qlg (Ext.refl w).drew).symm⟩ ?_
  have hq:(fun a'=>∀ w',(∃ x,w'=qak w x)->Q .normal a' w')=(fun a'=>∀ w',Ext w w'->Q .normal a' w'):=by
    funext a'
    exact propext ⟨fun h w' hw=>h w' ⟨w',(qlg hw).symm⟩,fun h w' ⟨x,hx⟩=>h w' (hx ▸ qa5 w x)⟩
  rw [hq]
  simpa using h
theorem qa1 {P:Program} {id:Nat} {Q:Exit->Act->World->Prop} {a:Act} {w:World} {l:List Oper}
    (h:wpQuiet P l.toArray (fun w'=>∃ x,w'=qak w x) (fun a'=>∀ w',Ext w w'->Q .normal a' w') l a) (hm:P.follows .mixedOrders=true:=by kernel_rfl) (hB:Region.lexB .any l.toArray=true:=by kernel_rfl):(Code.region id l.toArray true).wp P Q a w:=qu8 hm hB h
abbrev Rdr (α:Type):=(Nat->Prop)->World->α->List Value->Prop
def qec (w:World) (b off:Nat) (cs:List Value):Prop:=∀ i v,cs[i]? = some v->w.cell? ⟨b,off+i,none⟩=some v
structure Good {α:Type} (R:Rdr α) (k:Nat):Prop where
  len:∀ {S w x cs},R S w x cs->cs.length=k
  one:∀ {S w x cs},R S w x cs->∀ u∈cs,u.oneCell'=true
  move:∀ {S w w' x cs},R S w x cs->Kp S w w'->R S w' x cs
  mono:∀ {S S' w x cs},R S w x cs->(∀ b,b<w.heap.size->S b->S' b)->R S' w x cs
theorem qec.move {w w':World} {b off:Nat} {cs:List Value} (h:qec w b off cs) (hb:w'.heap[b]? = w.heap[b]?):qec w' b off cs :=
  fun i v hi=>(World.cell?_of_block (a:=⟨b,off+i,none⟩) hb).trans (h i v hi)
def qcn {α:Type} (R:Rdr α) (k:Nat) (S:Nat->Prop) (w:World) (b:Nat):Nat->List α->Prop
  | _,[]=>True
  | off,x :: xs=>(∃ cs,cs.length=k∧R S w x cs∧qec w b off cs)∧qcn R k S w b (off+k) xs
theorem qcn.get {α:Type} {R:Rdr α} {k:Nat} {S:Nat->Prop} {w:World} {b:Nat}:∀ {off:Nat} {xs:List α},qcn R k S w b off xs->∀ i,(h:i<xs.length) ->
    ∃ cs,cs.length=k∧R S w xs[i] cs∧qec w b (off+i*k) cs
  | off,x :: xs,h,0,_=>by simpa using h.1
  | off,x :: xs,h,i+1,hi=>by
    obtain ⟨cs,h1,h2,h3⟩:=qcn.get h.2 i (by simpa using hi)
    refine ⟨cs,h1,by simpa using h2,?_⟩
    rwa [show off+(i+1)*k=off+k+i*k from by rw [Nat.add_mul];omega]
theorem qcn.of_get {α:Type} {R:Rdr α} {k:Nat} {S:Nat->Prop} {w:World} {b:Nat}:∀ {off:Nat} {xs:List α},
    (∀ i,(h:i<xs.length)->∃ cs,cs.length=k∧R S w xs[i] cs∧qec w b (off+i*k) cs)->qcn R k S w b off xs
  | _,[],_=>trivial
  | off,x :: xs,h=>by
    refine ⟨by obtain ⟨cs,h1,h2,h3⟩:=h 0 (by simp);exact ⟨cs,h1,h2,by simpa using h3⟩,qcn.of_get fun i hi=>?_⟩
    obtain ⟨cs,h1,h2,h3⟩:=h (i+1) (by simpa using hi)
    refine ⟨cs,h1,by simpa using h2,?_⟩
    rwa [show off+k+i*k=off+(i+1)*k from by rw [Nat.add_mul];omega]
theorem qcn.imp {α:Type} {R:Rdr α} {k:Nat} {S S':Nat->Prop} {w w':World} {b off:Nat} {xs:List α} (h:qcn R k S w b off xs)
    (hR:∀ x∈xs,∀ cs,R S w x cs->R S' w' x cs) (hb:w'.heap[b]? = w.heap[b]?):qcn R k S' w' b off xs :=
  qcn.of_get fun i hi=>by
    obtain ⟨cs,h1,h2,h3⟩:=h.get i hi
    exact ⟨cs,h1,hR _ (List.getElem_mem hi) _ h2,h3.move hb⟩
def RSl {α:Type} (R:Rdr α) (k:Nat):Rdr (List α):=fun S w xs cs =>
  ∃ A c,cs=[.slice A xs.length c]∧xs.length<=c∧c<=9223372036854775807∧(xs=[]∨∃ b off,A=some ⟨b,off,none⟩∧b<w.heap.size∧S b∧qcn R k S w b off xs)
theorem RSl.good {α:Type} {R:Rdr α} {k:Nat} (hR:Good R k):Good (RSl R k) 1:={
  len:=by rintro S w x cs ⟨A,c,rfl,_⟩;rfl
  one:=by rintro S w x cs ⟨A,c,rfl,_⟩ u hu;simp at hu;subst hu;rfl
  move:=by
    rintro S w w' x cs ⟨A,c,rfl,h1,h0,h2⟩ hk
    refine ⟨A,c,rfl,h1,h0,h2.imp id ?_⟩
    rintro ⟨b,off,rfl,hb,hs,hr⟩
    exact ⟨b,off,rfl,Nat.lt_of_lt_of_le hb hk.size,hs,hr.imp (fun x _ cs h=>hR.move h hk) (hk.block b hb hs)⟩
  mono:=by
    rintro S S' w x cs ⟨A,c,rfl,h1,h0,h2⟩ hs
    refine ⟨A,c,rfl,h1,h0,h2.imp id ?_⟩
    rintro ⟨b,off,rfl,hb,hs',hr⟩
    exact ⟨b,off,rfl,hb,hs b hb hs',hr.imp (fun x _ cs h=>hR.mono h hs) rfl⟩ }
def qac:Rdr Int:=fun _ _ n cs=>cs=[.int .i64 n]∧I64 n
theorem qac.good:Good qac 1:={
  len:=by rintro S w x cs ⟨rfl,_⟩;rfl
  one:=by rintro S w x cs ⟨rfl,_⟩ u hu;simp at hu;subst hu;rfl
  move:=fun h _=>h
  mono:=fun h _=>h }
def qae:Rdr Bool:=fun _ _ n cs=>cs=[.bool n]
theorem qae.good:Good qae 1:={
  len:=by rintro S w x cs rfl;rfl
  one:=by rintro S w x cs rfl u hu;simp at hu;subst hu;rfl
  move:=fun h _=>h
  mono:=fun h _=>h }
theorem Good.ext {α:Type} {R:Rdr α} {k:Nat} (hR:Good R k) {S:Nat->Prop} {w w':World} {x:α} {cs:List Value} (h:R S w x cs) (he:qad w w'):R S w' x cs:=hR.move h (Ext.kp he.ext)
theorem Good.bel {α:Type} {R:Rdr α} {k:Nat} (hR:Good R k) {S:Nat->Prop} {w w':World} {x:α} {cs:List Value} (h:R S w x cs) (he:Ext w w'):R S w' x cs:=hR.move h (Ext.kp he)
mutual
def rTm (S:Nat->Prop) (w:World):Tm->List Value->Prop
  | .mk k n l,cs=>I64 k∧I64 n∧∃ A c,cs=[.int .i64 k,.int .i64 n,.slice A l.length c]∧l.length<=c∧c<=9223372036854775807 ∧
      (l=[]∨∃ b off,A=some ⟨b,off,none⟩∧b<w.heap.size∧S b∧rTms S w b off l)
def rTms (S:Nat->Prop) (w:World) (b:Nat):Nat->List Tm->Prop
  | _,[]=>True
  | off,t :: ts=>(∃ cs,cs.length=3∧rTm S w t cs∧qec w b off cs)∧rTms S w b (off+3) ts
end
def RTm:Rdr Tm:=rTm
theorem qm5 (S:Nat->Prop) (w:World) (b:Nat):∀ (off:Nat) (l:List Tm),rTms S w b off l↔qcn RTm 3 S w b off l
  | _,[]=>by simp [rTms,qcn]
  | off,t :: ts=>by
    rw [rTms,qcn,qm5 S w b (off+3) ts]
    rfl
theorem qaz (S:Nat->Prop) (w:World) (t:Tm) (cs:List Value):RTm S w t cs↔(I64 t.k∧I64 t.n∧∃ v,cs=[.int .i64 t.k,.int .i64 t.n,v]∧RSl RTm 3 S w t.l [v]):=by
  cases t with
  | mk k n l =>
    show rTm S w (.mk k n l) cs↔_
    rw [rTm]
    constructor
    · rintro ⟨h1,h2,A,c,rfl,h3,h0,h4⟩
      exact ⟨h1,h2,_,rfl,A,c,rfl,h3,h0,h4.imp id fun ⟨b,off,e,hb,hs,hr⟩=>⟨b,off,e,hb,hs,(qm5 S w b off l).1 hr⟩⟩
    · rintro ⟨h1,h2,v,rfl,A,c,hv,h3,h0,h4⟩
      injection hv with hv
      subst hv
      exact ⟨h1,h2,A,c,rfl,h3,h0,h4.imp id fun ⟨b,off,e,hb,hs,hr⟩=>⟨b,off,e,hb,hs,(qm5 S w b off l).2 hr⟩⟩
theorem RTm.len {S w t cs} (h:RTm S w t cs):cs.length=3:=by
  obtain ⟨_,_,v,rfl,_⟩:=(qaz ..).1 h
  rfl
mutual
def Tm.size:Tm->Nat
  | .mk _ _ l=>Tm.sizes l+1
def Tm.sizes:List Tm->Nat
  | []=>0
  | t :: ts=>t.size+Tm.sizes ts
end
theorem Tm.size_mem {t:Tm}:∀ {l:List Tm},t∈l->t.size<=Tm.sizes l
  | x :: l,h=>by
    rw [Tm.sizes]
    rcases List.mem_cons.1 h with rfl | h
    · omega
    · have:=Tm.size_mem h;omega
theorem Tm.size_l {t s:Tm} (h:s∈t.l):s.size<t.size:=by
  cases t with
  | mk k n l=>have:=Tm.size_mem (l:=l) h;rw [Tm.size];omega
theorem Tm.ind {p:Tm->Prop} (h:∀ t,(∀ s∈t.l,p s)->p t):∀ t,p t:=by
  have:∀ n t,t.size<=n->p t:=by
    intro n
    induction n with
    | zero=>intro t ht;cases t;simp [Tm.size] at ht
    | succ n ih=>exact fun t ht=>h t fun s hs=>ih s (by have:=Tm.size_l hs;omega)
  exact fun t=>this _ t (Nat.le_refl _)
theorem RTm.move_mono:∀ (t:Tm),(∀ {S w w' cs},RTm S w t cs->Kp S w w'->RTm S w' t cs)∧(∀ {S S':Nat->Prop} {w cs},RTm S w t cs->(∀ b,b<w.heap.size->S b->S' b)->RTm S' w t cs):=by
  refine Tm.ind fun t ih=>⟨fun {S w w' cs} h hk=>?_,fun {S S' w cs} h hs=>?_⟩
  · obtain ⟨h1,h2,v,rfl,A,c,hv,h3,h0,h4⟩:=(qaz ..).1 h
    refine (qaz ..).2 ⟨h1,h2,v,rfl,A,c,hv,h3,h0,h4.imp id ?_⟩
    rintro ⟨b,off,rfl,hb,hs,hr⟩
    exact ⟨b,off,rfl,Nat.lt_of_lt_of_le hb hk.size,hs,hr.imp (fun x hx cs h=>(ih x hx).1 h hk) (hk.block b hb hs)⟩
  · obtain ⟨h1,h2,v,rfl,A,c,hv,h3,h0,h4⟩:=(qaz ..).1 h
    refine (qaz ..).2 ⟨h1,h2,v,rfl,A,c,hv,h3,h0,h4.imp id ?_⟩
    rintro ⟨b,off,rfl,hb,hs',hr⟩
    exact ⟨b,off,rfl,hb,hs b hb hs',hr.imp (fun x hx cs h=>(ih x hx).2 h hs) rfl⟩
theorem RTm.good:Good RTm 3:={
  len:=RTm.len
  one:=by
    rintro S w t cs h u hu
    obtain ⟨_,_,v,rfl,A,c,hv,_⟩:=(qaz ..).1 h
    injection hv with hv
    subst hv
    simp at hu
    rcases hu with rfl | rfl | rfl <;> rfl
  move:=fun h hk=>(RTm.move_mono _).1 h hk
  mono:=fun h hs=>(RTm.move_mono _).2 h hs }
abbrev qam:Rdr (List Tm):=RSl RTm 3
theorem qam.good:Good qam 1:=RSl.good RTm.good
def RLb:Rdr Lb:=fun S w x cs=>I64 x.g∧∃ v,cs=[.int .i64 x.g,v]∧qam S w x.v [v]
theorem RLb.good:Good RLb 2:={
  len:=by rintro S w x cs ⟨_,v,rfl,_⟩;rfl
  one:=by
    rintro S w t cs ⟨_,v,rfl,A,c,hv,_⟩ u hu
    injection hv with hv
    subst hv
    simp at hu
    rcases hu with rfl | rfl <;> rfl
  move:=by rintro S w w' x cs ⟨h,v,rfl,hv⟩ hk;exact ⟨h,v,rfl,(RSl.good RTm.good).move hv hk⟩
  mono:=by rintro S S' w x cs ⟨h,v,rfl,hv⟩ hs;exact ⟨h,v,rfl,(RSl.good RTm.good).mono hv hs⟩ }
abbrev qaa:Rdr (List Lb):=RSl RLb 2
theorem qaa.good:Good qaa 1:=RSl.good RLb.good
def REd:Rdr Ed:=fun _ _ x cs=>I64 x.f∧I64 x.l∧I64 x.t∧cs=[.int .i64 x.f,.int .i64 x.l,.int .i64 x.t]
theorem REd.good:Good REd 3:={
  len:=by rintro S w x cs ⟨_,_,_,rfl⟩;rfl
  one:=by
    rintro S w t cs ⟨_,_,_,rfl⟩ u hu
    simp at hu
    rcases hu with rfl | rfl | rfl <;> rfl
  move:=fun h _=>h
  mono:=fun h _=>h }
abbrev qb5:Rdr (List Ed):=RSl REd 3
theorem qb5.good:Good qb5 1:=RSl.good REd.good
def RSy:Rdr Sy:=fun S w x cs=>I64 x.n∧∃ v u,cs=[.int .i64 x.n,v,u]∧qaa S w x.ls [v]∧qb5 S w x.es [u]
def RTe:Rdr Te:=fun S w x cs=>∃ v u,cs=[v,u]∧qaa S w x.tr [v]∧qaa S w x.mu [u]
theorem RSl.oneCell {α:Type} {R:Rdr α} {k:Nat} {S w} {x:List α} {v:Value} (h:RSl R k S w x [v]):v.oneCell'=true:=by
  obtain ⟨A,c,hv,_⟩:=h
  injection hv with hv
  subst hv
  rfl
theorem RSy.good:Good RSy 3:={
  len:=by rintro S w x cs ⟨_,v,u,rfl,_⟩;rfl
  one:=by
    rintro S w t cs ⟨_,v,u,rfl,hv,hu⟩ y hy
    simp at hy
    rcases hy with rfl | rfl | rfl
    · rfl
    · exact hv.oneCell
    · exact hu.oneCell
  move:=by rintro S w w' x cs ⟨h,v,u,rfl,hv,hu⟩ hk;exact ⟨h,v,u,rfl,qaa.good.move hv hk,qb5.good.move hu hk⟩
  mono:=by rintro S S' w x cs ⟨h,v,u,rfl,hv,hu⟩ hs;exact ⟨h,v,u,rfl,qaa.good.mono hv hs,qb5.good.mono hu hs⟩ }
theorem RTe.good:Good RTe 2 where
  len:=by rintro S w x cs ⟨v,u,rfl,_⟩;rfl
  one:=by
    rintro S w t cs ⟨v,u,rfl,hv,hu⟩ y hy
    simp at hy
    rcases hy with rfl | rfl
    · exact hv.oneCell
    · exact hu.oneCell
  move:=by rintro S w w' x cs ⟨v,u,rfl,hv,hu⟩ hk;exact ⟨v,u,rfl,qaa.good.move hv hk,qaa.good.move hu hk⟩
  mono:=by rintro S S' w x cs ⟨v,u,rfl,hv,hu⟩ hs;exact ⟨v,u,rfl,qaa.good.mono hv hs,qaa.good.mono hu hs⟩
def RAr:Rdr Ar:=fun S w x cs=>I64 x.f∧I64 x.t∧∃ v,cs=[.int .i64 x.f,.int .i64 x.l.g,v,.int .i64 x.t]∧I64 x.l.g∧qam S w x.l.v [v]
theorem RAr.good:Good RAr 4:={
  len:=by rintro S w x cs ⟨_,_,v,rfl,_⟩;rfl
  one:=by
    rintro S w t cs ⟨_,_,v,rfl,_,hv⟩ y hy
    simp at hy
    rcases hy with rfl | rfl | rfl | rfl
    · rfl
    · rfl
    · exact hv.oneCell
    · rfl
  move:=by rintro S w w' x cs ⟨h,h',v,rfl,hg,hv⟩ hk;exact ⟨h,h',v,rfl,hg,(RSl.good RTm.good).move hv hk⟩
  mono:=by rintro S S' w x cs ⟨h,h',v,rfl,hg,hv⟩ hs;exact ⟨h,h',v,rfl,hg,(RSl.good RTm.good).mono hv hs⟩ }
def RMu:Rdr Mu:=fun _ _ x cs=>I64 x.k∧I64 x.e∧I64 x.t∧I64 x.l∧cs=[.int .i64 x.k,.int .i64 x.e,.int .i64 x.t,.int .i64 x.l]
theorem RMu.good:Good RMu 4:={
  len:=by rintro S w x cs ⟨_,_,_,_,rfl⟩;rfl
  one:=by
    rintro S w t cs ⟨_,_,_,_,rfl⟩ u hu
    simp at hu
    rcases hu with rfl | rfl | rfl | rfl <;> rfl
  move:=fun h _=>h
  mono:=fun h _=>h }
theorem RSl.at {α:Type} {R:Rdr α} {k:Nat} {S:Nat->Prop} {w:World} {xs:List α} {v:Value} (h:RSl R k S w xs [v]) (i:Nat) (hi:i<xs.length) :
    ∃ b off c cs,v = .slice (some ⟨b,off,none⟩) xs.length c∧b<w.heap.size∧S b∧cs.length=k∧R S w xs[i] cs∧qec w b (off+i*k) cs:=by
  obtain ⟨A,c,hv,h1,h0,h2⟩:=h
  injection hv with hv
  subst hv
  rcases h2 with rfl | ⟨b,off,rfl,hb,hs,hr⟩
  · simp at hi
  · obtain ⟨cs,h3,h4,h5⟩:=hr.get i hi
    exact ⟨b,off,c,cs,rfl,hb,hs,h3,h4,h5⟩
theorem RSl.get {α:Type} {R:Rdr α} {k:Nat} {S:Nat->Prop} {w:World} {xs:List α} {A:Option Addr} {n c:Nat} (h:RSl R k S w xs [.slice A n c]) (i:Nat) (hi:i<xs.length) :
    ∃ b off cs,A=some ⟨b,off,none⟩∧b<w.heap.size∧S b∧cs.length=k∧R S w xs[i] cs∧qec w b (off+i*k) cs:=by
  obtain ⟨b,off,c',cs,hv,h1,h2,h3,h4,h5⟩:=h.at i hi
  injection hv with hv
  exact ⟨b,off,cs,hv,h1,h2,h3,h4,h5⟩
theorem RSl.val {α:Type} {R:Rdr α} {k:Nat} {S:Nat->Prop} {w:World} {xs:List α} {v:Value} (h:RSl R k S w xs [v]):∃ A c,v = .slice A xs.length c∧xs.length<=c∧c<=9223372036854775807:=by
  obtain ⟨A,c,hv,h1,h0,h2⟩:=h
  injection hv with hv
  exact ⟨A,c,hv,h1,h0⟩
theorem qec.get {w:World} {b off:Nat} {cs:List Value} (h:qec w b off cs) (i:Nat) (v:Value) (hi:cs[i]? = some v:=by rfl):w.cell? ⟨b,off+i,none⟩=some v:=h i v hi
theorem tk {P:Program} {md:Region.Mode} {ops:Array Oper} {Q:Exit->Act->World->Prop} {S:World->Prop} (i:Nat) {oi:Oper} {v:Value} {fuel:Nat} {listed:Array Bool} {a:Act} {w:World}
    (h:wpAnyH P md ops Q S fuel (listed.setIfInBounds i true) (a.put oi.dst v) w) (hi:ops[i]? = some oi:=by exact rfl) (hs:Region.noSelect ops=true:=by kernel_rfl) (hf:Region.free md ops listed i=true:=by kernel_rfl)
    (hr:(Region.ready md ops listed).contains i=true:=by kernel_rfl) (hQ:∀ c a w,Q (.panic c) (a.put oi.dst v) w->Q (.panic c) a w:=by exact fun _ _ _ h=>h) (hn:Region.wanted oi (yielded ops a.tmps)=true:=by rfl)
    (hy:∀ w,S w->(execOp a.eval oi).run P w = .ok (.value v) w:=by (intro w hSw;(try dsimp only at hSw);go_simp;(try with_reducible rfl))) (hS:S w:=by assumption):wpAnyH P md ops Q S (fuel+1) listed a w :=
  wpAnyH_take hi hs hf hr hQ (Or.inl ⟨hn,hy⟩) hS h
theorem Hd {p:Prop} (h:p):Hid p:=h
theorem qai:(∀ (a:Act) (v:Value),a.put none v=a)∧(∀ (a:Act) (t:Nat) (v:Value),a.put (some t) v={ a with tmps:=a.tmps.setIfInBounds t v })∧(∀ (α:Type) (xs:List α) (i:Nat) (v:α),xs.toArray.setIfInBounds i v=(xs.set i v).toArray)∧(∀ (α:Type) (x v:α) (xs:List α),(x :: xs).set 0 v=v :: xs)∧(∀ (α:Type) (x v:α) (xs:List α) (i:Nat),(x :: xs).set (i+1) v=x :: xs.set i v) :=
  ⟨fun _ _=>rfl,fun _ _ _=>rfl,fun _ _ _ _=>by simp,fun _ _ _ _=>rfl,fun _ _ _ _ _=>rfl⟩
end Go.Proofs.YtegenalcheooeaaGreat
