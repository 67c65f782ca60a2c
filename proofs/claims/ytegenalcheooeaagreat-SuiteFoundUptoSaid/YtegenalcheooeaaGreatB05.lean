/- Of the proof of a law of the suites: Su1, RefCmp, LibELbs, LibETe, LawS. -/
import Derived.Test.YtegenalcheooeaaGreatB02
import Derived.Test.YtegenalcheooeaaGreatB03
import Derived.Test.YtegenalcheooeaaGreatB04
set_option linter.unusedSectionVars false
set_option linter.unusedSimpArgs false
set_option linter.unusedVariables false
namespace Go.Proofs.YtegenalcheooeaaGreat
open Go.RowKit
attribute [local go_sem] cell?_exto
section
set_option maxHeartbeats 1000000
set_option maxRecDepth 100000
/- suite: what a trace,a set,a test is. -/
def qa0 (g:Int):Bool:=decide (0<=g) || decide (g = -2)
theorem qih (g:Int) (v:Value) (w:World) :
  Calls Tryz.prog 176 #[.agg #[.int .i64 g,v]] w fun e w'=>e = .returned (.bool (qa0 g))∧Ext w w':=by
 by_cases h:0<=g
 ·have HV:=Hd (show qa0 g=true from by simp [qa0,h])
  go_enter Tryz.func176,Tryz.ntmps176
  go_wp2_with fail
  go_ret
  exact ⟨by rw [HV.out];rfl,bel⟩
 ·have HV:=Hd (show qa0 g=(g == -2) from by unfold qa0;rw [decide_eq_false h,Bool.false_or];rfl)
  go_enter Tryz.func176,Tryz.ntmps176
  go_wp2_with fail
  go_ret
  exact ⟨by rw [HV.out];simp,bel⟩
def okV (x:Lb):Bool:=qax x && qa0 x.g
theorem eg207:∀ args w,(callFunc 207 args).run Tryz.prog w = .ok (.enter 207 args) w:=enters_of Tryz.func207 (by kernel_rfl) rfl
theorem shown1_c (S:Nat->Prop) (x:Lb) (cs:List Value) (w:World) (hx:RLb S w x cs) :
  Calls Tryz.prog 207 #[.agg cs.toArray] w fun e w'=>e = .returned (.bool (!okV x))∧Ext w w':=by
 have hcon:=fun W h=>qmu S x cs W h
 obtain ⟨_,v,rfl,hv⟩:=id hx
 have HX:=Hd hx
 clear hx hv
 cases ho:qax x with
 | true =>
  have HV:=Hd (show (!okV x) = !qa0 x.g from by simp [okV,ho])
  have e:qc7 x=0:=by rw [qc7,if_pos ho]
  rw [e] at hcon
  clear e ho
  go_enter Tryz.func207,Tryz.ntmps207
  go_wp2_with fail
  refine (hcon _ (RLb.good.bel HX.out bel)).mono ?_
  rintro e w1 ⟨rfl,h1⟩
  have hc1:=h1.cells
  go_wp2_with fail
  refine (qih _ _ _).mono ?_
  rintro e w2 ⟨rfl,h2⟩
  go_wp2_with fail
  go_ret
  exact ⟨by rw [HV.out];rfl,bel⟩
 | false =>
  have HV:=Hd (show (!okV x)=true from by simp [okV,ho])
  have e:qc7 x=170:=by rw [qc7,if_neg (by simp [ho])]
  rw [e] at hcon
  clear e ho
  go_enter Tryz.func207,Tryz.ntmps207
  go_wp2_with fail
  refine (hcon _ (RLb.good.bel HX.out bel)).mono ?_
  rintro e w1 ⟨rfl,h1⟩
  go_wp2_with fail
  go_ret
  exact ⟨by rw [HV.out];rfl,bel⟩
theorem any_not {α:Type} (p:α->Bool) (l:List α):(!(l.any fun x=>!p x))=l.all p:=by
 induction l with
 | nil=>rfl
 | cons x xs ih=>rw [List.any_cons,List.all_cons,<- ih];cases p x <;> simp
theorem shown_c (S:Nat->Prop) (l:List Lb) (v:Value) (w:World) (hx:qaa S w l [v]) :
  Calls Tryz.prog 140 #[v] w fun e w'=>e = .returned (.bool (l.all okV))∧Ext w w':=by
 have hcon:=conPLb (fun x=>!okV x) S w l v hx 207 #[] eg207 (fun x hx cs W' hW hr=>shown1_c S x cs W' hr)
 obtain ⟨A,c,rfl,hc,hc0⟩:=hx.val
 have HV:=Hd (any_not okV l)
 clear hx
 go_enter Tryz.func140,Tryz.ntmps140
 go_wp2_with fail
 refine hcon.mono ?_
 rintro e w1 ⟨rfl,h1⟩
 go_wp2_with fail
 go_ret
 exact ⟨by rw [<- HV.out];rfl,bel⟩
def qbl (l:List Lb):Bool:=decide (l.length<=40) && l.all okV
theorem ql1 (S:Nat->Prop) (l:List Lb) (v:Value) (w:World) (hx:qaa S w l [v]) :
  Calls Tryz.prog 79 #[v] w fun e w'=>e = .returned (.bool (qbl l))∧Ext w w':=by
 have hcon:=shown_c S l v w hx
 obtain ⟨A,c,rfl,hc,hc0⟩:=hx.val
 clear hx
 by_cases h:l.length<=40
 ·have HV:=Hd (show qbl l=l.all okV from by simp [qbl,h])
  go_enter Tryz.func79,Tryz.ntmps79
  go_wp2_with fail
  refine hcon.mono ?_
  rintro e w1 ⟨rfl,h1⟩
  go_wp2_with fail
  go_ret
  exact ⟨by rw [HV.out];rfl,bel⟩
 ·have HV:=Hd (show qbl l=false from by simp [qbl,h])
  go_enter Tryz.func79,Tryz.ntmps79
  go_wp2_with fail
  go_ret
  exact ⟨by rw [HV.out];rfl,bel⟩
def qfw:List Lb->Bool
 | []=>true
 | [_]=>true
 | a :: b :: r=>decide (qan a b<0) && qfw (b :: r)
def qb6 (l:List Lb):Bool:=qfw l && decide (l.length<=64) && l.all okV
theorem qjd:∀ l:List Lb,qfw l=true↔∀ i,(h:i+1<l.length)->qan l[i] l[i+1]<0
 | []=>by simp [qfw]
 | [_]=>by simp [qfw]
 | a :: b :: r=>by
  rw [qfw,Bool.and_eq_true,qjd (b :: r),decide_eq_true_eq]
  constructor
  ·rintro ⟨h0,h⟩ i hi
   cases i with
   | zero=>exact h0
   | succ i=>exact h i (by simpa using hi)
  ·intro h
   exact ⟨h 0 (by simp),fun i hi=>h (i+1) (by simpa using hi)⟩
theorem isSet_c (S:Nat->Prop) (l:List Lb) (v:Value) (w:World) (hx:qaa S w l [v]) :
  Calls Tryz.prog 101 #[v] w fun e w'=>e = .returned (.bool (qb6 l))∧Ext w w':=by
 have hcon:=fun W (hb:Ext w W)=>shown_c S l v W (qaa.good.bel hx hb)
 obtain ⟨A,c,rfl,hc,hc0⟩:=hx.val
 have HX:=Hd hx
 clear hx
 go_enter Tryz.func101,Tryz.ntmps101
 go_wp2_with fail
 go_loopw [2,3] (fun r i wr=>∃ k:Nat,1<=k∧(k=1∨k<=l.length)∧i = .int .i64 k∧r = .bool false∧qad w wr∧Hid (∀ j,(h:j+1<l.length)->j+1<k->qan l[j] l[j+1]<0)) (fun _ i _=>l.length-(intOf i).toNat)
 case atStart=>exact ⟨1,by omega,.inl rfl,rfl,rfl,qad.refl _,fun j _ hj=>absurd hj (by omega)⟩
 case round =>
  obtain ⟨k,hk1,hk,rfl,rfl,hE,hz⟩:=hrel
  by_cases hlt:k<l.length
  ·obtain ⟨k,rfl⟩:∃ m,k=m+1:=⟨k-1,by omega⟩
   have hk0:k<l.length:=by omega
   obtain ⟨b,off,cs,rfl,hb,hs,hl,hr,hcell⟩:=(qaa.good.ext HX.out hE).get k hk0
   obtain ⟨b',off',cs',he,hb',hs',hl',hr',hcell'⟩:=(qaa.good.ext HX.out hE).get (k+1) hlt
   injection he with he
   injection he with he1 he2
   subst he1 he2
   obtain ⟨_,v1,rfl,hv1⟩:=id hr
   obtain ⟨_,v2,rfl,hv2⟩:=id hr'
   have g0:=hcell.get 0 _
   have g1:=hcell.get 1 _
   have g0':=hcell'.get 0 _
   have g1':=hcell'.get 1 _
   simp only [Nat.add_zero] at g0 g0'
   have hcmp:=fun W (hW:qad wr W)=>qhu S _ _ _ _ W (RLb.good.ext hr hW) (RLb.good.ext hr' hW)
   have z1:(0:Int)<=(k:Int):=by omega
   have z2:((k:Int)+1)<(l.length:Int):=by omega
   have z3:(0:Int)<=(k:Int)+1:=by omega
   have z4:(k:Int)<(l.length:Int):=by omega
   clear hcell hcell' hl hl' hs hs' hv1 hv2 hr hr' hcon
   have y1:IntKind.i64.wrap ((k:Int)+1-1)=(k:Int):=by rw [IntWalk.i64_in _ (by omega)];omega
   have y2:IntKind.i64.wrap (k:Int)=(k:Int):=IntWalk.i64_in _ (by omega)
   by_cases hc2:qan l[k] l[k+1]<0
   ·have HC:=Hd hc2
    have hd:decide (qan l[k] l[k+1] ≥ 0)=false:=by simp;omega
    have hd':decide (0<=qan l[k] l[k+1])=false:=by simp;omega
    clear hc2
    go_wp2_with fail
    go_region_held3 (fun W=>W.cell? ⟨b,off+k*2,none⟩=some (.int .i64 l[k].g)∧W.cell? ⟨b,off+k*2+1,none⟩=some v1∧W.cell? ⟨b,off+(k+1)*2,none⟩=some (.int .i64 l[k+1].g)∧W.cell? ⟨b,off+(k+1)*2+1,none⟩=some v2)
     (first | (refine ⟨?_,?_,?_,?_⟩ <;> go_simp <;> done) | exact hx1.k4 (by assumption) | exact ((qad.refl _).alloc _).k4 (by assumption))
     (first | (go_at_call 166;refine (hcmp _ qaj).mono ?_;rintro e w1 ⟨rfl,hx1⟩))
    clear y1 y2
    go_wp2_with fail
    go_roundw
    case rel =>
     refine ⟨k+1+1,by omega,.inr (by omega),by go_num,rfl,qaj,fun j h hj=>?_⟩
     rcases Nat.lt_or_ge j k with h' | h'
     ·exact hz j h (by omega)
     ·obtain rfl:j=k:=by omega
      exact HC.out
    case measure=>simp [intOf];omega
   ·have HC:=Hd (show qb6 l=false from by
     unfold qb6
     have:qfw l=false:=by
      cases h:qfw l with
      | false=>rfl
      | true=>exact absurd ((qjd l).1 h k hlt) hc2
     rw [this];rfl)
    have hd':0<=qan l[k] l[k+1]:=by omega
    clear hc2
    go_wp2_with fail
    go_region_held3 (fun W=>W.cell? ⟨b,off+k*2,none⟩=some (.int .i64 l[k].g)∧W.cell? ⟨b,off+k*2+1,none⟩=some v1∧W.cell? ⟨b,off+(k+1)*2,none⟩=some (.int .i64 l[k+1].g)∧W.cell? ⟨b,off+(k+1)*2+1,none⟩=some v2)
     (first | (refine ⟨?_,?_,?_,?_⟩ <;> go_simp <;> done) | exact hx1.k4 (by assumption) | exact ((qad.refl _).alloc _).k4 (by assumption))
     (first | (go_at_call 166;refine (hcmp _ qaj).mono ?_;rintro e w1 ⟨rfl,hx1⟩))
    clear y1 y2
    go_wp2_with fail
    go_ret
    exact ⟨by rw [HC.out];rfl,bel⟩
  ·have hinc:qfw l=true:=(qjd l).2 fun i hi=>hz i hi (by omega)
   have hle:=hcon wr hE.ext
   clear hz hcon
   by_cases h:l.length<=64
   ·have HV:=Hd (show qb6 l=l.all okV from by simp [qb6,h,hinc])
    clear hinc
    go_wp2_with fail
    refine hle.mono ?_
    rintro e w1 ⟨rfl,h1⟩
    go_wp2_with fail
    go_ret
    exact ⟨by rw [HV.out];rfl,bel⟩
   ·have HV:=Hd (show qb6 l=false from by simp [qb6,h])
    clear hinc
    go_wp2_with fail
    go_ret
    exact ⟨by rw [HV.out];rfl,bel⟩
def qdi (t:Te):Bool:=qbl t.tr && decide (0<t.mu.length) && qb6 t.mu
def ckTe (t:Te):Int:=if qdi t then 0 else 340
theorem qth (S:Nat->Prop) (t:Te) (cs:List Value) (w:World) (hx:RTe S w t cs) :
  Calls Tryz.prog 45 #[.agg cs.toArray] w fun e w'=>e = .returned (.int .i64 (ckTe t))∧Ext w w':=by
 obtain ⟨v,u,rfl,hv,hu⟩:=id hx
 have h1:=fun W (hb:Ext w W)=>ql1 S t.tr v W (qaa.good.bel hv hb)
 have h2:=fun W (hb:Ext w W)=>isSet_c S t.mu u W (qaa.good.bel hu hb)
 obtain ⟨A,c,rfl,hc,hc0⟩:=hv.val
 obtain ⟨A',c',rfl,hc',hc0'⟩:=hu.val
 clear hx hv hu
 cases ha:qbl t.tr with
 | false =>
  have HV:=Hd (show ckTe t=340 from by simp [ckTe,qdi,ha])
  rw [ha] at h1
  clear ha
  go_enter Tryz.func45,Tryz.ntmps45
  go_wp2_with fail
  refine (h1 _ bel).mono ?_
  rintro e w1 ⟨rfl,hw1⟩
  go_wp2_with fail
  go_ret
  exact ⟨by rw [HV.out];rfl,bel⟩
 | true =>
  rw [ha] at h1
  by_cases hz:0<t.mu.length
  ·have hz':((t.mu.length:Int) == 0)=false:=beq_eq_false_iff_ne.2 (by omega)
   cases hb:qb6 t.mu with
   | false =>
    have HV:=Hd (show ckTe t=340 from by simp [ckTe,qdi,hb])
    rw [hb] at h2
    clear ha hb
    go_enter Tryz.func45,Tryz.ntmps45
    go_wp2_with fail
    refine (h1 _ bel).mono ?_
    rintro e w1 ⟨rfl,hw1⟩
    have hc1:=hw1.cells
    go_wp2_with fail
    refine (h2 _ bel).mono ?_
    rintro e w2 ⟨rfl,hw2⟩
    go_wp2_with fail
    go_ret
    exact ⟨by rw [HV.out];rfl,bel⟩
   | true =>
    have HV:=Hd (show ckTe t=0 from by simp [ckTe,qdi,ha,hb,hz])
    rw [hb] at h2
    clear ha hb
    go_enter Tryz.func45,Tryz.ntmps45
    go_wp2_with fail
    refine (h1 _ bel).mono ?_
    rintro e w1 ⟨rfl,hw1⟩
    have hc1:=hw1.cells
    go_wp2_with fail
    refine (h2 _ bel).mono ?_
    rintro e w2 ⟨rfl,hw2⟩
    go_wp2_with fail
    go_ret
    exact ⟨by rw [HV.out];rfl,bel⟩
  ·have HV:=Hd (show ckTe t=340 from by simp [ckTe,qdi,hz])
   have hz':((t.mu.length:Int) == 0)=true:=beq_iff_eq.2 (by omega)
   clear ha
   go_enter Tryz.func45,Tryz.ntmps45
   go_wp2_with fail
   refine (h1 _ bel).mono ?_
   rintro e w1 ⟨rfl,hw1⟩
   have hc1:=hw1.cells
   go_wp2_with fail
   go_ret
   exact ⟨by rw [HV.out];rfl,bel⟩
end
section
set_option maxHeartbeats 1000000
set_option maxRecDepth 100000
/- The reference's order of labels;what is the same: walked. -/
theorem qku (a b:Int) (w:World):Calls Tryz.prog 285 #[.int .i64 a,.int .i64 b] w fun e w'=>e = .returned (.int .i64 (qah a b))∧w'=w:=by
 by_cases h1:a<b
 ·have HV:=Hd (show qah a b = -1 from if_pos h1)
  go_enter Tryz.func285,Tryz.ntmps285
  go_wp2_with fail
  go_ret
  exact ⟨by rw [HV.out];rfl,rfl⟩
 ·by_cases h2:b<a
  ·have HV:=Hd (show qah a b=1 from by unfold qah;rw [if_neg h1,if_pos h2])
   go_enter Tryz.func285,Tryz.ntmps285
   go_wp2_with fail
   go_ret
   exact ⟨by rw [HV.out];rfl,rfl⟩
  ·have HV:=Hd (show qah a b=0 from by unfold qah;rw [if_neg h1,if_neg h2])
   go_enter Tryz.func285,Tryz.ntmps285
   go_wp2_with fail
   go_ret
   exact ⟨by rw [HV.out];rfl,rfl⟩
def RCmpC (x:Tm):Prop:=∀ (S:Nat->Prop) (y:Tm) (cx cy:List Value) (W:World),RTm S W x cx->RTm S W y cy ->
  Calls Tryz.prog 266 #[.agg cx.toArray,.agg cy.toArray] W fun e w'=>e = .returned (.int .i64 (qbv x y))∧qad W w'
theorem cmpI_zero {a b:Int} (h:qah a b=0):a=b:=by
 unfold qah at h
 split at h
 ·simp at h
 ·split at h
  ·simp at h
  ·omega
theorem rcmp_of (x:Tm) (ht:∀ z∈x.l,RCmpC z):RCmpC x:=by
 intro S y cx cy w hx hy
 obtain ⟨_,_,vx,rfl,hvx⟩:=(qaz ..).1 hx
 obtain ⟨_,_,vy,rfl,hvy⟩:=(qaz ..).1 hy
 obtain ⟨A,c,rfl,hc,hc0⟩:=hvx.val
 obtain ⟨A',c',rfl,hc',hc0'⟩:=hvy.val
 have HX:=Hd hvx
 have HY:=Hd hvy
 have HT:=Hd ht
 have hor:=qn9 x y
 simp only [orI] at hor
 clear hx hy hvx hvy ht
 by_cases h1:qah x.k y.k=0
 case neg =>
  rw [if_neg h1] at hor
  have HV:=Hd hor
  have b1:(qah x.k y.k == 0)=false:=beq_eq_false_iff_ne.2 h1
  clear hor h1
  go_enter Tryz.func266,Tryz.ntmps266
  go_wp2_with (go_at_call 285;refine (qku _ _ _).mono ?_;rintro e w' ⟨rfl,rfl⟩)
  go_loopw [5,6] (fun vc vi wr=>vc = .int .i64 (qah x.k y.k)∧vi = .int .i64 0∧qad w wr∧wr.cell? ⟨w.heap.size,2,none⟩=some (.slice A x.l.length c)) (fun _ _ _=>0)
  case atStart=>exact ⟨rfl,rfl,qaj,by go_simp⟩
  case round =>
   obtain ⟨rfl,rfl,hE,q0⟩:=hrel
   by_cases hl0:0<x.l.length
   ·have hl1:decide (0<(x.l.length:Int))=true:=decide_eq_true (by omega)
    go_wp2_with fail
    go_ret
    exact ⟨by rw [HV.out];rfl,hE⟩
   ·have hl1:decide (0<(x.l.length:Int))=false:=decide_eq_false (by omega)
    go_wp2_with fail
    go_ret
    exact ⟨by rw [HV.out];rfl,hE⟩
 rw [if_pos h1] at hor
 by_cases h2:qah x.n y.n=0
 case neg =>
  rw [if_neg h2] at hor
  have HV:=Hd hor
  have b1:(qah x.k y.k == 0)=true:=beq_iff_eq.2 h1
  have b2:(qah x.n y.n == 0)=false:=beq_eq_false_iff_ne.2 h2
  clear hor h1 h2
  go_enter Tryz.func266,Tryz.ntmps266
  go_wp2_with (go_at_call 285;refine (qku _ _ _).mono ?_;rintro e w' ⟨rfl,rfl⟩)
  go_loopw [5,6] (fun vc vi wr=>vc = .int .i64 (qah x.n y.n)∧vi = .int .i64 0∧qad w wr∧wr.cell? ⟨w.heap.size,2,none⟩=some (.slice A x.l.length c)) (fun _ _ _=>0)
  case atStart=>exact ⟨rfl,rfl,qaj,by go_simp⟩
  case round =>
   obtain ⟨rfl,rfl,hE,q0⟩:=hrel
   by_cases hl0:0<x.l.length
   ·have hl1:decide (0<(x.l.length:Int))=true:=decide_eq_true (by omega)
    go_wp2_with fail
    go_ret
    exact ⟨by rw [HV.out];rfl,hE⟩
   ·have hl1:decide (0<(x.l.length:Int))=false:=decide_eq_false (by omega)
    go_wp2_with fail
    go_ret
    exact ⟨by rw [HV.out];rfl,hE⟩
 rw [if_pos h2] at hor
 by_cases h3:qah x.l.length y.l.length=0
 case neg =>
  rw [if_neg h3] at hor
  have HV:=Hd hor
  have b1:(qah x.k y.k == 0)=true:=beq_iff_eq.2 h1
  have b2:(qah x.n y.n == 0)=true:=beq_iff_eq.2 h2
  have b3:(qah x.l.length y.l.length == 0)=false:=beq_eq_false_iff_ne.2 h3
  clear hor h1 h2 h3
  go_enter Tryz.func266,Tryz.ntmps266
  go_wp2_with (go_at_call 285;refine (qku _ _ _).mono ?_;rintro e w' ⟨rfl,rfl⟩)
  go_loopw [5,6] (fun vc vi wr=>vc = .int .i64 (qah x.l.length y.l.length)∧vi = .int .i64 0∧qad w wr∧wr.cell? ⟨w.heap.size,2,none⟩=some (.slice A x.l.length c)) (fun _ _ _=>0)
  case atStart=>exact ⟨rfl,rfl,qaj,by go_simp⟩
  case round =>
   obtain ⟨rfl,rfl,hE,q0⟩:=hrel
   by_cases hl0:0<x.l.length
   ·have hl1:decide (0<(x.l.length:Int))=true:=decide_eq_true (by omega)
    go_wp2_with fail
    go_ret
    exact ⟨by rw [HV.out];rfl,hE⟩
   ·have hl1:decide (0<(x.l.length:Int))=false:=decide_eq_false (by omega)
    go_wp2_with fail
    go_ret
    exact ⟨by rw [HV.out];rfl,hE⟩
 rw [if_pos h3] at hor
 have hln:x.l.length=y.l.length:=by have:=cmpI_zero h3;omega
 have hor2:qbv x y=qat x.l y.l:=by rw [hor];split <;> simp_all
 have HV:=Hd hor2
 have b1:(qah x.k y.k == 0)=true:=beq_iff_eq.2 h1
 have b2:(qah x.n y.n == 0)=true:=beq_iff_eq.2 h2
 have HL:=Hd hln
 clear hor hor2 h1 h2 hln
 go_enter Tryz.func266,Tryz.ntmps266
 go_wp2_with (go_at_call 285;refine (qku _ _ _).mono ?_;rintro e w' ⟨rfl,rfl⟩)
 go_loopw [5,6] (fun vc vi wr=>∃ (k:Nat) (cv:Int),k<=x.l.length∧vi = .int .i64 k∧vc = .int .i64 cv∧qad w wr∧wr.cell? ⟨w.heap.size,2,none⟩=some (.slice A x.l.length c)∧wr.cell? ⟨w.heap.size+1,2,none⟩=some (.slice A' y.l.length c') ∧
  Hid ((cv=0∧qat x.l y.l=qat (x.l.drop k) (y.l.drop k))∨(cv≠0∧qat x.l y.l=cv))) (fun vc vi _=>if intOf vc=0 then x.l.length+1-(intOf vi).toNat else 0)
 case atStart=>exact ⟨0,0,Nat.zero_le _,rfl,rfl,qaj,by go_simp,by go_simp,.inl ⟨rfl,rfl⟩⟩
 case round =>
  obtain ⟨k,cv,hk,rfl,rfl,hE,q0,q1,hst⟩:=hrel
  by_cases hlt:k<x.l.length
  ·by_cases hcv:cv=0
   ·subst hcv
    have hlt':k<y.l.length:=by rw [<- HL.out];exact hlt
    obtain ⟨b,off,cs,rfl,hb,hs,hl,hr,hcell⟩:=(qam.good.ext HX.out hE).get k hlt
    obtain ⟨b',off',cs',rfl,hb',hs',hl',hr',hcell'⟩:=(qam.good.ext HY.out hE).get k hlt'
    obtain ⟨i1,i2,v,rfl,hv⟩:=(qaz ..).1 hr
    obtain ⟨i1',i2',v',rfl,hv'⟩:=(qaz ..).1 hr'
    obtain ⟨A2,c2,rfl,_,_⟩:=hv.val
    obtain ⟨A2',c2',rfl,_,_⟩:=hv'.val
    have g0:=hcell.get 0 _
    have g1:=hcell.get 1 _
    have g2:=hcell.get 2 _
    have g0':=hcell'.get 0 _
    have g1':=hcell'.get 1 _
    have g2':=hcell'.get 2 _
    simp only [Nat.add_zero] at g0 g0'
    have hcon:=fun W (hW:qad wr W)=>HT.out x.l[k] (List.getElem_mem hlt) S y.l[k] _ _ W (RTm.good.ext hr hW) (RTm.good.ext hr' hW)
    have hq:qat x.l y.l=if qbv x.l[k] y.l[k]=0 then qat (x.l.drop (k+1)) (y.l.drop (k+1)) else qbv x.l[k] y.l[k]:=by
     rcases hst.out with ⟨_,h⟩ | ⟨h,_⟩
     ·rw [h,List.drop_eq_getElem_cons hlt,List.drop_eq_getElem_cons hlt',qat]
     ·exact absurd rfl h
    have HQ:=Hd hq
    have z2:(k:Int)<(x.l.length:Int):=by omega
    have z3:(k:Int)<(y.l.length:Int):=by omega
    clear hcell hcell' hl hl' hs hs' hr hr' hv hv' hst hq
    obtain ⟨m,hm⟩:∃ m,qbv x.l[k] y.l[k]=m:=⟨_,rfl⟩
    rw [hm] at hcon HQ
    clear hm
    go_wp2_with fail
    go_region_held3 (fun W=>W.cell? ⟨w.heap.size,2,none⟩=some (.slice (some ⟨b,off,none⟩) x.l.length c)∧W.cell? ⟨w.heap.size+1,2,none⟩=some (.slice (some ⟨b',off',none⟩) y.l.length c')∧W.cell? ⟨b,off+k*3,none⟩=some (.int .i64 x.l[k].k)∧W.cell? ⟨b,off+k*3+1,none⟩=some (.int .i64 x.l[k].n)∧W.cell? ⟨b,off+k*3+2,none⟩=some (.slice A2 x.l[k].l.length c2)∧W.cell? ⟨b',off'+k*3,none⟩=some (.int .i64 y.l[k].k)∧W.cell? ⟨b',off'+k*3+1,none⟩=some (.int .i64 y.l[k].n)∧W.cell? ⟨b',off'+k*3+2,none⟩=some (.slice A2' y.l[k].l.length c2'))
     (first | (refine ⟨?_,?_,?_,?_,?_,?_,?_,?_⟩ <;> go_simp <;> done) | exact hx1.k8 (by assumption) | exact ((qad.refl _).alloc _).k8 (by assumption))
     (first | (go_at_call 266;refine (hcon _ qaj).mono ?_;rintro e w1 ⟨rfl,hx1⟩))
    have q0':=qad.keep (hx1) (show wr.drew.cell? ⟨w.heap.size,2,none⟩=_ from q0)
    have q1':=qad.keep (hx1) (show wr.drew.cell? ⟨w.heap.size+1,2,none⟩=_ from q1)
    go_wp2_with fail
    go_roundw
    case rel =>
     refine ⟨k+1,m,by omega,by go_num,rfl,qaj,q0',q1',?_⟩
     by_cases e:m=0
     ·exact .inl ⟨e,by rw [HQ.out,if_pos e]⟩
     ·exact .inr ⟨e,by rw [HQ.out,if_neg e]⟩
    case measure =>
     simp [intOf]
     split <;> omega
   ·have hq:qat x.l y.l=cv:=by
     rcases hst.out with ⟨h,_⟩ | ⟨_,h⟩
     ·exact absurd h hcv
     ·exact h
    have HQ:=Hd hq
    have bq:(cv == 0)=false:=beq_eq_false_iff_ne.2 hcv
    clear hst hq hcv
    go_wp2_with fail
    go_ret
    exact ⟨by rw [HV.out,HQ.out];rfl,hE⟩
  ·have hq:qat x.l y.l=cv:=by
    rcases hst.out with ⟨rfl,h⟩ | ⟨_,h⟩
    ·rw [h,List.drop_eq_nil_of_le (by omega),List.drop_eq_nil_of_le (by rw [<- HL.out];omega),qat];rfl
    ·exact h
   have HQ:=Hd hq
   clear hst hq
   go_wp2_with fail
   all_goals go_ret
   all_goals exact ⟨by rw [HV.out,HQ.out];rfl,hE⟩
theorem rcmp_c:∀ x,RCmpC x:=Tm.ind rcmp_of
theorem rterms_c (S:Nat->Prop) (x y:List Tm) (vx vy:Value) (w:World) (hx:qam S w x [vx]) (hy:qam S w y [vy]) :
  Calls Tryz.prog 232 #[vx,vy] w fun e w'=>e = .returned (.int .i64 (qat x y))∧qad w w':=by
 obtain ⟨A,c,rfl,hc,hc0⟩:=hx.val
 obtain ⟨A',c',rfl,hc',hc0'⟩:=hy.val
 have HX:=Hd hx
 have HY:=Hd hy
 clear hx hy
 go_enter Tryz.func232,Tryz.ntmps232
 go_wp2_with fail
 go_loopw [5] (fun vi wr=>∃ k:Nat,k<=x.length∧k<=y.length∧vi = .int .i64 k∧qad w wr∧Hid (qat x y=qat (x.drop k) (y.drop k))) (fun vi _=>x.length-(intOf vi).toNat)
 case atStart=>exact ⟨0,Nat.zero_le _,Nat.zero_le _,rfl,qaj,rfl⟩
 case round =>
  obtain ⟨k,hk,hk',rfl,hE,hst⟩:=hrel
  by_cases hlt:k<x.length
  ·by_cases hlt':k<y.length
   ·obtain ⟨b,off,cs,rfl,hb,hs,hl,hr,hcell⟩:=(qam.good.ext HX.out hE).get k hlt
    obtain ⟨b',off',cs',rfl,hb',hs',hl',hr',hcell'⟩:=(qam.good.ext HY.out hE).get k hlt'
    obtain ⟨i1,i2,v,rfl,hv⟩:=(qaz ..).1 hr
    obtain ⟨i1',i2',v',rfl,hv'⟩:=(qaz ..).1 hr'
    obtain ⟨A2,c2,rfl,_,_⟩:=hv.val
    obtain ⟨A2',c2',rfl,_,_⟩:=hv'.val
    have g0:=hcell.get 0 _
    have g1:=hcell.get 1 _
    have g2:=hcell.get 2 _
    have g0':=hcell'.get 0 _
    have g1':=hcell'.get 1 _
    have g2':=hcell'.get 2 _
    simp only [Nat.add_zero] at g0 g0'
    have hcon:=fun W (hW:qad wr W)=>rcmp_c x[k] S y[k] _ _ W (RTm.good.ext hr hW) (RTm.good.ext hr' hW)
    have hq:qat x y=if qbv x[k] y[k]=0 then qat (x.drop (k+1)) (y.drop (k+1)) else qbv x[k] y[k]:=by
     rw [hst.out,List.drop_eq_getElem_cons hlt,List.drop_eq_getElem_cons hlt',qat]
    have HQ:=Hd hq
    have z2:(k:Int)<(x.length:Int):=by omega
    have z3:(k:Int)<(y.length:Int):=by omega
    clear hcell hcell' hl hl' hs hs' hr hr' hv hv' hst hq
    obtain ⟨m,hm⟩:∃ m,qbv x[k] y[k]=m:=⟨_,rfl⟩
    rw [hm] at hcon HQ
    clear hm
    by_cases h0:m=0
    ·have h0':(m != 0)=false:=by simp [h0]
     rw [if_pos h0] at HQ
     clear h0
     go_wp2_with fail
     go_region_held3 (fun W=>W.cell? ⟨b,off+k*3,none⟩=some (.int .i64 x[k].k)∧W.cell? ⟨b,off+k*3+1,none⟩=some (.int .i64 x[k].n)∧W.cell? ⟨b,off+k*3+2,none⟩=some (.slice A2 x[k].l.length c2)∧W.cell? ⟨b',off'+k*3,none⟩=some (.int .i64 y[k].k)∧W.cell? ⟨b',off'+k*3+1,none⟩=some (.int .i64 y[k].n)∧W.cell? ⟨b',off'+k*3+2,none⟩=some (.slice A2' y[k].l.length c2'))
      (first | (refine ⟨?_,?_,?_,?_,?_,?_⟩ <;> go_simp <;> done) | exact hx1.k6 (by assumption) | exact ((qad.refl _).alloc _).k6 (by assumption))
      (first | (go_at_call 266;refine (hcon _ qaj).mono ?_;rintro e w1 ⟨rfl,hx1⟩))
     go_wp2_with fail
     go_roundw
     case rel=>exact ⟨k+1,by omega,by omega,by go_num,qaj,HQ.out⟩
     case measure=>simp [intOf];omega
    ·have h0':(m != 0)=true:=by simp [h0]
     rw [if_neg h0] at HQ
     clear h0
     go_wp2_with fail
     go_region_held3 (fun W=>W.cell? ⟨b,off+k*3,none⟩=some (.int .i64 x[k].k)∧W.cell? ⟨b,off+k*3+1,none⟩=some (.int .i64 x[k].n)∧W.cell? ⟨b,off+k*3+2,none⟩=some (.slice A2 x[k].l.length c2)∧W.cell? ⟨b',off'+k*3,none⟩=some (.int .i64 y[k].k)∧W.cell? ⟨b',off'+k*3+1,none⟩=some (.int .i64 y[k].n)∧W.cell? ⟨b',off'+k*3+2,none⟩=some (.slice A2' y[k].l.length c2'))
      (first | (refine ⟨?_,?_,?_,?_,?_,?_⟩ <;> go_simp <;> done) | exact hx1.k6 (by assumption) | exact ((qad.refl _).alloc _).k6 (by assumption))
      (first | (go_at_call 266;refine (hcon _ qaj).mono ?_;rintro e w1 ⟨rfl,hx1⟩))
     go_wp2_with fail
     go_ret
     exact ⟨by rw [HQ.out];rfl,qaj⟩
   ·have e:qat x y=qah x.length y.length:=by rw [hst.out,qm8 (by omega) hk hk']
    have HE:Hid _:=e
    clear e hst
    go_wp2_with (go_at_call 120;refine (qfc _ _ _).mono ?_;rintro e w' ⟨rfl,rfl⟩)
    go_ret
    exact ⟨by rw [HE.out];rfl,hE⟩
  ·have e:qat x y=qah x.length y.length:=by rw [hst.out,qm8 (by omega) hk hk']
   have HE:Hid _:=e
   clear e hst
   go_wp2_with (go_at_call 120;refine (qfc _ _ _).mono ?_;rintro e w' ⟨rfl,rfl⟩)
   go_ret
   exact ⟨by rw [HE.out];rfl,hE⟩
theorem cmpLb_or (x y:Lb):qan x y=if qah x.g y.g=0 then qat x.v y.v else qah x.g y.g:=by
 unfold qan
 simp only [orI]
 by_cases h:qah x.g y.g=0
 ·rw [if_pos h,if_pos h]
  split
  ·rename_i h2;exact h2.symm
  ·rfl
 ·rw [if_neg h,if_neg h]
theorem qp8 (S:Nat->Prop) (x y:Lb) (cx cy:List Value) (w:World) (hx:RLb S w x cx) (hy:RLb S w y cy) :
  Calls Tryz.prog 172 #[.agg cx.toArray,.agg cy.toArray] w fun e w'=>e = .returned (.int .i64 (qan x y))∧qad w w':=by
 obtain ⟨_,vx,rfl,hx⟩:=hx
 obtain ⟨_,vy,rfl,hy⟩:=hy
 have hcon:=fun W (hW:qad w W)=>rterms_c S x.v y.v vx vy W (qam.good.ext hx hW) (qam.good.ext hy hW)
 obtain ⟨A,c,rfl,hc,hc0⟩:=hx.val
 obtain ⟨A',c',rfl,hc',hc0'⟩:=hy.val
 have hor:=cmpLb_or x y
 clear hx hy
 by_cases h1:qah x.g y.g=0
 ·rw [if_pos h1] at hor
  have HV:=Hd hor
  have b1:(qah x.g y.g != 0)=false:=by simp [h1]
  clear hor h1
  go_enter Tryz.func172,Tryz.ntmps172
  go_wp2_with (first | (go_at_call 120;refine (qfc _ _ _).mono ?_;rintro e w' ⟨rfl,rfl⟩) | (go_at_call 232;refine (hcon _ qaj).mono ?_;rintro e w1 ⟨rfl,hx1⟩))
  go_ret
  exact ⟨by rw [HV.out];rfl,qaj⟩
 ·rw [if_neg h1] at hor
  have HV:=Hd hor
  have b1:(qah x.g y.g != 0)=true:=by simp [h1]
  clear hor h1 hcon
  go_enter Tryz.func172,Tryz.ntmps172
  go_wp2_with (first | (go_at_call 120;refine (qfc _ _ _).mono ?_;rintro e w' ⟨rfl,rfl⟩))
  go_ret
  exact ⟨by rw [HV.out];rfl,qaj⟩
theorem ql7 (S:Nat->Prop) (x y:Lb) (cx cy:List Value) (w:World) (hx:RLb S w x cx) (hy:RLb S w y cy) :
  Calls Tryz.prog 133 #[.agg cx.toArray,.agg cy.toArray] w fun e w'=>e = .returned (.bool (qa3 x y))∧qad w w':=by
 have hcon:=fun W (hW:qad w W)=>qp8 S x y cx cy W (RLb.good.ext hx hW) (RLb.good.ext hy hW)
 obtain ⟨_,vx,rfl,hx⟩:=hx
 obtain ⟨_,vy,rfl,hy⟩:=hy
 clear hx hy
 go_enter Tryz.func133,Tryz.ntmps133
 go_wp2_with fail
 refine (hcon _ qaj).mono ?_
 rintro e w1 ⟨rfl,hx1⟩
 go_wp2_with fail
 go_ret
 exact ⟨rfl,qaj⟩
end
section

set_option maxHeartbeats 1000000 in
set_option maxRecDepth 100000 in
theorem eqFLbs (cf:List Lb->List Lb->Bool) (S:Nat->Prop) (w:World) (xs ys:List (List Lb)) (v u:Value) (hx:RSl qaa 1 S w xs [v]) (hy:RSl qaa 1 S w ys [u]) (g:Nat) (lb:Array Value)
  (eg:∀ args w,(callFunc g args).run Tryz.prog w = .ok (.enter g args) w)
  (hp:∀ x∈xs,∀ y∈ys,∀ cs cs2 W,qad w W->qaa S W x cs->qaa S W y cs2->Calls Tryz.prog g (#[cs.headD undef,cs2.headD undef]++lb) W fun e w'=>e = .returned (.bool (cf x y))∧qad W w') :
  Calls Tryz.prog 93 #[v,u,.func (.func g) #[] lb] w fun e w'=>e = .returned (.bool (leq cf xs ys))∧qad w w':=by
 obtain ⟨A,c,rfl,hc,hc0⟩:=hx.val
 obtain ⟨A',c',rfl,hc',hc0'⟩:=hy.val
 have HX:=Hd hx
 have HY:=Hd hy
 have HP:=Hd hp
 clear hx hy hp
 by_cases hlen:xs.length=ys.length
 case neg =>
  have HL:=Hd (qh2 cf xs ys hlen)
  have hne:((xs.length:Int) != (ys.length:Int))=true:=bne_iff_ne.2 (by omega)
  clear hlen
  go_enter Tryz.func93,Tryz.ntmps93
  go_wp2_with fail
  go_ret
  exact ⟨by rw [HL.out];rfl,qad.refl _⟩
 have hne:((xs.length:Int) != (ys.length:Int))=false:=bne_eq_false_iff_eq.2 (by omega)
 have hle1:xs.length<=ys.length:=by omega
 have hle2:ys.length<=xs.length:=by omega
 have HLEN:=Hd hlen
 clear hlen
 go_enter Tryz.func93,Tryz.ntmps93
 go_wp2_with fail
 go_loopw [7,8,9,17] (fun _ _ _ i wr=>∃ k:Nat,k<=xs.length∧k<=ys.length∧i = .int .i64 k∧qad w wr∧Hid (leq cf xs ys=leq cf (xs.drop k) (ys.drop k))) (fun _ _ _ i _=>xs.length-(intOf i).toNat)
 case atStart=>exact ⟨0,Nat.zero_le _,Nat.zero_le _,rfl,qad.refl _,rfl⟩
 case round =>
  obtain ⟨k,hk,hk2,rfl,hE,hf⟩:=hrel
  by_cases hlt:k<xs.length
  ·obtain ⟨b,off,cs,rfl,hb,hS,hl,hr,hcell⟩:=((RSl.good qaa.good).ext HX.out hE).get k hlt
   have hlt2:k<ys.length:=by omega
   obtain ⟨b2,off2,cs2,rfl,hb2,hS2,hl2,hr2,hcell2⟩:=((RSl.good qaa.good).ext HY.out hE).get k hlt2
   have hcon:=fun W (hW:qad wr W)=>HP.out xs[k] (List.getElem_mem hlt) ys[k] (List.getElem_mem hlt2) cs cs2 W (hE.trans hW) (qaa.good.ext hr hW) (qaa.good.ext hr2 hW)
   obtain ⟨c0,rfl⟩:∃ c0,cs=[c0]:=by
    match cs,hl with
    | [c0],_=>exact ⟨c0,rfl⟩
   have g0:=(by simpa using hcell.get 0 _:wr.cell? ⟨b,off+k,none⟩=some c0)
   obtain ⟨d0,rfl⟩:∃ d0,cs2=[d0]:=by
    match cs2,hl2 with
    | [d0],_=>exact ⟨d0,rfl⟩
   have q0:=(by simpa using hcell2.get 0 _:wr.cell? ⟨b2,off2+k,none⟩=some d0)
   rw [List.drop_eq_getElem_cons hlt,List.drop_eq_getElem_cons hlt2,leq] at hf
   clear hcell hcell2 hl hl2 hS hS2 hr hr2
   cases hq:cf xs[k] ys[k] with
   | true =>
    rw [hq] at hf hcon
    have Hf:=Hd hf
    clear hf hq
    go_wp2_with fail
    refine (hcon _ qaj).mono ?_
    rintro e w1 ⟨rfl,h1⟩
    go_wp2_with fail
    go_roundw
    case rel=>exact ⟨k+1,by omega,by omega,by go_num,qaj,by rw [Hf.out];exact Bool.true_and _⟩
    case measure=>simp [intOf];omega
   | false =>
    rw [hq] at hf hcon
    have Hf:=Hd hf
    clear hf hq
    go_wp2_with fail
    refine (hcon _ qaj).mono ?_
    rintro e w1 ⟨rfl,h1⟩
    go_wp2_with fail
    go_ret
    exact ⟨by rw [Hf.out];rfl,qaj⟩
  ·rw [List.drop_of_length_le (l:=xs) (by omega),List.drop_of_length_le (by omega),leq] at hf
   have Hf:=Hd hf
   clear hf
   go_wp2_with fail
   go_ret
   exact ⟨by rw [Hf.out];rfl,hE⟩
end
section

set_option maxHeartbeats 1000000 in
set_option maxRecDepth 100000 in
theorem eqFTe (cf:Te->Te->Bool) (S:Nat->Prop) (w:World) (xs ys:List (Te)) (v u:Value) (hx:RSl RTe 2 S w xs [v]) (hy:RSl RTe 2 S w ys [u]) (g:Nat) (lb:Array Value)
  (eg:∀ args w,(callFunc g args).run Tryz.prog w = .ok (.enter g args) w)
  (hp:∀ x∈xs,∀ y∈ys,∀ cs cs2 W,qad w W->RTe S W x cs->RTe S W y cs2->Calls Tryz.prog g (#[.agg cs.toArray,.agg cs2.toArray]++lb) W fun e w'=>e = .returned (.bool (cf x y))∧qad W w') :
  Calls Tryz.prog 23 #[v,u,.func (.func g) #[] lb] w fun e w'=>e = .returned (.bool (leq cf xs ys))∧qad w w':=by
 obtain ⟨A,c,rfl,hc,hc0⟩:=hx.val
 obtain ⟨A',c',rfl,hc',hc0'⟩:=hy.val
 have HX:=Hd hx
 have HY:=Hd hy
 have HP:=Hd hp
 clear hx hy hp
 by_cases hlen:xs.length=ys.length
 case neg =>
  have HL:=Hd (qh2 cf xs ys hlen)
  have hne:((xs.length:Int) != (ys.length:Int))=true:=bne_iff_ne.2 (by omega)
  clear hlen
  go_enter Tryz.func23,Tryz.ntmps23
  go_wp2_with fail
  go_ret
  exact ⟨by rw [HL.out];rfl,qad.refl _⟩
 have hne:((xs.length:Int) != (ys.length:Int))=false:=bne_eq_false_iff_eq.2 (by omega)
 have hle1:xs.length<=ys.length:=by omega
 have hle2:ys.length<=xs.length:=by omega
 have HLEN:=Hd hlen
 clear hlen
 go_enter Tryz.func23,Tryz.ntmps23
 go_wp2_with fail
 go_loopw [7,8,9,17] (fun _ _ _ i wr=>∃ k:Nat,k<=xs.length∧k<=ys.length∧i = .int .i64 k∧qad w wr∧Hid (leq cf xs ys=leq cf (xs.drop k) (ys.drop k))) (fun _ _ _ i _=>xs.length-(intOf i).toNat)
 case atStart=>exact ⟨0,Nat.zero_le _,Nat.zero_le _,rfl,qad.refl _,rfl⟩
 case round =>
  obtain ⟨k,hk,hk2,rfl,hE,hf⟩:=hrel
  by_cases hlt:k<xs.length
  ·obtain ⟨b,off,cs,rfl,hb,hS,hl,hr,hcell⟩:=((RSl.good RTe.good).ext HX.out hE).get k hlt
   have hlt2:k<ys.length:=by omega
   obtain ⟨b2,off2,cs2,rfl,hb2,hS2,hl2,hr2,hcell2⟩:=((RSl.good RTe.good).ext HY.out hE).get k hlt2
   have hcon:=fun W (hW:qad wr W)=>HP.out xs[k] (List.getElem_mem hlt) ys[k] (List.getElem_mem hlt2) cs cs2 W (hE.trans hW) (RTe.good.ext hr hW) (RTe.good.ext hr2 hW)
   obtain ⟨c0,c1,rfl⟩:∃ c0 c1,cs=[c0,c1]:=by
    match cs,hl with
    | [c0,c1],_=>exact ⟨c0,c1,rfl⟩
   have g0:=(by simpa using hcell.get 0 _:wr.cell? ⟨b,off+k*2,none⟩=some c0)
   have g1:=hcell.get 1 _
   obtain ⟨d0,d1,rfl⟩:∃ d0 d1,cs2=[d0,d1]:=by
    match cs2,hl2 with
    | [d0,d1],_=>exact ⟨d0,d1,rfl⟩
   have q0:=(by simpa using hcell2.get 0 _:wr.cell? ⟨b2,off2+k*2,none⟩=some d0)
   have q1:=hcell2.get 1 _
   have s0:=fun (W:World) (a:Addr) (m:Mode)=>run_store Tryz.prog W a c0 m (RTe.good.one hr c0 (by simp))
   have s1:=fun (W:World) (a:Addr) (m:Mode)=>run_store Tryz.prog W a c1 m (RTe.good.one hr c1 (by simp))
   have t0:=fun (W:World) (a:Addr) (m:Mode)=>run_store Tryz.prog W a d0 m (RTe.good.one hr2 d0 (by simp))
   have t1:=fun (W:World) (a:Addr) (m:Mode)=>run_store Tryz.prog W a d1 m (RTe.good.one hr2 d1 (by simp))
   rw [List.drop_eq_getElem_cons hlt,List.drop_eq_getElem_cons hlt2,leq] at hf
   clear hcell hcell2 hl hl2 hS hS2 hr hr2
   cases hq:cf xs[k] ys[k] with
   | true =>
    rw [hq] at hf hcon
    have Hf:=Hd hf
    clear hf hq
    go_wp2_with fail
    refine (hcon _ qaj).mono ?_
    rintro e w1 ⟨rfl,h1⟩
    go_wp2_with fail
    go_roundw
    case rel=>exact ⟨k+1,by omega,by omega,by go_num,qaj,by rw [Hf.out];exact Bool.true_and _⟩
    case measure=>simp [intOf];omega
   | false =>
    rw [hq] at hf hcon
    have Hf:=Hd hf
    clear hf hq
    go_wp2_with fail
    refine (hcon _ qaj).mono ?_
    rintro e w1 ⟨rfl,h1⟩
    go_wp2_with fail
    go_ret
    exact ⟨by rw [Hf.out];rfl,qaj⟩
  ·rw [List.drop_of_length_le (l:=xs) (by omega),List.drop_of_length_le (by omega),leq] at hf
   have Hf:=Hd hf
   clear hf
   go_wp2_with fail
   go_ret
   exact ⟨by rw [Hf.out];rfl,hE⟩
end
section
set_option maxHeartbeats 1000000
set_option maxRecDepth 100000
/- The law's words: labels,arcs,tests;what is the same: walked. -/
def qfu (a b:List Lb):Bool:=leq qa3 a b
theorem qos (S:Nat->Prop) (x y:List Lb) (vx vy:Value) (w:World) (hx:qaa S w x [vx]) (hy:qaa S w y [vy]) :
  Calls Tryz.prog 94 #[vx,vy] w fun e w'=>e = .returned (.bool (qfu x y))∧qad w w':=by
 obtain ⟨A,c,rfl,hc,hc0⟩:=hx.val
 obtain ⟨A',c',rfl,hc',hc0'⟩:=hy.val
 have HX:=Hd hx
 have HY:=Hd hy
 clear hx hy
 by_cases hlen:x.length=y.length
 case neg =>
  have HL:=Hd (qh2 qa3 x y hlen)
  have hne:((x.length:Int) != (y.length:Int))=true:=bne_iff_ne.2 (by omega)
  clear hlen
  go_enter Tryz.func94,Tryz.ntmps94
  go_wp2_with fail
  go_ret
  exact ⟨by rw [qfu,HL.out];rfl,qad.refl _⟩
 have hne:((x.length:Int) != (y.length:Int))=false:=bne_eq_false_iff_eq.2 (by omega)
 have HL:=Hd hlen
 clear hlen
 go_enter Tryz.func94,Tryz.ntmps94
 go_wp2_with fail
 go_loopw [5] (fun vi wr=>∃ k:Nat,k<=x.length∧vi = .int .i64 k∧qad w wr∧Hid (leq qa3 x y=leq qa3 (x.drop k) (y.drop k))) (fun vi _=>x.length-(intOf vi).toNat)
 case atStart=>exact ⟨0,Nat.zero_le _,rfl,qaj,rfl⟩
 case round =>
  obtain ⟨k,hk,rfl,hE,hst⟩:=hrel
  by_cases hlt:k<x.length
  ·have hlt':k<y.length:=by rw [<- HL.out];exact hlt
   obtain ⟨b,off,cs,rfl,hb,hs,hl,hr,hcell⟩:=(qaa.good.ext HX.out hE).get k hlt
   obtain ⟨b',off',cs',rfl,hb',hs',hl',hr',hcell'⟩:=(qaa.good.ext HY.out hE).get k hlt'
   have hcon:=fun W (hW:qad wr W)=>ql7 S x[k] y[k] _ _ W (RLb.good.ext hr hW) (RLb.good.ext hr' hW)
   obtain ⟨i1,v,rfl,hv⟩:=id hr
   obtain ⟨i1',v',rfl,hv'⟩:=id hr'
   obtain ⟨A2,c2,rfl,_,_⟩:=hv.val
   obtain ⟨A2',c2',rfl,_,_⟩:=hv'.val
   have g0:=hcell.get 0 _
   have g1:=hcell.get 1 _
   have g0':=hcell'.get 0 _
   have g1':=hcell'.get 1 _
   simp only [Nat.add_zero] at g0 g0'
   have hq:leq qa3 x y=(qa3 x[k] y[k] && leq qa3 (x.drop (k+1)) (y.drop (k+1))):=by
    rw [hst.out,List.drop_eq_getElem_cons hlt,List.drop_eq_getElem_cons hlt',leq]
   have z2:(k:Int)<(x.length:Int):=by omega
   have z3:(k:Int)<(y.length:Int):=by omega
   clear hcell hcell' hl hl' hs hs' hr hr' hv hv' hst
   cases hm:qa3 x[k] y[k] with
   | true =>
    rw [hm] at hcon hq
    rw [Bool.true_and] at hq
    have HQ:=Hd hq
    clear hm hq
    go_wp2_with fail
    go_region_held3 (fun W=>W.cell? ⟨b,off+k*2,none⟩=some (.int .i64 x[k].g)∧W.cell? ⟨b,off+k*2+1,none⟩=some (.slice A2 x[k].v.length c2)∧W.cell? ⟨b',off'+k*2,none⟩=some (.int .i64 y[k].g)∧W.cell? ⟨b',off'+k*2+1,none⟩=some (.slice A2' y[k].v.length c2'))
     (first | (refine ⟨?_,?_,?_,?_⟩ <;> go_simp <;> done) | exact hx1.k4 (by assumption) | exact ((qad.refl _).alloc _).k4 (by assumption))
     (first | (go_at_call 133;refine (hcon _ qaj).mono ?_;rintro e w1 ⟨rfl,hx1⟩))
    go_wp2_with fail
    go_roundw
    case rel=>exact ⟨k+1,by omega,by go_num,qaj,HQ.out⟩
    case measure=>simp [intOf];omega
   | false =>
    rw [hm] at hcon hq
    rw [Bool.false_and] at hq
    have HQ:=Hd hq
    clear hm hq
    go_wp2_with fail
    go_region_held3 (fun W=>W.cell? ⟨b,off+k*2,none⟩=some (.int .i64 x[k].g)∧W.cell? ⟨b,off+k*2+1,none⟩=some (.slice A2 x[k].v.length c2)∧W.cell? ⟨b',off'+k*2,none⟩=some (.int .i64 y[k].g)∧W.cell? ⟨b',off'+k*2+1,none⟩=some (.slice A2' y[k].v.length c2'))
     (first | (refine ⟨?_,?_,?_,?_⟩ <;> go_simp <;> done) | exact hx1.k4 (by assumption) | exact ((qad.refl _).alloc _).k4 (by assumption))
     (first | (go_at_call 133;refine (hcon _ qaj).mono ?_;rintro e w1 ⟨rfl,hx1⟩))
    go_wp2_with fail
    go_ret
    exact ⟨by rw [qfu,HQ.out];rfl,qaj⟩
  ·have hq:leq qa3 x y=true:=by rw [hst.out,List.drop_eq_nil_of_le (by omega),List.drop_eq_nil_of_le (by rw [<- HL.out];omega)];rfl
   have HQ:=Hd hq
   clear hst hq
   go_wp2_with fail
   go_ret
   exact ⟨by rw [qfu,HQ.out];rfl,hE⟩
theorem eg94:∀ args w,(callFunc 94 args).run Tryz.prog w = .ok (.enter 94 args) w:=enters_of Tryz.func94 (by kernel_rfl) rfl
def sameSs (a b:List (List Lb)):Bool:=leq qfu a b
theorem qsq (S:Nat->Prop) (x y:List (List Lb)) (vx vy:Value) (w:World) (hx:RSl qaa 1 S w x [vx]) (hy:RSl qaa 1 S w y [vy]) :
  Calls Tryz.prog 22 #[vx,vy] w fun e w'=>e = .returned (.bool (sameSs x y))∧qad w w':=by
 have hcon:=fun W (hW:qad w W)=>eqFLbs qfu S W x y vx vy ((RSl.good qaa.good).ext hx hW) ((RSl.good qaa.good).ext hy hW) 94 #[] eg94 (fun x _ y _ cs cs2 W' _ h1 h2=>by
  obtain ⟨A,c,rfl,_⟩:=id h1
  obtain ⟨A',c',rfl,_⟩:=id h2
  exact qos S x y _ _ W' h1 h2)
 obtain ⟨A,c,rfl,hc,hc0⟩:=hx.val
 obtain ⟨A',c',rfl,hc',hc0'⟩:=hy.val
 clear hx hy
 go_enter Tryz.func22,Tryz.ntmps22
 go_wp2_with fail
 refine (hcon _ qaj).mono ?_
 rintro e w1 ⟨rfl,hx1⟩
 go_wp2_with fail
 go_ret
 exact ⟨rfl,qaj⟩
def qiy (a b:Te):Bool:=qfu a.tr b.tr && qfu a.mu b.mu
theorem qr3 (S:Nat->Prop) (x y:Te) (cx cy:List Value) (w:World) (hx:RTe S w x cx) (hy:RTe S w y cy) :
  Calls Tryz.prog 24 #[.agg cx.toArray,.agg cy.toArray] w fun e w'=>e = .returned (.bool (qiy x y))∧qad w w':=by
 obtain ⟨v,u,rfl,hv,hu⟩:=hx
 obtain ⟨v',u',rfl,hv',hu'⟩:=hy
 have h1:=fun W (hW:qad w W)=>qos S x.tr y.tr v v' W (qaa.good.ext hv hW) (qaa.good.ext hv' hW)
 have h2:=fun W (hW:qad w W)=>qos S x.mu y.mu u u' W (qaa.good.ext hu hW) (qaa.good.ext hu' hW)
 obtain ⟨A,c,rfl,_,_⟩:=hv.val
 obtain ⟨A',c',rfl,_,_⟩:=hv'.val
 obtain ⟨B,d,rfl,_,_⟩:=hu.val
 obtain ⟨B',d',rfl,_,_⟩:=hu'.val
 clear hv hu hv' hu'
 have hq:qiy x y=(qfu x.tr y.tr && qfu x.mu y.mu):=rfl
 cases hm:qfu x.tr y.tr with
 | true =>
  rw [hm] at h1 hq
  rw [Bool.true_and] at hq
  have HQ:=Hd hq
  clear hm hq
  go_enter Tryz.func24,Tryz.ntmps24
  go_wp2_with fail
  refine (h1 _ qaj).mono ?_
  rintro e w1 ⟨rfl,hx1⟩
  have k0:w1.cell? ⟨w.heap.size,1,none⟩=some (.slice B x.mu.length d):=qad.keep hx1 (by go_simp)
  have k1:w1.cell? ⟨w.heap.size+1,1,none⟩=some (.slice B' y.mu.length d'):=qad.keep hx1 (by go_simp)
  have hX:qad w w1:=qaj
  go_wp2_with fail
  refine (h2 _ hX).mono ?_
  rintro e w2 ⟨rfl,hx2⟩
  go_wp2_with fail
  go_ret
  exact ⟨by rw [HQ.out];rfl,hX.trans hx2⟩
 | false =>
  rw [hm] at h1 hq
  rw [Bool.false_and] at hq
  have HQ:=Hd hq
  clear hm hq h2
  go_enter Tryz.func24,Tryz.ntmps24
  go_wp2_with fail
  refine (h1 _ qaj).mono ?_
  rintro e w1 ⟨rfl,hx1⟩
  go_wp2_with fail
  go_ret
  exact ⟨by rw [HQ.out];rfl,qaj⟩
theorem eg24:∀ args w,(callFunc 24 args).run Tryz.prog w = .ok (.enter 24 args) w:=enters_of Tryz.func24 (by kernel_rfl) rfl
theorem qul (S:Nat->Prop) (xs ys:List Te) (v u:Value) (w:World) (hx:RSl RTe 2 S w xs [v]) (hy:RSl RTe 2 S w ys [u]) :
  Calls Tryz.prog 23 #[v,u,.func (.func 24) #[] #[]] w fun e w'=>e = .returned (.bool (leq qiy xs ys))∧qad w w' :=
 eqFTe qiy S w xs ys v u hx hy 24 #[] eg24 fun x _ y _ cs cs2 W _ h1 h2=>qr3 S x y cs cs2 W h1 h2
end
end Go.Proofs.YtegenalcheooeaaGreat
