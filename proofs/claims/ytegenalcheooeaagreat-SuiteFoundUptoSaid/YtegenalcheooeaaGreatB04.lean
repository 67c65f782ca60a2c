/- Of the proof of a law of the suites: LibILb, Lts1, Lts2. -/
import Derived.Test.YtegenalcheooeaaGreatB02
import Derived.Test.YtegenalcheooeaaGreatB03
set_option linter.unusedSectionVars false
set_option linter.unusedSimpArgs false
set_option linter.unusedVariables false
namespace Go.Proofs.YtegenalcheooeaaGreat
open Go.RowKit
attribute [local go_sem] cell?_exto
section
set_option maxHeartbeats 1000000
set_option maxRecDepth 100000
/- slices.IndexFunc and ContainsFunc at each element type of the program: what they come to,whatever function value they are given. -/
theorem idxFLb {σ:Type} (J:σ->World->Prop) (step:σ->Lb->Bool×σ) (S:Nat->Prop) (w:World) (xs:List (Lb)) (v:Value) (hx:RSl RLb 2 S w xs [v]) (g:Nat) (lb:Array Value)
  (eg:∀ args w,(callFunc g args).run Tryz.prog w = .ok (.enter g args) w) (hJ:∀ s W,J s W->Kp S w W)
  (hp:∀ x∈xs,∀ s cs W,J s W->RLb S W x cs->Calls Tryz.prog g (#[.agg cs.toArray]++lb) W fun e w'=>e = .returned (.bool (step s x).1)∧J (step s x).2 w') (s0:σ) (h0:J s0 w) :
  Calls Tryz.prog 105 #[v,.func (.func g) #[] lb] w fun e w'=>e = .returned (.int .i64 (qaq step s0 xs).1)∧J (qaq step s0 xs).2 w':=by
 obtain ⟨A,c,rfl,hc,hc0⟩:=hx.val
 have HX:=Hd hx
 have HP:=Hd hp
 have HJ:=Hd hJ
 clear hx hp hJ
 go_enter Tryz.func105,Tryz.ntmps105
 go_wp2
 go_loopw [5,8] (fun _ i wr=>∃ k:Nat,k<=xs.length∧i = .int .i64 k∧Hid (∃ s,J s wr∧qaq step s0 xs=((qaq step s (xs.drop k)).1+(if (qaq step s (xs.drop k)).1<0 then 0 else (k:Int)),(qaq step s (xs.drop k)).2))) (fun _ i _=>xs.length-(intOf i).toNat)
 case atStart=>exact ⟨0,Nat.zero_le _,rfl,s0,h0,by simp⟩
 case round =>
  obtain ⟨k,hk,rfl,s,hs,hf⟩:=hrel
  by_cases hlt:k<xs.length
  ·obtain ⟨b,off,cs,rfl,hb,hS,hl,hr,hcell⟩:=((RSl.good RLb.good).move HX.out (HJ.out _ _ hs)).get k hlt
   have hcon:=HP.out xs[k] (List.getElem_mem hlt) s cs wr hs hr
   obtain ⟨c0,c1,rfl⟩:∃ c0 c1,cs=[c0,c1]:=by
    match cs,hl with
    | [c0,c1],_=>exact ⟨c0,c1,rfl⟩
   have g0:=(by simpa using hcell.get 0 _:wr.cell? ⟨b,off+k*2,none⟩=some c0)
   have g1:=hcell.get 1 _
   rw [List.drop_eq_getElem_cons hlt,qaq] at hf
   clear hcell hl hS hr
   cases hq:(step s xs[k]).1 with
   | true =>
    rw [hq] at hcon hf
    have Hf:=Hd hf
    clear hf
    go_wp2_with fail
    refine hcon.mono ?_
    rintro e w' ⟨rfl,hs'⟩
    go_wp2_with fail
    go_ret
    rw [Hf.out]
    exact ⟨by simp,hs'⟩
   | false =>
    rw [hq] at hcon hf
    have Hf:=Hd hf
    clear hf
    go_wp2_with fail
    refine hcon.mono ?_
    rintro e w' ⟨rfl,hs'⟩
    go_wp2_with fail
    go_roundw
    case rel =>
     refine ⟨k+1,by omega,by go_num,_,hs',?_⟩
     rw [Hf.out]
     exact qiq _ _
    case measure=>simp [intOf];omega
  ·have hd:xs.drop k=[]:=List.drop_of_length_le (by omega)
   rw [hd,qaq] at hf
   have Hf:=Hd hf
   clear hf
   go_wp2
   go_ret
   rw [Hf.out]
   exact ⟨by simp,hs⟩
theorem conFLb {σ:Type} (J:σ->World->Prop) (step:σ->Lb->Bool×σ) (S:Nat->Prop) (w:World) (xs:List (Lb)) (v:Value) (hx:RSl RLb 2 S w xs [v]) (g:Nat) (lb:Array Value)
  (eg:∀ args w,(callFunc g args).run Tryz.prog w = .ok (.enter g args) w) (hJ:∀ s W,J s W->Kp S w W)
  (hp:∀ x∈xs,∀ s cs W,J s W->RLb S W x cs->Calls Tryz.prog g (#[.agg cs.toArray]++lb) W fun e w'=>e = .returned (.bool (step s x).1)∧J (step s x).2 w') (s0:σ) (h0:J s0 w) :
  Calls Tryz.prog 34 #[v,.func (.func g) #[] lb] w fun e w'=>e = .returned (.bool (qcp step s0 xs).1)∧J (qcp step s0 xs).2 w':=by
 obtain ⟨A,c,rfl,hc,hc0⟩:=hx.val
 have hcon:=idxFLb J step S w xs _ hx g lb eg hJ hp s0 h0
 rw [qho]
 clear hx hp hJ
 go_enter Tryz.func34,Tryz.ntmps34
 go_wp2_with fail
 refine hcon.mono ?_
 rintro e w' ⟨rfl,hs'⟩
 go_wp2_with fail
 all_goals go_ret
 all_goals exact ⟨by simp,hs'⟩
theorem conPLb (p:Lb->Bool) (S:Nat->Prop) (w:World) (xs:List (Lb)) (v:Value) (hx:RSl RLb 2 S w xs [v]) (g:Nat) (lb:Array Value)
  (eg:∀ args w,(callFunc g args).run Tryz.prog w = .ok (.enter g args) w)
  (hp:∀ x∈xs,∀ cs W,Ext w W->RLb S W x cs->Calls Tryz.prog g (#[.agg cs.toArray]++lb) W fun e w'=>e = .returned (.bool (p x))∧Ext W w') :
  Calls Tryz.prog 34 #[v,.func (.func g) #[] lb] w fun e w'=>e = .returned (.bool (xs.any p))∧Ext w w' :=
 (conFLb (fun (_:Unit) W=>Ext w W) (fun s x=>(p x,s)) S w xs v hx g lb eg (fun _ _ h=>Ext.kp h) (fun x hx s cs W hW hr=>(hp x hx cs W hW hr).mono fun e w' ⟨he,hb⟩=>⟨he,hW.trans' hb⟩) () (Ext.refl w)).mono
  fun e w' ⟨he,hb⟩=>⟨by rw [he,qid],hb⟩
end
section
set_option maxHeartbeats 1000000
set_option maxRecDepth 100000
/- What a label is: sizes of terms,values,lts.CheckLabel. -/
mutual
def qcd:Tm->Int->Int×Int->Int×Int
 | .mk _ _ l,d,s=>qd2 l d (s.1+1,if s.2<d then d else s.2)
def qd2:List Tm->Int->Int×Int->Int×Int
 | [],_,s=>s
 | x :: xs,d,s=>if s.1 > 2000∨s.2 > 200 then s else qd2 xs d (qcd x (d+1) s)
end
theorem qqq (t:Tm) (d:Int) (s:Int×Int):qcd t d s=qd2 t.l d (s.1+1,if s.2<d then d else s.2):=by cases t;rw [qcd];rfl
mutual
theorem qpw:∀ (t:Tm) (d:Int) (s:Int×Int) (m:Int),m<=s.2->m<=(qcd t d s).2
 | .mk _ _ l,d,s,m,h=>by
  rw [qcd]
  refine qq8 l d _ m ?_
  simp only []
  split <;> omega
theorem qq8:∀ (l:List Tm) (d:Int) (s:Int×Int) (m:Int),m<=s.2->m<=(qd2 l d s).2
 | [],d,s,m,h=>by rw [qd2];exact h
 | x :: xs,d,s,m,h=>by
  rw [qd2]
  split
  ·exact h
  ·exact qq8 xs d _ m (qpw x _ _ _ h)
end
def qdd (W:World) (B:Nat) (s:Int×Int):Prop:=W.heap[B]? = some (.cells #[.int .i64 s.1,.int .i64 s.2] 281 (0,0))
def CntC (t:Tm):Prop:=∀ (S:Nat->Prop) (B:Nat) (cs:List Value) (d:Int) (s:Int×Int) (W:World),RTm S W t cs->¬ S B->qdd W B s->0<=s.1->s.1<=2000->0<=s.2->s.2<=200->1<=d->d<=201 ->
  Calls Tryz.prog 264 #[.pointer (some ⟨B,0,none⟩),.agg cs.toArray,.int .i64 d] W fun e w'=>e = .returned (.tuple #[])∧qdd w' B (qcd t d s)∧Bt (· = B) W w'∧0<=(qcd t d s).1∧(qcd t d s).1<=2001∧0<=(qcd t d s).2∧(qcd t d s).2<=201
theorem qdd.cells {W:World} {B:Nat} {s:Int×Int} (h:qdd W B s):W.cell? ⟨B,0,none⟩=some (.int .i64 s.1)∧W.cell? ⟨B,1,none⟩=some (.int .i64 s.2)∧W.frozen? ⟨B,0,none⟩=false∧W.frozen? ⟨B,1,none⟩=false∧B<W.heap.size:=by
 refine ⟨?_,?_,?_,?_,(Array.getElem?_eq_some_iff.1 h).1⟩ <;> simp only [World.cell?,World.frozen?] <;> rw [h] <;> simp
theorem qdd.set0 {W:World} {B:Nat} {s:Int×Int} (h:qdd W B s) (n:Int):qdd (W.setCell ⟨B,0,none⟩ (.int .i64 n)) B (n,s.2):=by
 unfold qdd at *
 simp only [World.setCell,Array.getElem?_modify,h]
 simp
theorem qdd.set1 {W:World} {B:Nat} {s:Int×Int} (h:qdd W B s) (n:Int):qdd (W.setCell ⟨B,1,none⟩ (.int .i64 n)) B (s.1,n):=by
 unfold qdd at *
 simp only [World.setCell,Array.getElem?_modify,h]
 simp
theorem qdd.ext {W w':World} {B:Nat} {s:Int×Int} (h:qdd W B s) (he:Ext W w'):qdd w' B s:=(he.block B h.cells.2.2.2.2).trans h
theorem count_of (t:Tm) (ht:∀ x∈t.l,CntC x):CntC t:=by
 intro S B cs d s w hx hSB hM h1 h2 h3 h4 h5 h6
 obtain ⟨_,_,v,rfl,hv⟩:=(qaz ..).1 hx
 obtain ⟨A,c,rfl,hc,hc0⟩:=hv.val
 obtain ⟨m0,m1,f0,f1,hB⟩:=hM.cells
 have hv':qam (fun k=>S k∧k≠B) w t.l [.slice A t.l.length c]:=qam.good.mono hv (fun b _ hs=>⟨hs,fun e=>hSB (e ▸ hs)⟩)
 have HV:=Hd hv'
 clear hv hv' hx
 have HT:=Hd ht
 have HM:=Hd hM
 clear ht hM
 have hstep:∀ s':Int×Int,∀ x∈t.l,s'.1<=2000->s'.2<=200->True:=fun _ _ _ _ _=>trivial
 clear hstep
 by_cases hd:s.2<d
 all_goals go_enter Tryz.func264,Tryz.ntmps264
 all_goals go_wp2
 all_goals go_loopw [7,27] (fun _ i wr=>∃ k:Nat,k<=t.l.length∧i = .int .i64 k∧Hid (∃ s':Int×Int,qdd wr B s'∧Bt (· = B) w wr∧0<=s'.1∧s'.1<=2001∧d<=s'.2∧s'.2<=201∧qcd t d s=qd2 (t.l.drop k) d s')) (fun _ i _=>t.l.length-(intOf i).toNat)
 case atStart =>
  refine ⟨0,Nat.zero_le _,rfl,(s.1+1,d),((HM.out.set0 (s.1+1)).set1 d).ext ((Ext.refl _).alloc _),btt,?_⟩
  exact ⟨by simp only [];omega,by simp only [];omega,by simp only [];omega,by simp only [];omega,by rw [qqq,if_pos hd];rfl⟩
 case atStart =>
  refine ⟨0,Nat.zero_le _,rfl,(s.1+1,s.2),((HM.out.set0 (s.1+1)).set1 s.2).ext ((Ext.refl _).alloc _),btt,?_⟩
  exact ⟨by simp only [];omega,by simp only [];omega,by simp only [];omega,by simp only [];omega,by rw [qqq,if_neg (by omega)];rfl⟩
 all_goals
  obtain ⟨k,hk,rfl,s',hM,hbt,b1,b2,b3,b4,he⟩:=hrel
  obtain ⟨m0,m1,f0,f1,hB⟩:=hM.cells
  by_cases hlt:k<t.l.length
  ·obtain ⟨b,off,cs,rfl,hb,hS,hl,hr,hcell⟩:=(qam.good.move HV.out (hbt.kp fun k _ h=>h.2)).get k hlt
   have hbB:b≠B:=hS.2
   have hcon:=HT.out t.l[k] (List.getElem_mem hlt) (fun k=>S k∧k≠B) B cs (d+1) s'
   obtain ⟨_,_,v2,rfl,hv2⟩:=(qaz ..).1 hr
   obtain ⟨A2,c2,rfl,_,_⟩:=hv2.val
   have g0:=hcell.get 0 _
   have g1:=hcell.get 1 _
   have g2:=hcell.get 2 _
   simp only [Nat.add_zero] at g0
   rw [List.drop_eq_getElem_cons hlt,qd2] at he
   have HE:=Hd he
   clear he hcell hl hS
   by_cases ho:s'.1 > 2000∨s'.2 > 200
   ·rw [if_pos ho] at HE
    by_cases h0:s'.1 > 2000
    ·clear hcon ho
     go_wp2
     refine bodyPost_ret (results_none rfl _ _ _) rfl ⟨rfl,?_⟩
     rw [HE.out]
     exact ⟨hM.ext bel,btt,b1,b2,by omega,b4⟩
    ·have h0':s'.2 > 200:=by omega
     clear hcon ho
     go_wp2
     refine bodyPost_ret (results_none rfl _ _ _) rfl ⟨rfl,?_⟩
     rw [HE.out]
     exact ⟨hM.ext bel,btt,b1,b2,by omega,b4⟩
   ·rw [if_neg ho] at HE
    have h0:s'.1<=2000:=by omega
    have h0':s'.2<=200:=by omega
    clear ho
    go_wp2_with fail
    refine (hcon _ (RTm.good.bel hr bel) (fun h=>h.2 rfl) (hM.ext bel) b1 h0 (by omega) h0' (by omega) (by omega)).mono ?_
    rintro e w1 ⟨rfl,hM1,hbt1,q1,q2,q3,q4⟩
    go_wp2_with fail
    go_roundw
    case rel=>exact ⟨k+1,by omega,by go_num,_,hM1,btt,q1,q2,qpw _ _ _ _ (by omega),q4,HE.out⟩
    case measure=>simp [intOf];omega
  ·rw [List.drop_of_length_le (by omega),qd2] at he
   have HE:=Hd he
   clear he
   go_wp2
   refine bodyPost_end (results_none rfl _ _ _) rfl ⟨rfl,?_⟩
   rw [HE.out]
   exact ⟨hM,hbt,b1,b2,by omega,b4⟩
theorem count_c:∀ t,CntC t:=Tm.ind count_of
theorem over_c (B:Nat) (s:Int×Int) (w:World) (hM:qdd w B s):Calls Tryz.prog 265 #[.pointer (some ⟨B,0,none⟩)] w fun e w'=>e = .returned (.bool (decide (s.1 > 2000∨s.2 > 200)))∧w'=w:=by
 obtain ⟨m0,m1,f0,f1,hB⟩:=hM.cells
 clear hM
 by_cases h:s.1 > 2000
 ·go_enter Tryz.func265,Tryz.ntmps265
  go_wp2
  go_ret
  exact ⟨by simp [h],rfl⟩
 ·go_enter Tryz.func265,Tryz.ntmps265
  go_wp2
  go_ret
  exact ⟨by simp;omega,rfl⟩
def qgt (t:Tm):Int×Int:=if (qcd t 1 (0,0)).1 > 2000∨(qcd t 1 (0,0)).2 > 200 then (2001,201) else qcd t 1 (0,0)
theorem qdd.new (W:World):qdd (W.alloc (.cells #[.int .i64 0,.int .i64 0] 281)) W.heap.size (0,0):=Array.getElem?_push_size
theorem Size_c (S:Nat->Prop) (t:Tm) (cs:List Value) (w:World) (hx:RTm S w t cs) :
  Calls Tryz.prog 227 #[.agg cs.toArray] w fun e w'=>e = .returned (.tuple #[.int .i64 (qgt t).1,.int .i64 (qgt t).2])∧Ext w w':=by
 have hx0:=hx
 obtain ⟨_,_,v,rfl,hv⟩:=(qaz ..).1 hx
 obtain ⟨A,c,rfl,hc,hc0⟩:=hv.val
 have hx1:RTm (fun k=>k<w.heap.size) w t [.int .i64 t.k,.int .i64 t.n,.slice A t.l.length c]:=RTm.good.mono hx0 (fun b hb _=>hb)
 have HX:=Hd hx1
 have hN:=qdd.new (w.alloc (.cells #[.int .i64 t.k,.int .i64 t.n,.slice A t.l.length c] 159))
 rw [World.size_alloc] at hN
 have HN:=Hd hN
 clear hx hx0 hx1 hv hN
 go_enter Tryz.func227,Tryz.ntmps227
 go_wp2_with fail
 refine (count_c t (fun k=>k<w.heap.size) (w.heap.size+1) _ 1 (0,0) _ (RTm.good.bel HX.out bel) (by omega) HN.out (by decide) (by decide) (by decide) (by decide) (by decide) (by decide)).mono ?_
 rintro e w1 ⟨rfl,hM,hbt,q1,q2,q3,q4⟩
 have hE:Ext w w1:=Bt.new (((Ext.refl w).alloc _).alloc _) hbt (by rintro i _ rfl;omega)
 obtain ⟨m0,m1,f0,f1,hB⟩:=hM.cells
 have HM:=Hd hM
 clear hM
 by_cases ho:(qcd t 1 (0,0)).1 > 2000∨(qcd t 1 (0,0)).2 > 200
 ·have hov:=over_c _ _ _ HM.out
  rw [decide_eq_true ho] at hov
  have HZ:Hid (qgt t=(2001,201)):=if_pos ho
  clear ho
  go_wp2_with fail
  refine hov.mono ?_
  rintro e w2 ⟨rfl,rfl⟩
  go_wp2_with fail
  go_ret2
  exact ⟨by rw [HZ.out];rfl,hE⟩
 ·have hov:=over_c _ _ _ HM.out
  rw [decide_eq_false ho] at hov
  have HZ:Hid (qgt t=qcd t 1 (0,0)):=if_neg ho
  clear ho
  go_wp2_with fail
  refine hov.mono ?_
  rintro e w2 ⟨rfl,rfl⟩
  go_wp2_with fail
  go_region
  all_goals go_wp2
  all_goals go_ret2
  all_goals exact ⟨by rw [HZ.out];rfl,bel⟩
end
section
set_option maxHeartbeats 1000000
set_option maxRecDepth 100000
/- What a label is: values,lts.CheckLabel,suite.shown,isSet,isTrace. -/
mutual
def qbc:Tm->Bool
 | .mk k n l=>decide (k=2) && decide (0<=n) && decide (n<256) && decide (l.length<=8) && qdb l
def qdb:List Tm->Bool
 | []=>true
 | x :: xs=>qbc x && qdb xs
end
theorem qi5:∀ l:List Tm,qdb l = !(l.any fun x=>!qbc x)
 | []=>rfl
 | x :: xs=>by rw [qdb,List.any_cons,qi5 xs];simp
theorem allV_eq (t:Tm):qbc t=(decide (t.k=2) && decide (0<=t.n) && decide (t.n<256) && decide (t.l.length<=8) && !(t.l.any fun x=>!qbc x)):=by
 cases t with
 | mk k n l=>rw [qbc,qi5];rfl
theorem eg229:∀ args w,(callFunc 229 args).run Tryz.prog w = .ok (.enter 229 args) w:=enters_of Tryz.func229 (by kernel_rfl) rfl
def AllC (t:Tm):Prop:=∀ (S:Nat->Prop) (B:Nat) (cs:List Value) (W:World),RTm S W t cs->W.cell? ⟨B,0,none⟩=some (.func (.func 228) #[] #[.pointer (some ⟨B,0,none⟩)]) ->
  Calls Tryz.prog 228 #[.agg cs.toArray,.pointer (some ⟨B,0,none⟩)] W fun e w'=>e = .returned (.bool (qbc t))∧Ext W w'
theorem all1_of (t:Tm) (ht:AllC t) (S:Nat->Prop) (B:Nat) (cs:List Value) (W:World) (hx:RTm S W t cs) (hB:W.cell? ⟨B,0,none⟩=some (.func (.func 228) #[] #[.pointer (some ⟨B,0,none⟩)])) :
  Calls Tryz.prog 229 #[.agg cs.toArray,.pointer (some ⟨B,0,none⟩)] W fun e w'=>e = .returned (.bool (!qbc t))∧Ext W w':=by
 have hcon:=fun W' h1 h2=>ht S B cs W' h1 h2
 obtain ⟨_,_,v,rfl,hv⟩:=(qaz ..).1 hx
 have HX:=Hd hx
 clear hx
 have hB0:=World.block_lt_of_cell? W _ hB
 go_enter Tryz.func229,Tryz.ntmps229
 go_wp2_with fail
 refine (hcon _ (RTm.good.bel HX.out bel) (by go_simp)).mono ?_
 rintro e w1 ⟨rfl,h1⟩
 go_wp2_with fail
 go_ret
 exact ⟨rfl,bel⟩
theorem all_of (t:Tm) (ht:∀ x∈t.l,AllC x):AllC t:=by
 intro S B cs w hx hB
 have hB0:=World.block_lt_of_cell? w _ hB
 obtain ⟨_,_,v,rfl,hv⟩:=(qaz ..).1 hx
 have hcon:=fun W (hb:Ext w W) (hc:W.cell? ⟨B,0,none⟩=some (.func (.func 228) #[] #[.pointer (some ⟨B,0,none⟩)]))=>conPTm (fun x=>!qbc x) S W t.l v (qam.good.bel hv hb) 229 #[.pointer (some ⟨B,0,none⟩)] eg229
  (fun x hx cs W' hW hr=>all1_of x (ht x hx) S B cs W' hr ((hW.cell (World.block_lt_of_cell? W _ hc)).trans hc))
 obtain ⟨A,c,rfl,hc,hc0⟩:=hv.val
 have HA:=Hd (allV_eq t)
 clear ht hx hv
 go_enter Tryz.func228,Tryz.ntmps228
 go_wp2_with fail
 case isTrue =>
  refine (hcon _ bel (by go_simp)).mono ?_
  rintro e w1 ⟨rfl,h1⟩
  go_wp2_with fail
  go_ret
  exact ⟨by rw [HA.out];simp [*];omega,bel⟩
 all_goals go_ret
 all_goals exact ⟨by rw [HA.out];simp;omega,bel⟩
theorem all_c:∀ t,AllC t:=Tm.ind all_of
def isV (t:Tm):Bool:=decide ((qgt t).1<=2000) && qbc t
theorem isValue_c (S:Nat->Prop) (t:Tm) (cs:List Value) (w:World) (hx:RTm S w t cs) :
  Calls Tryz.prog 163 #[.agg cs.toArray] w fun e w'=>e = .returned (.bool (isV t))∧Ext w w':=by
 have hcon:=fun W h=>Size_c S t cs W h
 have hcon2:=fun B W h1 h2=>all_c t S B cs W h1 h2
 obtain ⟨_,_,v,rfl,hv⟩:=(qaz ..).1 hx
 have HX:=Hd hx
 clear hx hv
 go_enter Tryz.func163,Tryz.ntmps163
 go_wp2_with fail
 refine (hcon _ (RTm.good.bel HX.out bel)).mono ?_
 rintro e w1 ⟨rfl,h1⟩
 have hc1:=h1.cells
 have hz:w.heap.size<w1.heap.size:=by have:=h1.size;simp at this;omega
 by_cases hs:(qgt t).1<=2000
 ·have HI:Hid (isV t=qbc t):=by unfold isV;rw [decide_eq_true hs,Bool.true_and];exact rfl
  go_wp2_with fail
  refine (hcon2 _ _ (RTm.good.bel HX.out bel) (by go_simp)).mono ?_
  rintro e w2 ⟨rfl,h2⟩
  go_wp2_with fail
  go_ret
  exact ⟨by rw [HI.out];rfl,bel⟩
 ·have HI:Hid (isV t=false):=by unfold isV;rw [decide_eq_false hs,Bool.false_and];exact rfl
  go_wp2_with fail
  go_ret
  exact ⟨by rw [HI.out];rfl,bel⟩
def qax (x:Lb):Bool:=!(decide (x.g < -3) || decide (32<=x.g) || decide (8<x.v.length) || ((decide (x.g = -3) || decide (x.g = -1)) && decide (0<x.v.length)) || x.v.any fun t=>!isV t)
theorem eg162:∀ args w,(callFunc 162 args).run Tryz.prog w = .ok (.enter 162 args) w:=enters_of Tryz.func162 (by kernel_rfl) rfl
theorem qtg (S:Nat->Prop) (t:Tm) (cs:List Value) (w:World) (hx:RTm S w t cs) :
  Calls Tryz.prog 162 #[.agg cs.toArray] w fun e w'=>e = .returned (.bool (!isV t))∧Ext w w':=by
 have hcon:=fun W h=>isValue_c S t cs W h
 obtain ⟨_,_,v,rfl,hv⟩:=(qaz ..).1 hx
 have HX:=Hd hx
 clear hx hv
 go_enter Tryz.func162,Tryz.ntmps162
 go_wp2_with fail
 refine (hcon _ (RTm.good.bel HX.out bel)).mono ?_
 rintro e w1 ⟨rfl,h1⟩
 go_wp2_with fail
 go_ret
 exact ⟨rfl,bel⟩
def qc7 (x:Lb):Int:=if qax x then 0 else 170
theorem qmu (S:Nat->Prop) (x:Lb) (cs:List Value) (w:World) (hx:RLb S w x cs) :
  Calls Tryz.prog 96 #[.agg cs.toArray] w fun e w'=>e = .returned (.int .i64 (qc7 x))∧Ext w w':=by
 obtain ⟨_,v,rfl,hv⟩:=hx
 have hcon:=fun W (hb:Ext w W)=>conPTm (fun x=>!isV x) S W x.v v (qam.good.bel hv hb) 162 #[] eg162 (fun x hx cs W' hW hr=>qtg S x cs W' hr)
 obtain ⟨A,c,rfl,hc,hc0⟩:=hv.val
 clear hv
 obtain ⟨g,l⟩:=x
 simp only [] at *
 by_cases h1:g < -3∨32<=g∨8<l.length
 ·have HA:=Hd (show qc7 ⟨g,l⟩=170 from by unfold qc7 qax;rcases h1 with h | h | h <;> simp [h])
  clear hcon
  have h3:¬ g < -3->¬ 32<=g->8<(l.length:Int):=by omega
  go_enter Tryz.func96,Tryz.ntmps96
  go_wp2_with fail
  all_goals (try (exfalso;omega))
  all_goals go_ret
  all_goals exact ⟨by (first | rw [HA.out] | (subst_vars;rw [HA.out]));rfl,bel⟩
 ·have h2 : -3<=g∧g<32∧(l.length:Int)<=8:=by omega
  obtain ⟨h2,h3,h4⟩:=h2
  clear h1
  by_cases hb:g = -3∨g = -1
  ·by_cases h0:0<l.length
   ·have HA:=Hd (show qc7 ⟨g,l⟩=170 from by unfold qc7 qax;rcases hb with h | h <;> simp [h,h0])
    clear hcon
    have h0':0<(l.length:Int):=by omega
    rcases hb with rfl | rfl
    all_goals go_enter Tryz.func96,Tryz.ntmps96
    all_goals go_wp2_with fail
    all_goals go_ret
    all_goals exact ⟨by rw [HA.out];rfl,bel⟩
   ·obtain rfl:l=[]:=List.eq_nil_of_length_eq_zero (by omega)
    have HA:Hid (qc7 ⟨g,[]⟩=0):=by unfold qc7 qax;rw [if_pos (by simp;omega)];rfl
    rcases hb with rfl | rfl
    all_goals go_enter Tryz.func96,Tryz.ntmps96
    all_goals go_wp2_with fail
    all_goals refine (hcon _ bel).mono ?_
    all_goals rintro e w1 ⟨rfl,h1⟩
    all_goals go_wp2_with fail
    all_goals go_ret
    all_goals exact ⟨by rw [HA.out];rfl,bel⟩
  ·have hb1:(g == -3)=false:=by simp;omega
   have hb2:(g == -1)=false:=by simp;omega
   have hb3:¬ g = -3:=by omega
   have hb4:¬ g = -1:=by omega
   cases ha:l.any fun t=>!isV t with
   | true =>
    have HA:Hid (qc7 ⟨g,l⟩=170):=by unfold qc7 qax;rw [if_neg (by simp [ha])];rfl
    rw [ha] at hcon
    clear ha hb
    go_enter Tryz.func96,Tryz.ntmps96
    go_wp2_with fail
    refine (hcon _ bel).mono ?_
    rintro e w1 ⟨rfl,h1⟩
    go_wp2_with fail
    go_ret
    exact ⟨by rw [HA.out];rfl,bel⟩
   | false =>
    have HA:Hid (qc7 ⟨g,l⟩=0):=by unfold qc7 qax;rw [if_pos (by simp only [ha,hb3,hb4];simp;omega)];rfl
    rw [ha] at hcon
    clear ha hb
    go_enter Tryz.func96,Tryz.ntmps96
    go_wp2_with fail
    refine (hcon _ bel).mono ?_
    rintro e w1 ⟨rfl,h1⟩
    go_wp2_with fail
    go_ret
    exact ⟨by rw [HA.out];rfl,bel⟩
end
end Go.Proofs.YtegenalcheooeaaGreat
