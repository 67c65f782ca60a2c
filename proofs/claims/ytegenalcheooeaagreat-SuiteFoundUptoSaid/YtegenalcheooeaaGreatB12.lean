/- Of the proof of a law of the suites: LibCLb, Sets, Compact, RangeG, Walk. -/
import Derived.Test.YtegenalcheooeaaGreatB02
import Derived.Test.YtegenalcheooeaaGreatB03
import Derived.Test.YtegenalcheooeaaGreatB08
import Derived.Test.YtegenalcheooeaaGreatB10
import Derived.Test.YtegenalcheooeaaGreatB11
import Derived.Lib.SliceRun
set_option linter.unusedSectionVars false
set_option linter.unusedSimpArgs false
set_option linter.unusedVariables false
namespace Go.Proofs.YtegenalcheooeaaGreat
open Go.RowKit
attribute [local go_sem] cell?_exto
section

set_option maxHeartbeats 1000000 in
set_option maxRecDepth 100000 in
theorem cmpFLb (cf:Lb->Lb->Int) (S:Nat->Prop) (w:World) (xs ys:List (Lb)) (v u:Value) (hx:RSl RLb 2 S w xs [v]) (hy:RSl RLb 2 S w ys [u]) (g:Nat) (lb:Array Value)
  (eg:∀ args w,(callFunc g args).run Tryz.prog w = .ok (.enter g args) w)
  (hp:∀ x∈xs,∀ y∈ys,∀ cs cs2 W,qad w W->RLb S W x cs->RLb S W y cs2->Calls Tryz.prog g (#[.agg cs.toArray,.agg cs2.toArray]++lb) W fun e w'=>e = .returned (.int .i64 (cf x y))∧qad W w') :
  Calls Tryz.prog 210 #[v,u,.func (.func g) #[] lb] w fun e w'=>e = .returned (.int .i64 (qa2 cf xs ys))∧qad w w':=by
 obtain ⟨A,c,rfl,hc,hc0⟩:=hx.val
 obtain ⟨A',c',rfl,hc',hc0'⟩:=hy.val
 have HX:=Hd hx
 have HY:=Hd hy
 have HP:=Hd hp
 clear hx hy hp
 go_enter Tryz.func210,Tryz.ntmps210
 go_wp2_with fail
 go_loopw [7,8,9,10,13] (fun _ _ _ _ i wr=>∃ k:Nat,k<=xs.length∧k<=ys.length∧i = .int .i64 k∧qad w wr∧Hid (qa2 cf xs ys=qa2 cf (xs.drop k) (ys.drop k))) (fun _ _ _ _ i _=>xs.length-(intOf i).toNat)
 case atStart=>exact ⟨0,Nat.zero_le _,Nat.zero_le _,rfl,qad.refl _,rfl⟩
 case round =>
  obtain ⟨k,hk,hk2,rfl,hE,hf⟩:=hrel
  by_cases hlt:k<xs.length
  ·obtain ⟨b,off,cs,rfl,hb,hS,hl,hr,hcell⟩:=((RSl.good RLb.good).ext HX.out hE).get k hlt
   by_cases hlt2:k<ys.length
   ·obtain ⟨b2,off2,cs2,rfl,hb2,hS2,hl2,hr2,hcell2⟩:=((RSl.good RLb.good).ext HY.out hE).get k hlt2
    have hcon:=fun W (hW:qad wr W)=>HP.out xs[k] (List.getElem_mem hlt) ys[k] (List.getElem_mem hlt2) cs cs2 W (hE.trans hW) (RLb.good.ext hr hW) (RLb.good.ext hr2 hW)
    obtain ⟨c0,c1,rfl⟩:∃ c0 c1,cs=[c0,c1]:=by
     match cs,hl with
     | [c0,c1],_=>exact ⟨c0,c1,rfl⟩
    have g0:=(by simpa using hcell.get 0 _:wr.cell? ⟨b,off+k*2,none⟩=some c0)
    have g1:=hcell.get 1 _
    obtain ⟨d0,d1,rfl⟩:∃ d0 d1,cs2=[d0,d1]:=by
     match cs2,hl2 with
     | [d0,d1],_=>exact ⟨d0,d1,rfl⟩
    have q0:=(by simpa using hcell2.get 0 _:wr.cell? ⟨b2,off2+k*2,none⟩=some d0)
    have q1:=hcell2.get 1 _
    have s0:=fun (W:World) (a:Addr) (m:Mode)=>run_store Tryz.prog W a c0 m (RLb.good.one hr c0 (by simp))
    have s1:=fun (W:World) (a:Addr) (m:Mode)=>run_store Tryz.prog W a c1 m (RLb.good.one hr c1 (by simp))
    have t0:=fun (W:World) (a:Addr) (m:Mode)=>run_store Tryz.prog W a d0 m (RLb.good.one hr2 d0 (by simp))
    have t1:=fun (W:World) (a:Addr) (m:Mode)=>run_store Tryz.prog W a d1 m (RLb.good.one hr2 d1 (by simp))
    rw [List.drop_eq_getElem_cons hlt,List.drop_eq_getElem_cons hlt2,qa2] at hf
    clear hcell hcell2 hl hl2 hS hS2 hr hr2
    by_cases hq:cf xs[k] ys[k]=0
    ·rw [if_pos hq] at hf
     have Hf:=Hd hf
     have hq1:(cf xs[k] ys[k] != 0)=false:=by rw [hq];rfl
     rw [hq] at hcon
     clear hf hq1 hq
     go_wp2_with fail
     refine (hcon _ qaj).mono ?_
     rintro e w1 ⟨rfl,h1⟩
     go_wp2_with fail
     go_roundw
     case rel=>exact ⟨k+1,by omega,by omega,by go_num,qaj,Hf.out⟩
     case measure=>simp [intOf];omega
    ·rw [if_neg hq] at hf
     have Hf:=Hd hf
     have hq1:(cf xs[k] ys[k] != 0)=true:=bne_iff_ne.2 hq
     clear hf hq
     go_wp2_with fail
     refine (hcon _ qaj).mono ?_
     rintro e w1 ⟨rfl,h1⟩
     go_wp2_with fail
     go_ret
     exact ⟨by rw [Hf.out];rfl,qaj⟩
   ·rw [List.drop_of_length_le (l:=ys) (by omega),List.drop_eq_getElem_cons hlt,qa2] at hf
    have Hf:=Hd hf
    obtain ⟨c0,c1,rfl⟩:∃ c0 c1,cs=[c0,c1]:=by
     match cs,hl with
     | [c0,c1],_=>exact ⟨c0,c1,rfl⟩
    have g0:=(by simpa using hcell.get 0 _:wr.cell? ⟨b,off+k*2,none⟩=some c0)
    have g1:=hcell.get 1 _
    have s0:=fun (W:World) (a:Addr) (m:Mode)=>run_store Tryz.prog W a c0 m (RLb.good.one hr c0 (by simp))
    have s1:=fun (W:World) (a:Addr) (m:Mode)=>run_store Tryz.prog W a c1 m (RLb.good.one hr c1 (by simp))
    clear hf hcell
    go_wp2_with fail
    go_ret
    exact ⟨by rw [Hf.out];rfl,qaj⟩
  ·rw [List.drop_of_length_le (l:=xs) (by omega)] at hf
   by_cases hlt2:k<ys.length
   ·rw [List.drop_eq_getElem_cons hlt2,qa2] at hf
    have Hf:=Hd hf
    clear hf
    go_wp2_with fail
    go_ret
    exact ⟨by rw [Hf.out];rfl,hE⟩
   ·rw [List.drop_of_length_le (by omega),qa2] at hf
    have Hf:=Hd hf
    clear hf
    go_wp2_with fail
    go_ret
    exact ⟨by rw [Hf.out];rfl,hE⟩
end
section
set_option maxHeartbeats 1000000
set_option maxRecDepth 100000
/- suite.subset,sets,same,and the closures of least: walked. -/
def subB (a b:List Lb):Bool:=!(a.any fun x=>!qc5 x b)
theorem eg261:∀ args w,(callFunc 261 args).run Tryz.prog w = .ok (.enter 261 args) w:=enters_of Tryz.func261 (by kernel_rfl) rfl
theorem subset1_c (S:Nat->Prop) (l:List Lb) (x:Lb) (v:Value) (B:Nat) (cx:List Value) (w:World) (hl:qaa S w l [v]) (hx:RLb S w x cx) (hn:l.length<=4611686018427387903) (hB:w.cell? ⟨B,0,none⟩=some v) :
  Calls Tryz.prog 261 #[.agg cx.toArray,.pointer (some ⟨B,0,none⟩)] w fun e w'=>e = .returned (.bool (!qc5 x l))∧Ext w w':=by
 have hcon:=fun W (hW:qad w W)=>qp3 S l x v cx W (qaa.good.ext hl hW) (RLb.good.ext hx hW) hn
 obtain ⟨A,c,rfl,hc,hc0⟩:=hl.val
 obtain ⟨_,vx,rfl,hvx⟩:=id hx
 have hB0:=World.block_lt_of_cell? w _ hB
 clear hl hx hvx
 go_enter Tryz.func261,Tryz.ntmps261
 go_wp2_with fail
 refine (hcon _ qaj).mono ?_
 rintro e w1 ⟨rfl,h1⟩
 go_wp2_with fail
 go_ret
 exact ⟨rfl,bel⟩
theorem subset_c (S:Nat->Prop) (a b:List Lb) (va vb:Value) (w:World) (ha:qaa S w a [va]) (hb:qaa S w b [vb]) (hn:b.length<=4611686018427387903) :
  Calls Tryz.prog 219 #[va,vb] w fun e w'=>e = .returned (.bool (subB a b))∧Ext w w':=by
 have hcon:=fun B W (hW:Ext w W) (hB:W.cell? ⟨B,0,none⟩=some vb)=>conPLb (fun x=>!qc5 x b) S W a va (qaa.good.bel ha hW) 261 #[.pointer (some ⟨B,0,none⟩)] eg261
  (fun x hx cs W' hW' hr=>subset1_c S b x vb B cs W' (qaa.good.bel hb (hW.trans' hW')) hr hn ((hW'.cell (World.block_lt_of_cell? W _ hB)).trans hB))
 obtain ⟨A,c,rfl,hc,hc0⟩:=ha.val
 obtain ⟨A',c',rfl,hc',hc0'⟩:=hb.val
 clear ha hb
 go_enter Tryz.func219,Tryz.ntmps219
 go_wp2_with fail
 refine (hcon _ _ bel (by go_simp)).mono ?_
 rintro e w1 ⟨rfl,h1⟩
 go_wp2_with fail
 go_ret
 exact ⟨rfl,bel⟩
def qe3 (a b:List Lb):Int:=qa2 qan a b
theorem eg166:∀ args w,(callFunc 166 args).run Tryz.prog w = .ok (.enter 166 args) w:=enters_of Tryz.func166 (by kernel_rfl) rfl
theorem sets_c (S:Nat->Prop) (a b:List Lb) (va vb:Value) (w:World) (ha:qaa S w a [va]) (hb:qaa S w b [vb]) :
  Calls Tryz.prog 143 #[va,vb] w fun e w'=>e = .returned (.int .i64 (qe3 a b))∧qad w w':=by
 have hcon:=fun W (hW:qad w W)=>cmpFLb qan S W a b va vb (qaa.good.ext ha hW) (qaa.good.ext hb hW) 166 #[] eg166
  (fun x hx y hy cs cs2 W' hW' hr hr2=>qhu S x y cs cs2 W' hr hr2)
 obtain ⟨A,c,rfl,hc,hc0⟩:=ha.val
 obtain ⟨A',c',rfl,hc',hc0'⟩:=hb.val
 clear ha hb
 go_enter Tryz.func143,Tryz.ntmps143
 go_wp2_with fail
 refine (hcon _ qaj).mono ?_
 rintro e w1 ⟨rfl,h1⟩
 go_wp2_with fail
 go_ret
 exact ⟨rfl,qaj⟩
theorem same_c (S:Nat->Prop) (a b:List Lb) (va vb:Value) (w:World) (ha:qaa S w a [va]) (hb:qaa S w b [vb]) :
  Calls Tryz.prog 145 #[va,vb] w fun e w'=>e = .returned (.bool (decide (qe3 a b=0)))∧qad w w':=by
 have hcon:=fun W (hW:qad w W)=>sets_c S a b va vb W (qaa.good.ext ha hW) (qaa.good.ext hb hW)
 obtain ⟨A,c,rfl,hc,hc0⟩:=ha.val
 obtain ⟨A',c',rfl,hc',hc0'⟩:=hb.val
 clear ha hb
 generalize qe3 a b=i at hcon ⊢
 go_enter Tryz.func145,Tryz.ntmps145
 go_wp2_with fail
 refine (hcon _ qaj).mono ?_
 rintro e w1 ⟨rfl,h1⟩
 go_wp2_with fail
 go_ret
 exact ⟨rfl,qaj⟩
def qfg (a b:List Lb):Bool:=decide (b.length<a.length) && subB b a
theorem eg218:∀ args w,(callFunc 218 args).run Tryz.prog w = .ok (.enter 218 args) w:=enters_of Tryz.func218 (by kernel_rfl) rfl
theorem least11_c (S:Nat->Prop) (a b:List Lb) (va vb:Value) (B:Nat) (w:World) (ha:qaa S w a [va]) (hb:qaa S w b [vb]) (hn:a.length<=4611686018427387903) (hB:w.cell? ⟨B,0,none⟩=some va) :
  Calls Tryz.prog 218 #[vb,.pointer (some ⟨B,0,none⟩)] w fun e w'=>e = .returned (.bool (qfg a b))∧Ext w w':=by
 have hcon:=fun W (hW:Ext w W)=>subset_c S b a vb va W (qaa.good.bel hb hW) (qaa.good.bel ha hW) hn
 obtain ⟨A,c,rfl,hc,hc0⟩:=ha.val
 obtain ⟨A',c',rfl,hc',hc0'⟩:=hb.val
 have hB0:=World.block_lt_of_cell? w _ hB
 clear ha hb
 by_cases hlt:b.length<a.length
 ·have HV:=Hd (show qfg a b=subB b a from by rw [qfg,decide_eq_true hlt,Bool.true_and])
  have z:=decide_eq_true (show (b.length:Int)<(a.length:Int) by omega)
  go_enter Tryz.func218,Tryz.ntmps218
  go_wp2_with fail
  refine (hcon _ bel).mono ?_
  rintro e w1 ⟨rfl,h1⟩
  go_wp2_with fail
  go_ret
  exact ⟨by rw [HV.out];rfl,bel⟩
 ·have HV:=Hd (show qfg a b=false from by rw [qfg,decide_eq_false hlt,Bool.false_and])
  have z:=decide_eq_false (show ¬ (b.length:Int)<(a.length:Int) by omega)
  go_enter Tryz.func218,Tryz.ntmps218
  go_wp2_with fail
  go_ret
  exact ⟨by rw [HV.out];rfl,bel⟩
theorem eg217:∀ args w,(callFunc 217 args).run Tryz.prog w = .ok (.enter 217 args) w:=enters_of Tryz.func217 (by kernel_rfl) rfl
theorem least1_c (S:Nat->Prop) (a:List Lb) (l:List (List Lb)) (va vl:Value) (B:Nat) (w:World) (ha:qaa S w a [va]) (hl:RSl qaa 1 S w l [vl]) (hn:a.length<=4611686018427387903) (hB:w.cell? ⟨B,0,none⟩=some vl) :
  Calls Tryz.prog 217 #[va,.pointer (some ⟨B,0,none⟩)] w fun e w'=>e = .returned (.bool (l.any (qfg a)))∧Ext w w':=by
 have hcon:=fun B' W (hW:Ext w W) (hB':W.cell? ⟨B',0,none⟩=some va)=>conPLbs (qfg a) S W l vl ((RSl.good qaa.good).bel hl hW) 218 #[.pointer (some ⟨B',0,none⟩)] eg218
  (fun x hx cs W' hW' hr=>by
   obtain ⟨A,c,rfl,_⟩:=id hr
   exact least11_c S a x va _ B' W' (qaa.good.bel ha (hW.trans' hW')) hr hn (Ext.keep hW' hB'))
 obtain ⟨A,c,rfl,hc,hc0⟩:=ha.val
 obtain ⟨A',c',rfl,hc',hc0'⟩:=hl.val
 have hB0:=World.block_lt_of_cell? w _ hB
 clear ha hl
 go_enter Tryz.func217,Tryz.ntmps217
 go_wp2_with fail
 refine (hcon _ _ bel (by go_simp)).mono ?_
 rintro e w1 ⟨rfl,h1⟩
 go_wp2_with fail
 go_ret
 exact ⟨rfl,bel⟩
end
section

section
variable {α:Type} (eq:α->α->Bool)
def qcl:α->List α->List α
 | _,[]=>[]
 | p,y :: ys=>if eq y p then qcl y ys else y :: qcl y ys
def qay:List α->List α
 | []=>[]
 | x :: xs=>x :: qcl eq x xs
theorem qrv (z:α):∀ (xs:List α) (p:α),qcl eq p (xs++[z])=qcl eq p xs++(if eq z ((p :: xs).getLast (by simp)) then [] else [z])
 | [],p=>by cases h:eq z p <;> simp [qcl,h]
 | y :: ys,p=>by
  have h:=qrv z ys y
  rw [List.cons_append,qcl,qcl,h,List.getLast_cons_cons]
  split <;> rfl
theorem qs2:∀ (xs:List α) (p:α),(qcl eq p xs).length<=xs.length
 | [],p=>Nat.le_refl _
 | y :: ys,p=>by
  have:=qs2 ys y
  rw [qcl]
  split <;> simp only [List.length_cons] <;> omega
theorem qly:∀ xs:List α,(qay eq xs).length<=xs.length
 | []=>Nat.le_refl _
 | x :: xs=>by have:=qs2 eq xs x;rw [qay,List.length_cons,List.length_cons];omega
theorem qil (l:List α) (k:Nat) (h1:1<=k) (hk:k<l.length):qay eq (l.take (k+1))=if eq l[k] l[k-1] then qay eq (l.take k) else qay eq (l.take k)++[l[k]]:=by
 rw [List.take_succ_eq_append_getElem hk]
 obtain ⟨p,xs,he⟩:∃ p xs,l.take k=p :: xs:=by
  cases h:l.take k with
  | nil=>have:=congrArg List.length h;rw [List.length_take,List.length_nil] at this;omega
  | cons p xs=>exact ⟨p,xs,rfl⟩
 have hl:(p :: xs).getLast (by simp)=l[k-1]:=by
  have hlen:(p :: xs).length=k:=by rw [<- he,List.length_take];omega
  rw [List.getLast_eq_getElem]
  simp only [<- he]
  rw [List.getElem_take]
  congr 1
  rw [List.length_take]
  omega
 rw [he,List.cons_append,qay,qrv,hl,qay]
 split <;> simp
theorem ql8:∀ (xs:List α) (p x:α),x∈qcl eq p xs->x∈xs
 | [],_,_,h=>h
 | y :: ys,p,x,h=>by
  rw [qcl] at h
  split at h
  ·exact List.mem_cons_of_mem _ (ql8 ys y x h)
  ·rcases List.mem_cons.1 h with rfl | h
   ·simp
   ·exact List.mem_cons_of_mem _ (ql8 ys y x h)
theorem qi6:∀ (xs:List α) (x:α),x∈qay eq xs->x∈xs
 | [],x,h=>h
 | y :: ys,x,h=>by
  rw [qay] at h
  rcases List.mem_cons.1 h with rfl | h
  ·simp
  ·exact List.mem_cons_of_mem _ (ql8 eq ys y x h)
def qbu (l:List α) (m:Nat):List α:=qay eq (l.take m)++l.drop (qay eq (l.take m)).length
theorem qb0 (l:List α) (m:Nat):(qbu eq l m).length=l.length:=by
 have h:=qly eq (l.take m)
 rw [List.length_take] at h
 rw [qbu,List.length_append,List.length_drop]
 omega
theorem qg9 (l:List α) (m j:Nat) (hj:(qay eq (l.take m)).length<=j) (hl:j<l.length):(qbu eq l m)[j]'(by rw [qb0];exact hl)=l[j]:=by
 unfold qbu
 rw [List.getElem_append_right hj]
 simp only [List.getElem_drop]
 congr 1
 omega
theorem qj6 (l:List α) (m:Nat) (h1:1<=m) (hm:m<l.length) (he:eq l[m] l[m-1]=true):qbu eq l (m+1)=qbu eq l m∧qay eq (l.take (m+1))=qay eq (l.take m):=by
 have h:=qil eq l m h1 hm
 rw [if_pos he] at h
 exact ⟨by rw [qbu,h];rfl,h⟩
theorem qkc (l:List α) (m:Nat) (h1:1<=m) (hm:m<l.length) (he:eq l[m] l[m-1]=false) (hi:(qay eq (l.take m)).length<l.length) :
  qbu eq l (m+1)=(qbu eq l m).set (qay eq (l.take m)).length l[m]∧qay eq (l.take (m+1))=qay eq (l.take m)++[l[m]]:=by
 have h:=qil eq l m h1 hm
 rw [if_neg (by rw [he];decide)] at h
 refine ⟨?_,h⟩
 rw [qbu,qbu,h,List.set_append_right _ _ (Nat.le_refl _),Nat.sub_self,List.drop_eq_getElem_cons hi,List.set_cons_zero,List.length_append,List.length_singleton,List.append_assoc]
 rfl
end
theorem qt6 {w:World} {base size n m cap g:Nat} {e:TypeId} {xs:List Value} (h:w.ownsRow base e size (.slice (some ⟨g,0,none⟩) n cap) n xs) (hm:m<=n):w.ownsRow base e size (.slice (some ⟨g,0,none⟩) m cap) m (xs.take (m*size)):=by
 have hmn:m*size<=n*size:=Nat.mul_le_mul_right _ hm
 rcases h.2 with ⟨h',_⟩ | ⟨g',cap',cur,h',hb,hg,hnc,hcm,hcs,htake⟩
 ·simp at h'
 ·simp only [Value.slice.injEq,Option.some.injEq,Addr.mk.injEq,and_true,true_and] at h'
  obtain ⟨rfl,rfl⟩:=h'
  refine ⟨by rw [List.length_take,h.1];omega,.inr ⟨g,cap,cur,rfl,hb,hg,by omega,hcm,hcs,?_⟩⟩
  rw [<- htake,List.take_take,Nat.min_eq_left hmn]
theorem qph {base size n cap g:Nat} {e:TypeId} {xs:List Value}:∀ (vs:List Value) (o:Nat) (w:World),n*size<=o->w.ownsRow base e size (.slice (some ⟨g,0,none⟩) n cap) n xs->(w.setCells g o vs).ownsRow base e size (.slice (some ⟨g,0,none⟩) n cap) n xs∧Bt (fun b=>b=g) w (w.setCells g o vs)
 | [],o,w,_,h=>⟨h,Bt.refl _ _⟩
 | v :: vs,o,w,ho,h=>by
  have h1:=(h.stored o v).1
  rw [List.set_eq_of_length_le (by rw [h.1];exact ho)] at h1
  obtain ⟨h2,h3⟩:=qph vs (o+1) _ (by omega) h1
  exact ⟨h2,((Bt.refl (fun b=>b=g) w).set (p:=⟨g,o,none⟩) (.inr rfl) v).trans h3⟩
theorem Flat.take {α:Type} {R:Rdr α} {k:Nat} {S:Nat->Prop} {w:World}:∀ {xs:List α} {cs:List Value} (m:Nat),Flat R k S w xs cs->Flat R k S w (xs.take m) (cs.take (m*k))
 | xs,cs,0,h=>by simp [Flat]
 | [],cs,m+1,h=>by rw [show cs=[] from h];simp [Flat]
 | x :: xs,cs,m+1,⟨c1,c2,h1,h2,h3,h4⟩=>by
  refine ⟨c1,c2.take (m*k),?_,h2,h3,Flat.take m h4⟩
  rw [h1,List.take_append,h2,List.take_of_length_le (by rw [h2,Nat.add_mul];omega)]
  congr 2
  rw [Nat.add_mul]
  omega
section
variable {α:Type} {R:Rdr α} {k:Nat} {e:TypeId} {base:Nat} {T:Nat->Prop} {w:World} {xs:List α}
theorem qab.get1 {g n cap:Nat} (h:qab R 1 e base T w xs (.slice (some ⟨g,0,none⟩) n cap)) (i:Nat) (hi:i<xs.length) :
  ∃ u,w.cell? ⟨g,i,none⟩=some u∧R (fun b=>T b∧b≠g) w xs[i] [u]∧w.frozen? ⟨g,i,none⟩=false:=by
 obtain ⟨news,h1,h2⟩:=h
 have hn:n=xs.length:=by
  rcases h1.2 with ⟨h',_⟩ | ⟨g',cap',cur,h',_⟩
  ·simp at h'
  ·simp at h';exact h'.2.1
 subst hn
 rw [qex] at h2
 obtain ⟨c1,h3,h4,h5⟩:=h2.at i hi
 obtain ⟨u,rfl⟩:∃ u,c1=[u]:=by
  match c1,h3 with
  | [u],_=>exact ⟨u,rfl⟩
 have:=h5 0 (by decide)
 refine ⟨u,?_,h4,h1.frozenAt i⟩
 rw [h1.cellAt i (by omega)]
 simpa using this
theorem qab.put1 {g n cap:Nat} (hR:Good R 1) (h:qab R 1 e base T w xs (.slice (some ⟨g,0,none⟩) n cap)) (hn:n=xs.length) (i:Nat) (u:Value) (x':α) (hi:i<xs.length) (hu:R (fun b=>T b∧b≠g) w x' [u]) :
  qab R 1 e base T (w.setCell ⟨g,i,none⟩ u) (xs.set i x') (.slice (some ⟨g,0,none⟩) n cap):=by
 subst hn
 have:=qab.put hR h i 0 u x' (by decide) hi fun cs hcs=>by
  have hl:=hR.len hcs
  match cs,hl with
  | [a],_=>exact hu
 simpa using this
theorem qab.cut {g n cap:Nat} (hR:Good R k) (h:qab R k e base T w xs (.slice (some ⟨g,0,none⟩) n cap)) (hn:n=xs.length) (m:Nat) (hm:m<=n) (vs:List Value) (o:Nat) (ho:m*k<=o) :
  qab R k e base T (w.setCells g o vs) (xs.take m) (.slice (some ⟨g,0,none⟩) m cap)∧Bt (fun b=>b=g) w (w.setCells g o vs):=by
 subst hn
 obtain ⟨news,h1,h2⟩:=h
 rw [qex] at h2
 obtain ⟨h3,h4⟩:=qph vs o w ho (qt6 h1 hm)
 refine ⟨⟨news.take (m*k),?_,?_⟩,h4⟩
 ·rw [List.length_take,Nat.min_eq_left hm];exact h3
 ·rw [qex]
  exact (h2.take m).imp fun x _ cs hx=>hR.move hx (h4.kp fun b _ hb=>hb.2)
end
def qch (a b:List Lb):Bool:=decide (qe3 a b=0)
def qcj (l:List (List Lb)):List (List Lb):=qay qch l
set_option maxHeartbeats 1000000 in
set_option maxRecDepth 100000 in
theorem qoo (base:Nat) (T:Nat->Prop) (l:List (List Lb)) (v:Value) (w:World) (hown:qab qaa 1 22 base T w l v) (hlen:l.length<=1000000000) :
  Calls Tryz.prog 144 #[v,.func (.func 145) #[] #[]] w fun e w'=>∃ A c,e = .returned (.slice A (qcj l).length c)∧qab qaa 1 22 base T w' (qcj l) (.slice A (qcj l).length c)∧Bt (fun b=>v.ownBlock=some b) w w':=by
 by_cases h2:l.length<2
 ·have hc:Hid (qcj l=l):=by
   show _=_
   match l,h2 with
   | [],_=>rfl
   | [x],_=>rfl
  obtain ⟨A,c,rfl,_,_⟩:=(hown.sl qaa.good (by decide)).val
  have HO:=Hd hown
  clear hown
  go_enter Tryz.func144,Tryz.ntmps144
  go_wp2_with fail
  go_ret
  rw [hc.out]
  exact ⟨A,c,rfl,HO.out,Bt.refl _ _⟩
 obtain ⟨g,cap,rfl⟩:∃ g cap,v = .slice (some ⟨g,0,none⟩) l.length cap:=by
  obtain ⟨news,h1,_⟩:=hown
  exact Joins.ownsRow_form h1 (by omega)
 have hcap:l.length<=cap∧cap<=9223372036854775807:=by
  obtain ⟨A,c,he,h3,h4⟩:=(hown.sl qaa.good (by decide)).val
  injection he with _ _ he
  exact ⟨by omega,by omega⟩
 have hZ:(fun b=>(Value.slice (some ⟨g,0,none⟩) l.length cap).ownBlock=some b)=fun b=>b=g:=by funext b;simp [Value.ownBlock,eq_comm]
 rw [hZ]
 have HO:=Hd hown
 clear hown hZ
 go_enter Tryz.func144,Tryz.ntmps144
 go_wp2_with fail
 go_loopw [5] (fun i wr=>∃ k:Nat,1<=k∧k<=l.length∧i = .int .i64 k∧Ext w wr∧Hid (qcj (l.take k)=l.take k)) (fun i _=>l.length-(intOf i).toNat)
 case atStart=>exact ⟨1,Nat.le_refl _,by omega,rfl,Ext.refl _,by
  show _=_
  cases l with
  | nil=>simp at h2
  | cons x xs=>simp [qcj,qay,qcl]⟩
 case round =>
  obtain ⟨k,hk1,hk,rfl,hE,hf⟩:=hrel
  by_cases hlt:k<l.length
  ·have hO:=HO.out.ext qaa.good hE
   obtain ⟨u1,a1,r1,_⟩:=hO.get1 k hlt
   obtain ⟨u2,a2,r2,_⟩:=hO.get1 (k-1) (by omega)
   have hs0:=fun X=>same_c (fun _=>True) l[k] l[k-1] u1 u2 (qak wr X) (qaa.good.bel (qaa.good.mono r1 fun _ _ _=>trivial) (qa5 wr X)) (qaa.good.bel (qaa.good.mono r2 fun _ _ _=>trivial) (qa5 wr X))
   obtain ⟨A1,c1,rfl,_,_⟩:=r1.val
   obtain ⟨A2,c2,rfl,_,_⟩:=r2.val
   have hst:=qil qch l k hk1 hlt
   have hk0:(0:Int)<=(k:Int)-1:=by omega
   have hk2:((k:Int)-1).toNat=k-1:=by omega
   have hk3:(k:Int)-1<(l.length:Int):=by omega
   by_cases he:qch l[k] l[k-1]=true
   ·have hs:∀ X,Calls Tryz.prog 145 #[.slice A1 l[k].length c1,.slice A2 l[k-1].length c2] (qak wr X) fun e w'=>e = .returned (.bool true)∧qad (qak wr X) w':=fun X=>by have:=hs0 X;rwa [show decide (qe3 l[k] l[k-1]=0)=true from he] at this
    rw [if_pos he] at hst
    have HST:=Hd hst
    have HOr:=Hd hO
    clear hs0 hst hO r1 r2
    go_wp2_with fail
    (refine qa1 ?_;(repeat (first | go_big_quiet_step ((go_at_call 145;exact qap (hs _))) | quiet_step ((go_at_call 145;exact qap (hs _)))));refine wpQuiet_nil ?_)
    intro w2 hx2
    have hO2:=Hd (HOr.out.ext qaa.good hx2)
    have hX2:=hE.trans' hx2
    clear hs hx2 HOr a1 a2
    go_wp2_with fail
    go_loopw [5,7] (fun vi v2 wr'=>∃ d i:Nat,1<=d∧k+d<=l.length∧vi = .int .i64 (i:Nat)∧v2 = .int .i64 (d:Nat)∧i<k+d∧Hid ((qay qch (l.take (k+d))).length=i∧qab qaa 1 22 base T wr' (qbu qch l (k+d)) (.slice (some ⟨g,0,none⟩) l.length cap))∧Bt (fun b=>b=g) w wr') (fun _ v2 _=>l.length-k-(intOf v2).toNat)
    case atStart =>
     have hk':qay qch (l.take k)=l.take k:=hf.out
     have hY:qbu qch l (k+1)=l:=by rw [qbu,HST.out,hk',List.length_take,Nat.min_eq_left hk,List.take_append_drop]
     refine ⟨1,k,Nat.le_refl _,by omega,rfl,rfl,by omega,⟨by rw [HST.out,hk',List.length_take,Nat.min_eq_left hk],by rw [hY];exact hO2.out⟩,hX2.bt⟩
    case round =>
     obtain ⟨d,i,hd1,hd,rfl,rfl,hi,hR,hB⟩:=hrel
     by_cases hlt2:k+d<l.length
     ·have hlt3:k+(d-1)<l.length:=by omega
      have hle3:1<=k+d:=by omega
      have hlt4:i<l.length:=by omega
      obtain ⟨hci,hO3⟩:=hR.out
      obtain ⟨u1,a1,r1,_⟩:=hO3.get1 (k+d) (by rw [qb0];exact hlt2)
      obtain ⟨u2,a2,r2,_⟩:=hO3.get1 (k+(d-1)) (by rw [qb0];omega)
      rw [qg9 qch l (k+d) (k+d) (by omega) hlt2] at r1
      rw [qg9 qch l (k+d) (k+(d-1)) (by omega) hlt3] at r2
      have hs0:=fun X=>same_c (fun _=>True) l[k+d] l[k+(d-1)] u1 u2 (qak wr X) (qaa.good.bel (qaa.good.mono r1 fun _ _ _=>trivial) (qa5 wr X)) (qaa.good.bel (qaa.good.mono r2 fun _ _ _=>trivial) (qa5 wr X))
      have hix:qch l[k+d] l[k+(d-1)]=qch l[k+d] (l[k+d-1]'(by omega)):=by
       have hx:k+(d-1)=k+d-1:=by omega
       simp only [hx]
      have hsm:=fun h=>qj6 qch l (k+d) hle3 hlt2 h
      have hpt:=fun h=>qkc qch l (k+d) hle3 hlt2 h (by rw [hci];exact hlt4)
      rw [<- hix] at hsm hpt
      obtain ⟨A3,c3,rfl,_,_⟩:=r1.val
      obtain ⟨A4,c4,rfl,_,_⟩:=r2.val
      have hd0:(0:Int)<=(d:Int)-1:=by omega
      have hd2:((d:Int)-1).toNat=d-1:=by omega
      by_cases he2:qch l[k+d] l[k+(d-1)]=true
      ·have hs:∀ X,Calls Tryz.prog 145 #[.slice A3 l[k+d].length c3,.slice A4 l[k+(d-1)].length c4] (qak wr X) fun e w'=>e = .returned (.bool true)∧qad (qak wr X) w':=fun X=>by have:=hs0 X;rwa [show decide (qe3 l[k+d] l[k+(d-1)]=0)=true from he2] at this
       have hsame:=Hd (hsm he2)
       have HO3:=Hd hO3
       have HCI:=Hd hci
       clear hs0 hO3 r1 r2 hsm hpt hix hci hR
       go_wp2_with fail
       (refine qa1 ?_;(repeat (first | go_big_quiet_step ((go_at_call 145;exact qap (hs _))) | quiet_step ((go_at_call 145;exact qap (hs _)))));refine wpQuiet_nil ?_)
       intro w5 hx5
       go_wp2_with fail
       go_roundw
       case rel =>
        refine ⟨d+1,i,by omega,by omega,rfl,by go_num,by omega,⟨?_,?_⟩,hB.ext hx5⟩
        ·rw [show k+(d+1)=k+d+1 from by omega,hsame.out.2];exact HCI.out
        ·rw [show k+(d+1)=k+d+1 from by omega,hsame.out.1];exact HO3.out.ext qaa.good hx5
       case measure=>simp [intOf];omega
      ·have hs:∀ X,Calls Tryz.prog 145 #[.slice A3 l[k+d].length c3,.slice A4 l[k+(d-1)].length c4] (qak wr X) fun e w'=>e = .returned (.bool false)∧qad (qak wr X) w':=fun X=>by have:=hs0 X;rwa [show decide (qe3 l[k+d] l[k+(d-1)]=0)=false from eq_false_of_ne_true he2] at this
       have hput:=Hd (hpt (eq_false_of_ne_true he2))
       obtain ⟨u6,b6,_,f6⟩:=hO3.get1 i (by rw [qb0];omega)
       have HO3:=Hd hO3
       have HCI:=Hd hci
       have HR1:=Hd r1
       clear hs0 hO3 r1 r2 hsm hpt hix hci hR
       go_wp2_with fail
       (refine qa1 ?_;(repeat (first | go_big_quiet_step ((go_at_call 145;exact qap (hs _))) | quiet_step ((go_at_call 145;exact qap (hs _)))));refine wpQuiet_nil ?_)
       intro w5 hx5
       have a5:=Ext.keep hx5 a1
       have b5:=Ext.keep hx5 b6
       have f5:=qc6 hx5 (World.block_lt_of_cell? _ _ b6) f6
       clear a1 a2 b6 f6 hs
       go_wp2_with fail
       go_roundw
       case rel =>
        have hput2:=qab.put1 qaa.good (HO3.out.ext qaa.good hx5) (by rw [qb0]) i (.slice A3 l[k+d].length c3) l[k+d] (by rw [qb0];omega) (qaa.good.bel HR1.out hx5)
        refine ⟨d+1,i+1,by omega,by omega,by go_num,by go_num,by omega,⟨?_,?_⟩,(hB.ext hx5).set (.inr rfl) _⟩
        ·rw [show k+(d+1)=k+d+1 from by omega,hput.out.2,List.length_append,HCI.out];rfl
        ·rw [show k+(d+1)=k+d+1 from by omega,hput.out.1,HCI.out];exact hput2
       case measure=>simp [intOf];omega
     ·obtain ⟨hci,hO3⟩:=hR.out
      have hkd:k+d=l.length:=by omega
      rw [hkd,List.take_length] at hci
      rw [hkd] at hO3
      have hi3:i<l.length:=by omega
      have hcl:=Lib.run_clear_slice (P:=Tryz.prog) wr 30 22 0 (.slice none 0 0) Tryz.underlying30 (fun _=>by kernel_rfl) rfl rfl g i (l.length-i) (cap-i) (by omega) (fun j hj=>by
       obtain ⟨u,h1,_⟩:=hO3.get1 (i+j) (by rw [qb0];omega)
       rw [h1];rfl) (fun j hj=>by
       obtain ⟨u,_,_,h1⟩:=hO3.get1 (i+j) (by rw [qb0];omega)
       exact h1)
      have hcut:=Hd (hO3.cut qaa.good (by rw [qb0]) i (by omega) (List.replicate (l.length-i) (.slice none 0 0)) i (by omega))
      have hres:Hid (qcj l=(qbu qch l l.length).take i):=by
       show qay qch l=_
       rw [qbu,List.take_length,List.take_append_of_le_length (by omega),<- hci,List.take_length]
      have HCI:=Hd hci
      clear hO3 hci hR
      go_wp2_with fail
      go_ret
      have hln:(qcj l).length=i:=HCI.out
      refine ⟨some ⟨g,0,none⟩,cap,by rw [hln];rfl,?_,hB.trans hcut.out.2⟩
      rw [hln,hres.out]
      exact hcut.out.1
   ·have hs:∀ X,Calls Tryz.prog 145 #[.slice A1 l[k].length c1,.slice A2 l[k-1].length c2] (qak wr X) fun e w'=>e = .returned (.bool false)∧qad (qak wr X) w':=fun X=>by have:=hs0 X;rwa [show decide (qe3 l[k] l[k-1]=0)=false from eq_false_of_ne_true he] at this
    rw [if_neg he] at hst
    have HST:=Hd hst
    clear hs0 hst hO r1 r2
    go_wp2_with fail
    (refine qa1 ?_;(repeat (first | go_big_quiet_step ((go_at_call 145;exact qap (hs _))) | quiet_step ((go_at_call 145;exact qap (hs _)))));refine wpQuiet_nil ?_)
    intro w2 hx2
    go_wp2_with fail
    go_roundw
    case rel =>
     refine ⟨k+1,by omega,by omega,by go_num,bel,?_⟩
     show qay qch _=_
     rw [HST.out,show qay qch (l.take k)=l.take k from hf.out,List.take_succ_eq_append_getElem hlt]
    case measure=>simp [intOf];omega
  ·have hkk:Hid (qcj l=l):=by
    show _=_
    have:=hf.out
    rwa [List.take_of_length_le (by omega)] at this
   go_wp2_with fail
   go_ret
   rw [hkk.out]
   exact ⟨some ⟨g,0,none⟩,cap,rfl,HO.out.ext qaa.good hE,hE.bt⟩
end
section
open Go.Shelf
def SeqG {α:Type} (n:Nat) (P:Program) (g:Nat) (lb:Array Value) (encs:α->Array Value) (K:World->World->Prop) (G:List α->α->World->Prop) (S Sp:List α->Prop) (w:World):Prop :=
 ∀ (l:Nat) (J Jx:List α->World->Prop) (W:World),Ext w W->(∀ pre A B,J pre A->Ext A B->J pre B)->(∀ pre A B,Jx pre A->Ext A B->Jx pre B) ->
  (∀ pre x A,J pre A->G pre x A->YieldAt Fence.wide (n-1) P l (encs x) A fun e B =>
   (e = .returned (.bool true)∧J (pre++[x]) B∧K A B)∨(e = .returned (.bool false)∧Jx (pre++[x]) B)) ->
  J [] W ->
  CallsIn Fence.wide n P g (#[.func (.yield l) #[] #[]]++lb) W fun e B=>(∃ v,e = .returned v)∧((∃ ys,S ys∧J ys B)∨(∃ pre,Sp pre∧Jx pre B))
theorem qml {β:Type} {B:Nat} {I:β->World->Prop} (h:OwnFrom B I) {s:β} {X Y:World} (hs:I s X) (he:Ext X Y):I s Y:=h s X Y none hs (qtz he) fun r e=>by cases e
set_option maxHeartbeats 1000000 in
set_option maxRecDepth 100000 in
theorem qmn {α:Type} {n:Nat} {P:Program} {g:Operand} {ps:Array Tmp} {assign body:Code} {Q:Exit->Act->World->Prop} {a:Act} {w:World}
  {gf:Nat} {lb:Array Value} (h1:1<=n) (hg:a.eval g = .func (.func gf) #[] lb) (eg:∀ args w,(callFunc gf args).run P w = .ok (.enter gf args) w)
  {encs:α->Array Value} {K:World->World->Prop} {G:List α->α->World->Prop} {S Sp:List α->Prop} (hseq:SeqG (n-1) P gf lb encs K G S Sp w) (hps:∀ x,(encs x).size=ps.size)
  (hKt:∀ {A B C:World},K A B->K B C->K A C) (hKb:∀ (W:World) (l:Nat) (o o':Obj),w.heap.size<=l->W.heap[l]? = some o->o.isCells=false->K W (W.putObj l o'))
  (I:List α->World->Prop) (Ix:Code->List α->World->Prop) (hI:OwnFrom w.heap.size I) (hIx:∀ c,OwnFrom w.heap.size (Ix c)) (h0:I [] w) (Ax:List α->α->Act->World->Prop) (hAx:∀ pre x a',OwnFrom w.heap.size (fun (_:Unit) W=>Ax pre x a' W))
  (hassign:∀ (l:Nat) (pre:List α) (x:α) (W:World) (Kc:Act->World->Prop),I pre W->G pre x W->(∀ a' W',KeepsFrom w.heap.size W W'->K W W'->I pre W'->Ax pre x a' W'->Kc a' W') ->
   assign.wpIn (Fence.wide.inRound l) (n-1-1) P (Exit.then Kc (fun _ _ _=>False)) { tmps:=(ps.zip (encs x)).foldl (fun t (p,v)=>t.setIfInBounds p v) a.tmps,defers:=[] } W)
  (hbody:∀ (l:Nat) (pre:List α) (x:α) (a':Act) (W:World),w.heap.size<=l->(∃ r,W.heap[l]? = some (.loop r))->I pre W->Ax pre x a' W->body.wpIn (Fence.wide.inRound l) (n-1-1) P (ownPostG w.heap.size K I Ix (pre++[x]) W) a' W)
  (hdone:∀ (D:Nat) (xs:List α) (W:World),w.heap.size<=D->S xs->I xs W->W.heap[D]? = some (.deferred (some []))->Q .normal { a with defers:={ target:=.collected D,args:=#[] } :: a.defers } W)
  (hstop:∀ (D:Nat) (c:Code) (pre:List α) (W:World),w.heap.size<=D->Sp pre->Ix c pre W->W.heap[D]? = some (.deferred (some []))->c.wpIn Fence.wide n P Q { a with defers:={ target:=.collected D,args:=#[] } :: a.defers } W) :
  (Code.rangeFunc g ps assign body).wpIn Fence.wide n P Q a w:=by
 refine wpIn_rangeFunc fun fn hfn=>?_
 rw [show Fence.wide.round=none from rfl]
 obtain ⟨D,hD⟩:∃ D,D=w.heap.size:=⟨_,rfl⟩
 obtain ⟨L,hL⟩:∃ L,L=D+1:=⟨_,rfl⟩
 obtain ⟨R,hR⟩:∃ R:LoopState->Option Code->Loop,R=fun st pe=>{ state:=st,pending:=pe,fn,tmps:=a.tmps,params:=ps,assign,body,defers:=D }:=⟨_,rfl⟩
 obtain ⟨V,hV⟩:∃ V,V=(w.alloc (.deferred (some []))).alloc (.loop (R .ready none)):=⟨_,rfl⟩
 have hext:Ext w V:=by rw [hV];exact ((Ext.refl w).alloc _).alloc _
 have hVL:V.heap[L]? = some (.loop (R .ready none)):=by
  have h:=World.alloc_heap_new (w.alloc (.deferred (some []))) (.loop (R .ready none))
  rw [World.size_alloc,<- hD,<- hL] at h
  rw [hV]
  exact h
 have hVD:V.heap[D]? = some (.deferred (some [])):=by
  rw [hV,hD]
  exact (Below.heap_alloc _ _ _ (by simp)).trans (World.alloc_heap_new w _)
 have both:∀ {X Y:World} {o1 o2:Obj},X.heap[L]? = some o1->X.heap[D]? = some o2->KeepsFrom w.heap.size X Y->o1.isCells=false->o2.isCells=false->Y.heap[L]? = some o1∧Y.heap[D]? = some o2 :=
  fun h2 h3 hk c1 c2=>⟨hk.same _ _ (by omega) h2 c1,hk.same _ _ (by omega) h3 c2⟩
 have turn:∀ {X:World} {o1 o2:Obj} (o3:Obj),X.heap[L]? = some o1->X.heap[D]? = some o2->(X.putObj L o3).heap[L]? = some o3∧(X.putObj L o3).heap[D]? = some o2 :=
  fun o3 h2 h3=>⟨World.putObj_heap_same (Array.getElem?_eq_some_iff.1 h2).1,(World.putObj_heap_other (by omega)).trans h3⟩
 have extk:∀ {X Y:World},Ext X Y->KeepsFrom w.heap.size X Y:=fun h=>qeq h _
 refine ⟨L,[{ target:=.collected D,args:=#[] }],V,{ target:=.fn (.func gf) lb,args:=#[.func (.yield L) #[] #[]] },V,gf,#[.func (.yield L) #[] #[]]++lb,V,?_,?_,fun _ _=>trivial,?_,fun _=>h1,?_⟩
 ·have h:=run_enterLoop_outer (P:=P) (w:=w) fn a.tmps ps assign body
  rw [hL,hV,hR,hD]
  exact h
 ·simp only [resolve,hg]
  simp [go_sem]
 ·simp [invoke,go_sem,eg]
 have hcall:=hseq L (fun pre W=>I pre W∧W.heap[L]? = some (.loop (R .ready none))∧W.heap[D]? = some (.deferred (some [])))
  (fun pre W=>∃ c,Ix c pre W∧W.heap[L]? = some (.loop (R .done (some c)))∧W.heap[D]? = some (.deferred (some []))) V hext
  (fun pre A B h he=>⟨qml hI h.1 he,both h.2.1 h.2.2 (extk he) rfl rfl⟩)
  (fun pre A B h he=>by obtain ⟨c,h2,h3,h4⟩:=h;exact ⟨c,qml (hIx c) h2 he,both h3 h4 (extk he) rfl rfl⟩)
  (fun pre x A hJ hGx=>?_) ⟨qml hI h0 hext,hVL,hVD⟩
 ·-- behind the iterator
  refine hcall.mono ?_
  rintro e W ⟨⟨v,rfl⟩,⟨ys,hS,hi,h2,h3⟩ | ⟨pre,hSp,c,hi,h2,h3⟩⟩
  ·refine ⟨none,W.putObj L (.loop { R .ready none with state:=.exhausted }),?_,?_⟩
   ·have h:=run_endLoop (P:=P) h2 (by rw [hR];simp)
    rw [hR] at h ⊢
    exact h
   ·exact hdone D ys _ (by omega) hS (hI.putObj _ hi (by omega) h2 rfl) (turn _ h2 h3).2
  ·refine ⟨some c,W.putObj L (.loop { R .done (some c) with state:=.exhausted }),?_,?_⟩
   ·have h:=run_endLoop (P:=P) h2 (by rw [hR];simp)
    rw [hR] at h ⊢
    exact h
   ·exact hstop D c pre _ (by omega) hSp ((hIx c).putObj _ hi (by omega) h2 rfl) (turn _ h2 h3).2
 ·-- a round
  obtain ⟨hi,h2,h3⟩:=hJ
  have hy:=run_yield (P:=P) (args:=encs x) h2 (by rw [hR];exact hps x)
  rw [hR] at hy
  refine ⟨fn,_,assign,body,hy,roundIn_of_wpIn hfn (hassign L pre x A _ hi hGx fun a1 B hkf hkk hi1 hax=>?_)⟩
  clear hy
  obtain ⟨h4,h5⟩:=both h2 h3 hkf rfl rfl
  obtain ⟨C,hC⟩:∃ C,C=B.putObj L (.loop { R .ready none with state:=.busy }):=⟨_,rfl⟩
  have h67:=turn (.loop { R .ready none with state:=.busy }) h4 h5
  have hiC:=hI.putObj (.loop { R .ready none with state:=.busy }) hi1 (by omega) h4 rfl
  have haC:=(hAx pre x a1).putObj (s:=()) (.loop { R .ready none with state:=.busy }) hax (by omega) h4 rfl
  have hkC:=hKb B L _ (.loop { R .ready none with state:=.busy }) (by omega) h4 rfl
  rw [<- hC] at h67 hiC haC hkC
  refine ⟨C,?_,wpIn_mono (hbody L pre x a1 C (by omega) ⟨_,h67.1⟩ hiC haC) ?_⟩
  ·have h:=run_beginRound (P:=P) h4 (by rw [hR])
   rw [hC]
   rw [hR] at h ⊢
   exact h
  have close:∀ (jump:Option Code) (E:World),KeepsFrom w.heap.size C E->∃ o,(Instr.endRound L jump).run P E = .ok (.bool jump.isNone) (E.putObj L (.loop (R (if jump.isNone then .ready else .done) jump)))∧E.heap[L]? = some o∧o.isCells=false ∧
    (E.putObj L (.loop (R (if jump.isNone then .ready else .done) jump))).heap[L]? = some (.loop (R (if jump.isNone then .ready else .done) jump))∧(E.putObj L (.loop (R (if jump.isNone then .ready else .done) jump))).heap[D]? = some (.deferred (some [])):=fun jump E hk=>by
   obtain ⟨h8,h9⟩:=both h67.1 h67.2 hk rfl rfl
   have h:=run_endRound (P:=P) jump h8
   refine ⟨_,?_,h8,rfl,turn _ h8 h9⟩
   rw [hR] at h ⊢
   exact h
  have leave:∀ (c:Code) (E:World),KeepsFrom w.heap.size C E->Ix c (pre++[x]) E->∃ r E',(Instr.endRound L (some c)).run P E = .ok r E'∧((Ending.returned r = .returned (.bool true)∧(I (pre++[x]) E'∧E'.heap[L]? = some (.loop (R .ready none))∧E'.heap[D]? = some (.deferred (some [])))∧K A E') ∨
    (Ending.returned r = .returned (.bool false)∧∃ c,Ix c (pre++[x]) E'∧E'.heap[L]? = some (.loop (R .done (some c)))∧E'.heap[D]? = some (.deferred (some [])))):=fun c E hk hx=>by
   obtain ⟨o,r1,r2,r3,r4⟩:=close (some c) E hk
   exact ⟨_,_,r1,.inr ⟨rfl,c,(hIx c).putObj _ hx (by omega) r2 r3,r4⟩⟩
  rintro e a3 E hp
  cases e with
  | normal =>
   obtain ⟨hk,hkk3,hi3⟩:=hp
   obtain ⟨o,r1,r2,r3,r4⟩:=close none E hk
   exact ⟨_,_,r1,.inl ⟨rfl,⟨hI.putObj _ hi3 (by omega) r2 r3,r4⟩,hKt hkk (hKt (hKt hkC hkk3) (hKb E L _ _ (by omega) r2 r3))⟩⟩
  | ret=>exact leave .ret E hp.1 hp.2
  | exit id=>exact leave (.exit id) E hp.1 hp.2
  | goto t=>exact leave (.goto t) E hp.1 hp.2
  | panic ch=>exact hp.elim
  | outgrown=>exact hp.elim
end
section
set_option maxHeartbeats 1000000
set_option maxRecDepth 100000
/- suite.walk and suite.after: walked. -/
open Go.Shelf
attribute [local go_sem] Oper.semAt_some
def qal (s:Sy) (tr:List Lb):List Int:=tr.foldl (fun l x=>qc2 s x l) (qau s [0])
theorem qh8 (s:Sy) (tr:List Lb) (x:Lb):qal s (tr++[x])=qc2 s x (qal s tr):=by simp [qal]
theorem qie (s:Sy) (tr:List Lb) (k:Nat) (h:k<tr.length):qal s (tr.take (k+1))=qc2 s tr[k] (qal s (tr.take k)):=by rw [List.take_succ_eq_append_getElem h,qh8]
theorem qsx (s:Sy):∀ (f i:Nat) (l:List Int),(qa9 s f i l).length+qbq s (qa9 s f i l)<=l.length+qbq s l
 | 0,_,_=>by rw [qa9];exact Nat.le_refl _
 | f+1,i,l=>by
  rw [qa9]
  split
  ·exact Nat.le_trans (qsx s f (i+1) _) (qgd s _ l).1
  ·exact Nat.le_refl _
theorem qj2 (s:Sy) (l:List Int):(qau s l).length<=l.length+qbq s l:=by
 rw [qau,qlj]
 have:=qsx s (l.length+s.es.length) 0 l
 omega
theorem qok (s:Sy) (x:Lb) (l:List Int):(qc2 s x l).length<=s.es.length:=Nat.le_trans (qj2 s _) (qmy s x l)
theorem qny (s:Sy) (tr:List Lb):(qal s tr).length<=s.es.length+1:=by
 rcases List.eq_nil_or_concat tr with rfl | ⟨tr',x,rfl⟩
 ·have h1:=qj2 s [0]
  have:=qf6 s [0]
  simp only [List.length_cons,List.length_nil] at h1
  show (qau s [0]).length<=_
  omega
 ·have:=qok s x (qal s tr')
  rw [List.concat_eq_append,qh8]
  omega
def Kc (Zb:Nat->Prop) (n0:Nat) (A B:World):Prop:=A.heap.size<=B.heap.size∧∀ k o,A.heap[k]? = some o->¬ Zb k->(o.isCells=true∨k<n0)->B.heap[k]? = some o
theorem kc_t {Zb:Nat->Prop} {n0:Nat} {A B C:World} (h:Kc Zb n0 A B) (k:Kc Zb n0 B C):Kc Zb n0 A C:=⟨Nat.le_trans h.1 k.1,fun i o hi hz hc=>k.2 i o (h.2 i o hi hz hc) hz hc⟩
theorem kc_b {Zb:Nat->Prop} {n0:Nat} (W:World) (l:Nat) (o o':Obj) (hl:n0<=l) (h:W.heap[l]? = some o) (hc:o.isCells=false):Kc Zb n0 W (W.putObj l o') :=
 ⟨by simp,fun k u hk _ hc'=>(World.putObj_heap_other (fun e=>by
  subst e
  rw [h] at hk
  cases hk
  rcases hc' with hc' | hc'
  ·rw [hc] at hc';cases hc'
  ·omega)).trans hk⟩
theorem Kc.of_bt {Zb:Nat->Prop} {n0:Nat} {A B:World} (h:Bt Zb A B):Kc Zb n0 A B:=⟨h.size,fun k _ hk hz _=>(h.block k (Array.getElem?_eq_some_iff.1 hk).1 hz).trans hk⟩
theorem Kc.kp {Zb S:Nat->Prop} {n0:Nat} {A B:World} (h:Kc Zb n0 A B) (hS:∀ k,S k->k<n0∧¬ Zb k):Kp S A B :=
 ⟨h.1,fun k hk hs=>by
  obtain ⟨o,ho⟩:∃ o,A.heap[k]? = some o:=⟨_,Array.getElem?_eq_getElem hk⟩
  rw [ho]
  exact h.2 k o ho (hS k hs).2 (.inr (hS k hs).1)⟩
theorem Kc.rown {Zb:Nat->Prop} {n0:Nat} {A B:World} {xs:List Int} {v:Value} (h:Kc Zb n0 A B) (hZ:∀ k,Zb k->k<n0) (hr:qab qac 1 3 n0 (fun _=>False) A xs v):qab qac 1 3 n0 (fun _=>False) B xs v:=by
 obtain ⟨news,⟨h1,h2⟩,h3⟩:=hr
 refine ⟨news,⟨h1,h2.imp id ?_⟩,h3.imp fun x _ cs h=>h⟩
 rintro ⟨g,cap,cur,rfl,hg,hh,hrest⟩
 exact ⟨g,cap,cur,rfl,hg,h.2 g _ hh (fun hz=>by have:=hZ g hz;omega) (.inl rfl),hrest⟩
theorem ql0 {base B:Nat} {xs:List Int} {v:Value} {β:Type}:OwnFrom B (fun (_:β) W=>qab qac 1 3 base (fun _=>False) W xs v):=by
 intro _ X Y r h hg hr
 obtain ⟨news,h2,h3⟩:=h
 refine ⟨news,⟨h2.1,h2.2.imp id ?_⟩,h3.imp fun _ _ _ hx=>hx⟩
 rintro ⟨gg,cap,cur,rfl,hgg,hh,hrest⟩
 refine ⟨gg,cap,cur,rfl,hgg,(hg.block gg (Array.getElem?_eq_some_iff.1 hh).1 fun e=>?_).trans hh,hrest⟩
 obtain ⟨_,o',h4,h5⟩:=hr gg e.symm
 rw [hh] at h4
 cases h4
 cases h5
theorem qnz {S:Nat->Prop} (w:World) (x:Int) (hx:I64 x) (hS:S w.heap.size):RSl qac 1 S (w.alloc (.cells #[.int .i64 x] 3)) [x] [.slice (some ⟨w.heap.size,0,none⟩) 1 1] :=
 ⟨_,1,rfl,by simp,by decide,.inr ⟨w.heap.size,0,rfl,by simp,hS,⟨[.int .i64 x],rfl,⟨rfl,hx⟩,fun i v h=>by have:=cell_one_new w (.int .i64 x) 3 i v h;rwa [Addr.add_lit] at this⟩,trivial⟩⟩
def qh5 (x:Nat×Value):Array Value:=#[.int .i64 (x.1:Int),x.2]
def walkG (s:Sy) (tr:List Lb) (n0:Nat) (pre:List (Nat×Value)) (x:Nat×Value) (A:World):Prop:=x.1=pre.length∧pre.length<=tr.length∧qab qac 1 3 n0 (fun _=>False) A (qal s (tr.take pre.length)) x.2
theorem walk1_in (n:Nat) (hn:1<=n) (Zb S:Nat->Prop) (n0:Nat) (s:Sy) (hok:qag s) (g:Nat) (tr:List Lb) (v:Value) (Bs Bt l:Nat) (hSZ:∀ k,S k->k<n0∧¬ Zb k) (hZb:∀ k,Zb k->k<n0) (J Jx:List (Nat×Value)->World->Prop) (W:World) (hn0:n0<=W.heap.size)
  (hJ:∀ pre A B,J pre A->Ext A B->J pre B)
  (hY:∀ pre x A,J pre A->walkG s tr n0 pre x A->YieldAt Fence.wide (n-1) Tryz.prog l (qh5 x) A fun e B =>
   (e = .returned (.bool true)∧J (pre++[x]) B∧Kc Zb n0 A B)∨(e = .returned (.bool false)∧Jx (pre++[x]) B))
  (hS:qav S W g s) (ht:qaa S W tr [v]) (hBs:S Bs) (hBt:S Bt) (hcs:W.cell? ⟨Bs,0,none⟩=some (.pointer (some ⟨g,0,none⟩))) (hct:W.cell? ⟨Bt,0,none⟩=some v) (htr:tr.length<=4611686018427387903) (h0:J [] W) :
  CallsIn Fence.wide n Tryz.prog 220 #[.func (.yield l) #[] #[],.pointer (some ⟨Bs,0,none⟩),.pointer (some ⟨Bt,0,none⟩)] W fun e W'=>(∃ v,e = .returned v) ∧
   ((∃ ys,ys.length=tr.length+1∧J ys W')∨(∃ pre,pre.length<=tr.length+1∧Jx pre W')):=by
 obtain ⟨At,ct,rfl,hct1,hct0⟩:=ht.val
 have hcalm:=fun W1 (hW:Ext W W1)=>qlx (fun _=>True) s hok g [0] _ _ ((hS.mono fun _ _ _=>trivial).bel (hW.trans' ((Ext.refl W1).alloc _))) (qnz W1 0 ⟨by decide,by decide⟩ trivial) (by decide)
 have HY:=Hd hY
 have HS:=Hd hS
 have HT:=Hd ht
 have HJ:=Hd hJ
 have HSZ:=Hd hSZ
 have HZB:=Hd hZb
 have H0:=Hd h0
 clear hY hS ht hJ hSZ hZb h0
 refine callsIn_of_wp Tryz.func220 rfl trivial ?_ rfl
 simp only [Tryz.ntmps220,List.size_toArray,List.length_cons,List.length_nil,Nat.reduceAdd,Nat.reduceSub,Array.replicate_succ,Array.replicate_zero,List.push_toArray,List.append_toArray,List.nil_append,List.cons_append]
 gi_wp2_with fail
 refine ⟨trivial,?_⟩
 gi_at_call 208
 refine (callsIn_wide.2 (hcalm W (Ext.refl _))).mono ?_
 rintro e w1 ⟨v1,rfl,ho1,hx1⟩
 have hX1:Ext W w1:=((Ext.refl W).alloc _).trans' hx1
 have hO1:=Hd (ho1.base (base':=n0) (by simp;omega))
 obtain ⟨A1,c1,rfl,hc1,hc10⟩:=(ho1.sl qac.good (by decide)).val
 have hJ1:=Hd (HJ.out _ _ _ H0.out hX1)
 clear ho1 hx1 hcalm
 gi_wp2_with fail
 gi_loopw [4,5] (fun vl i wr=>∃ (k:Nat) (A:Option Addr) (c:Nat) (pre:List (Nat×Value)),k<=tr.length∧i = .int .i64 k∧pre.length=k∧vl = .slice A (qal s (tr.take k)).length c∧qab qac 1 3 n0 (fun _=>False) wr (qal s (tr.take k)) (.slice A (qal s (tr.take k)).length c)∧J pre wr∧Kc Zb n0 W wr) (fun _ i _=>tr.length-(intOf i).toNat)
 case atStart=>exact ⟨0,A1,c1,[],Nat.zero_le _,rfl,rfl,rfl,hO1.out,hJ1.out,Kc.of_bt hX1.bt⟩
 case round =>
  obtain ⟨k,A,c,pre,hk,rfl,hpl,rfl,hown,hJs,hK⟩:=hrel
  obtain ⟨fn,tmps,assign,body,hy,hRd⟩:=HY.out pre (k,.slice A (qal s (tr.take k)).length c) wr hJs ⟨hpl.symm,by omega,by rw [hpl];exact hown⟩
  unfold qh5 at hy
  simp only at hy
  have HO:=Hd hown
  have HP:=Hd hpl
  clear hown hJs hpl
  gi_wp2
  refine hRd.mono ?_
  rintro e W3 (⟨rfl,hJ3,hk3⟩ | ⟨rfl,hJx3⟩)
  ·have hK3:=kc_t hK hk3
   have hkp:=hK3.kp HSZ.out
   have b1:W3.cell? ⟨Bs,0,none⟩=some (.pointer (some ⟨g,0,none⟩)):=(World.cell?_of_block (a:=⟨Bs,0,none⟩) (hkp.block Bs (World.block_lt_of_cell? W _ hcs) hBs)).trans hcs
   have b2:W3.cell? ⟨Bt,0,none⟩=some (.slice At tr.length ct):=(World.cell?_of_block (a:=⟨Bt,0,none⟩) (hkp.block Bt (World.block_lt_of_cell? W _ hct) hBt)).trans hct
   have HS3:=Hd (HS.out.move hkp)
   have HT3:=Hd (qaa.good.move HT.out hkp)
   have HO3:=Hd (hk3.rown HZB.out HO.out)
   have HJ3:=Hd hJ3
   have HK3:=Hd hK3
   clear hJ3 hK3 hkp hk3 hK
   by_cases hlt:k<tr.length
   ·obtain ⟨b,off,cs,hA,hb,hT,hl,hr,hcell⟩:=HT3.out.get k hlt
    obtain rfl:=hA
    obtain ⟨ig,vx,rfl,hvx⟩:=id hr
    have t0:=hcell.get 0 _
    have t1:=hcell.get 1 _
    simp only [Nat.add_zero] at t0
    have hbeh:=fun X (hX:Ext W3 X)=>(qqz (fun _=>True) s hok g (qal s (tr.take k)) tr[k] _ vx X ((HS3.out.mono fun _ _ _=>trivial).bel hX) ((RSl.good qac.good).bel ((RSl.good qac.good).mono (HO3.out.sl qac.good (by decide)) fun _ _ _=>trivial) hX) (RLb.good.bel (RLb.good.mono hr fun _ _ _=>trivial) hX) (by have:=qny s (tr.take k);have:=hok.2.2.2.1;omega)).mono fun e w' h=>qfz.at h (b':=n0) (by have:=hX.size;have:=HK3.out.1;omega)
    have hst:=Hd (qie s tr k hlt)
    clear hcell hl hr hvx hT
    gi_wp2_with fail
    refine wpIn_wide.2 ?_
    go_region_held3 (fun W=>W.cell? ⟨Bs,0,none⟩=some (.pointer (some ⟨g,0,none⟩))∧W.cell? ⟨Bt,0,none⟩=some (.slice (some ⟨b,off,none⟩) tr.length ct)∧W.cell? ⟨b,off+k*2,none⟩=some (.int .i64 tr[k].g)∧W.cell? ⟨b,off+k*2+1,none⟩=some vx)
     (first | (refine ⟨?_,?_,?_,?_⟩ <;> go_simp <;> done) | exact Ext.k4 hx1 (by assumption) | exact Ext.k4 (qad.ext hx1) (by assumption) | exact Ext.k4 ((Ext.refl _).alloc _) (by assumption))
     (first | (go_at_call 221;refine (hbeh _ bel).mono ?_;rintro e w4 ⟨A4,c4,rfl,ho4,hx1⟩))
    gi_wp2_with fail
    go_roundw
    case rel =>
     refine ⟨k+1,A4,c4,pre++[(k,.slice A (qal s (tr.take k)).length c)],by omega,by go_num,by simp [HP.out],?_,?_,HJ.out _ _ _ HJ3.out bel,kc_t HK3.out (Kc.of_bt (Ext.bt bel))⟩
     ·rw [hst.out]
     ·rw [hst.out]
      exact ho4.ext qac.good bel
    case measure=>simp [intOf];omega
   ·have hke:Hid (k=tr.length):=by show _=_;omega
    gi_wp2
    go_end0
    exact ⟨⟨_,rfl⟩,.inl ⟨_,by simp [HP.out,hke.out],HJ3.out⟩⟩
  ·gi_wp2
   go_end0
   exact ⟨⟨_,rfl⟩,.inr ⟨_,by simp [HP.out];omega,hJx3⟩⟩
theorem qnc (n:Nat) (p:Option Addr) (A:Option Addr) (m c:Nat) (w:World) :
  CallsIn Fence.wide n Tryz.prog 150 #[.pointer p,.slice A m c] w fun e w'=>e = .returned (.func (.func 220) #[] #[.pointer (some ⟨w.heap.size,0,none⟩),.pointer (some ⟨w.heap.size+1,0,none⟩)]) ∧
   w'=(w.alloc (.cells #[.pointer p] 111)).alloc (.cells #[.slice A m c] 22):=by
 refine callsIn_wide.2 ?_
 go_enter Tryz.func150,Tryz.ntmps150
 go_wp2_with fail
 go_ret
 exact ⟨rfl,rfl⟩
theorem ql6 (n:Nat) (hn:1<=n) (Zb S:Nat->Prop) (s:Sy) (hok:qag s) (g:Nat) (tr:List Lb) (v:Value) (Bs Bt:Nat) (w:World) (hSZ:∀ k,S k->k<w.heap.size∧¬ Zb k) (hZb:∀ k,Zb k->k<w.heap.size)
  (hS:qav S w g s) (ht:qaa S w tr [v]) (hBs:S Bs) (hBt:S Bt) (hcs:w.cell? ⟨Bs,0,none⟩=some (.pointer (some ⟨g,0,none⟩))) (hct:w.cell? ⟨Bt,0,none⟩=some v) (htr:tr.length<=4611686018427387903) :
  SeqG n Tryz.prog 220 #[.pointer (some ⟨Bs,0,none⟩),.pointer (some ⟨Bt,0,none⟩)] qh5 (Kc Zb w.heap.size) (walkG s tr w.heap.size) (fun ys=>ys.length=tr.length+1) (fun pre=>pre.length<=tr.length+1) w:=fun l J Jx W hW hJ hJx hY h0 =>
 walk1_in n hn Zb S w.heap.size s hok g tr v Bs Bt l hSZ hZb J Jx W hW.size hJ hY (hS.bel hW) (qaa.good.bel ht hW) hBs hBt (Ext.keep hW hcs) (Ext.keep hW hct) htr h0
end
end Go.Proofs.YtegenalcheooeaaGreat
