/- Of the proof of a law of the suites: LibCLb, Sets, Compact. -/
import Derived.Test.YtegenalcheooeaaGreatB03
import Derived.Test.YtegenalcheooeaaGreatB04
import Derived.Test.YtegenalcheooeaaGreatB09
import Derived.Test.YtegenalcheooeaaGreatB11
import Derived.Lib.SliceRun
set_option linter.unusedSectionVars false
set_option linter.unusedSimpArgs false
set_option linter.unusedVariables false
namespace Go.Proofs.YtegenalcheooeaaGreat
open Go.RowKit
attribute [local go_sem] cell?_exto
section

set_option maxHeartbeats 1000000 in
set_option maxRecDepth 100000 in
theorem cmpFLb (cf:Lb→Lb→Int) (S:Nat→Prop) (w:World) (xs ys:List (Lb)) (v u:Value) (hx:RSl RLb 2 S w xs [v]) (hy:RSl RLb 2 S w ys [u]) (g:Nat) (lb:Array Value)
  (eg:∀ args w,(callFunc g args).run Tryz.prog w = .ok (.enter g args) w)
  (hp:∀ x∈xs,∀ y∈ys,∀ cs cs2 W,qaf w W→RLb S W x cs→RLb S W y cs2→Calls Tryz.prog g (#[.agg cs.toArray,.agg cs2.toArray]++lb) W fun e w'=>e = .returned (.int .i64 (cf x y))∧qaf W w') :
  Calls Tryz.prog 210 #[v,u,.func (.func g) #[] lb] w fun e w'=>e = .returned (.int .i64 (qaz cf xs ys))∧qaf w w':=by
 obtain ⟨A,c,rfl,hc,hc0⟩:=hx.val
 obtain ⟨A',c',rfl,hc',hc0'⟩:=hy.val
 have HX:=Hd hx
 have HY:=Hd hy
 have HP:=Hd hp
 clear hx hy hp
 go_enter Tryz.func210,Tryz.ntmps210
 go_wp2_with fail
 go_loopw [7,8,9,10,13] (fun _ _ _ _ i wr=>∃ k:Nat,k≤xs.length∧k≤ys.length∧i = .int .i64 k∧qaf w wr∧Hid (qaz cf xs ys=qaz cf (xs.drop k) (ys.drop k))) (fun _ _ _ _ i _=>xs.length-(intOf i).toNat)
 case atStart=>exact ⟨0,Nat.zero_le _,Nat.zero_le _,rfl,qaf.refl _,rfl⟩
 case round =>
  obtain ⟨k,hk,hk2,rfl,hE,hf⟩:=hrel
  by_cases hlt:k<xs.length
  ·obtain ⟨b,off,cs,rfl,hb,hS,hl,hr,hcell⟩:=((RSl.good RLb.good).ext HX.out hE).get k hlt
   by_cases hlt2:k<ys.length
   ·obtain ⟨b2,off2,cs2,rfl,hb2,hS2,hl2,hr2,hcell2⟩:=((RSl.good RLb.good).ext HY.out hE).get k hlt2
    have hcon:=fun W (hW:qaf wr W)=>HP.out xs[k] (List.getElem_mem hlt) ys[k] (List.getElem_mem hlt2) cs cs2 W (hE.trans hW) (RLb.good.ext hr hW) (RLb.good.ext hr2 hW)
    obtain ⟨c0,c1,rfl⟩:∃ c0 c1,cs=[c0,c1]:=by
     match cs,hl with
     | [c0,c1],_=>exact ⟨c0,c1,rfl⟩
    have g0:=(by simpa using hcell.get 0 _:wr.cell? ⟨b,off+k*2,none⟩=some c0)
    have g1:=hcell.get 1 _
    obtain ⟨d0,d1,rfl⟩:∃ d0 d1,cs2=[d0,d1]:=by
     match cs2,hl2 with
     | [d0,d1],_=>exact ⟨d0,d1,rfl⟩
    have q0:=(by simpa using hcell2.get 0 _:wr.cell? ⟨b2,off2+k*2,none⟩=some d0)
    have q1:=hcell2.get 1 _
    have s0:=fun (W:World) (a:Addr) (m:Mode)=>run_store Tryz.prog W a c0 m (RLb.good.one hr c0 (by simp))
    have s1:=fun (W:World) (a:Addr) (m:Mode)=>run_store Tryz.prog W a c1 m (RLb.good.one hr c1 (by simp))
    have t0:=fun (W:World) (a:Addr) (m:Mode)=>run_store Tryz.prog W a d0 m (RLb.good.one hr2 d0 (by simp))
    have t1:=fun (W:World) (a:Addr) (m:Mode)=>run_store Tryz.prog W a d1 m (RLb.good.one hr2 d1 (by simp))
    rw [List.drop_eq_getElem_cons hlt,List.drop_eq_getElem_cons hlt2,qaz] at hf
    clear hcell hcell2 hl hl2 hS hS2 hr hr2
    by_cases hq:cf xs[k] ys[k]=0
    ·rw [if_pos hq] at hf
     have Hf:=Hd hf
     have hq1:(cf xs[k] ys[k] != 0)=false:=by rw [hq];rfl
     rw [hq] at hcon
     clear hf hq1 hq
     go_wp2_with fail
     refine (hcon _ qaj).mono ?_
     rintro e w1 ⟨rfl,h1⟩
     go_wp2_with fail
     go_roundw
     case rel=>exact ⟨k+1,by omega,by omega,by go_num,qaj,Hf.out⟩
     case measure=>simp [intOf];omega
    ·rw [if_neg hq] at hf
     have Hf:=Hd hf
     have hq1:(cf xs[k] ys[k] != 0)=true:=bne_iff_ne.2 hq
     clear hf hq
     go_wp2_with fail
     refine (hcon _ qaj).mono ?_
     rintro e w1 ⟨rfl,h1⟩
     go_wp2_with fail
     go_ret
     exact ⟨by rw [Hf.out];rfl,qaj⟩
   ·rw [List.drop_of_length_le (l:=ys) (by omega),List.drop_eq_getElem_cons hlt,qaz] at hf
    have Hf:=Hd hf
    obtain ⟨c0,c1,rfl⟩:∃ c0 c1,cs=[c0,c1]:=by
     match cs,hl with
     | [c0,c1],_=>exact ⟨c0,c1,rfl⟩
    have g0:=(by simpa using hcell.get 0 _:wr.cell? ⟨b,off+k*2,none⟩=some c0)
    have g1:=hcell.get 1 _
    have s0:=fun (W:World) (a:Addr) (m:Mode)=>run_store Tryz.prog W a c0 m (RLb.good.one hr c0 (by simp))
    have s1:=fun (W:World) (a:Addr) (m:Mode)=>run_store Tryz.prog W a c1 m (RLb.good.one hr c1 (by simp))
    clear hf hcell
    go_wp2_with fail
    go_ret
    exact ⟨by rw [Hf.out];rfl,qaj⟩
  ·rw [List.drop_of_length_le (l:=xs) (by omega)] at hf
   by_cases hlt2:k<ys.length
   ·rw [List.drop_eq_getElem_cons hlt2,qaz] at hf
    have Hf:=Hd hf
    clear hf
    go_wp2_with fail
    go_ret
    exact ⟨by rw [Hf.out];rfl,hE⟩
   ·rw [List.drop_of_length_le (by omega),qaz] at hf
    have Hf:=Hd hf
    clear hf
    go_wp2_with fail
    go_ret
    exact ⟨by rw [Hf.out];rfl,hE⟩
end
section
set_option maxHeartbeats 1000000
set_option maxRecDepth 100000
/- suite.subset,sets,same,and the closures of least: walked. -/
def subB (a b:List Lb):Bool:=!(a.any fun x=>!qc4 x b)
theorem eg261:∀ args w,(callFunc 261 args).run Tryz.prog w = .ok (.enter 261 args) w:=enters_of Tryz.func261 (by kernel_rfl) rfl
theorem subset1_c (S:Nat→Prop) (l:List Lb) (x:Lb) (v:Value) (B:Nat) (cx:List Value) (w:World) (hl:qaa S w l [v]) (hx:RLb S w x cx) (hn:l.length≤4611686018427387903) (hB:w.cell? ⟨B,0,none⟩=some v) :
  Calls Tryz.prog 261 #[.agg cx.toArray,.pointer (some ⟨B,0,none⟩)] w fun e w'=>e = .returned (.bool (!qc4 x l))∧Ext w w':=by
 have hcon:=fun W (hW:qaf w W)=>qsz S l x v cx W (qaa.good.ext hl hW) (RLb.good.ext hx hW) hn
 obtain ⟨A,c,rfl,hc,hc0⟩:=hl.val
 obtain ⟨_,vx,rfl,hvx⟩:=id hx
 have hB0:=World.block_lt_of_cell? w _ hB
 clear hl hx hvx
 go_enter Tryz.func261,Tryz.ntmps261
 go_wp2_with fail
 refine (hcon _ qaj).mono ?_
 rintro e w1 ⟨rfl,h1⟩
 go_wp2_with fail
 go_ret
 exact ⟨rfl,bel⟩
theorem subset_c (S:Nat→Prop) (a b:List Lb) (va vb:Value) (w:World) (ha:qaa S w a [va]) (hb:qaa S w b [vb]) (hn:b.length≤4611686018427387903) :
  Calls Tryz.prog 219 #[va,vb] w fun e w'=>e = .returned (.bool (subB a b))∧Ext w w':=by
 have hcon:=fun B W (hW:Ext w W) (hB:W.cell? ⟨B,0,none⟩=some vb)=>conPLb (fun x=>!qc4 x b) S W a va (qaa.good.bel ha hW) 261 #[.pointer (some ⟨B,0,none⟩)] eg261
  (fun x hx cs W' hW' hr=>subset1_c S b x vb B cs W' (qaa.good.bel hb (hW.trans' hW')) hr hn ((hW'.cell (World.block_lt_of_cell? W _ hB)).trans hB))
 obtain ⟨A,c,rfl,hc,hc0⟩:=ha.val
 obtain ⟨A',c',rfl,hc',hc0'⟩:=hb.val
 clear ha hb
 go_enter Tryz.func219,Tryz.ntmps219
 go_wp2_with fail
 refine (hcon _ _ bel (by go_simp)).mono ?_
 rintro e w1 ⟨rfl,h1⟩
 go_wp2_with fail
 go_ret
 exact ⟨rfl,bel⟩
def qd7 (a b:List Lb):Int:=qaz qao a b
theorem eg166:∀ args w,(callFunc 166 args).run Tryz.prog w = .ok (.enter 166 args) w:=enters_of Tryz.func166 (by kernel_rfl) rfl
theorem sets_c (S:Nat→Prop) (a b:List Lb) (va vb:Value) (w:World) (ha:qaa S w a [va]) (hb:qaa S w b [vb]) :
  Calls Tryz.prog 143 #[va,vb] w fun e w'=>e = .returned (.int .i64 (qd7 a b))∧qaf w w':=by
 have hcon:=fun W (hW:qaf w W)=>cmpFLb qao S W a b va vb (qaa.good.ext ha hW) (qaa.good.ext hb hW) 166 #[] eg166
  (fun x hx y hy cs cs2 W' hW' hr hr2=>qho S x y cs cs2 W' hr hr2)
 obtain ⟨A,c,rfl,hc,hc0⟩:=ha.val
 obtain ⟨A',c',rfl,hc',hc0'⟩:=hb.val
 clear ha hb
 go_enter Tryz.func143,Tryz.ntmps143
 go_wp2_with fail
 refine (hcon _ qaj).mono ?_
 rintro e w1 ⟨rfl,h1⟩
 go_wp2_with fail
 go_ret
 exact ⟨rfl,qaj⟩
theorem same_c (S:Nat→Prop) (a b:List Lb) (va vb:Value) (w:World) (ha:qaa S w a [va]) (hb:qaa S w b [vb]) :
  Calls Tryz.prog 145 #[va,vb] w fun e w'=>e = .returned (.bool (decide (qd7 a b=0)))∧qaf w w':=by
 have hcon:=fun W (hW:qaf w W)=>sets_c S a b va vb W (qaa.good.ext ha hW) (qaa.good.ext hb hW)
 obtain ⟨A,c,rfl,hc,hc0⟩:=ha.val
 obtain ⟨A',c',rfl,hc',hc0'⟩:=hb.val
 clear ha hb
 generalize qd7 a b=i at hcon ⊢
 go_enter Tryz.func145,Tryz.ntmps145
 go_wp2_with fail
 refine (hcon _ qaj).mono ?_
 rintro e w1 ⟨rfl,h1⟩
 go_wp2_with fail
 go_ret
 exact ⟨rfl,qaj⟩
def qff (a b:List Lb):Bool:=decide (b.length<a.length) && subB b a
theorem eg218:∀ args w,(callFunc 218 args).run Tryz.prog w = .ok (.enter 218 args) w:=enters_of Tryz.func218 (by kernel_rfl) rfl
theorem least11_c (S:Nat→Prop) (a b:List Lb) (va vb:Value) (B:Nat) (w:World) (ha:qaa S w a [va]) (hb:qaa S w b [vb]) (hn:a.length≤4611686018427387903) (hB:w.cell? ⟨B,0,none⟩=some va) :
  Calls Tryz.prog 218 #[vb,.pointer (some ⟨B,0,none⟩)] w fun e w'=>e = .returned (.bool (qff a b))∧Ext w w':=by
 have hcon:=fun W (hW:Ext w W)=>subset_c S b a vb va W (qaa.good.bel hb hW) (qaa.good.bel ha hW) hn
 obtain ⟨A,c,rfl,hc,hc0⟩:=ha.val
 obtain ⟨A',c',rfl,hc',hc0'⟩:=hb.val
 have hB0:=World.block_lt_of_cell? w _ hB
 clear ha hb
 by_cases hlt:b.length<a.length
 ·have HV:=Hd (show qff a b=subB b a from by rw [qff,decide_eq_true hlt,Bool.true_and])
  have z:=decide_eq_true (show (b.length:Int)<(a.length:Int) by omega)
  go_enter Tryz.func218,Tryz.ntmps218
  go_wp2_with fail
  refine (hcon _ bel).mono ?_
  rintro e w1 ⟨rfl,h1⟩
  go_wp2_with fail
  go_ret
  exact ⟨by rw [HV.out];rfl,bel⟩
 ·have HV:=Hd (show qff a b=false from by rw [qff,decide_eq_false hlt,Bool.false_and])
  have z:=decide_eq_false (show ¬ (b.length:Int)<(a.length:Int) by omega)
  go_enter Tryz.func218,Tryz.ntmps218
  go_wp2_with fail
  go_ret
  exact ⟨by rw [HV.out];rfl,bel⟩
theorem eg217:∀ args w,(callFunc 217 args).run Tryz.prog w = .ok (.enter 217 args) w:=enters_of Tryz.func217 (by kernel_rfl) rfl
theorem least1_c (S:Nat→Prop) (a:List Lb) (l:List (List Lb)) (va vl:Value) (B:Nat) (w:World) (ha:qaa S w a [va]) (hl:RSl qaa 1 S w l [vl]) (hn:a.length≤4611686018427387903) (hB:w.cell? ⟨B,0,none⟩=some vl) :
  Calls Tryz.prog 217 #[va,.pointer (some ⟨B,0,none⟩)] w fun e w'=>e = .returned (.bool (l.any (qff a)))∧Ext w w':=by
 have hcon:=fun B' W (hW:Ext w W) (hB':W.cell? ⟨B',0,none⟩=some va)=>conPLbs (qff a) S W l vl ((RSl.good qaa.good).bel hl hW) 218 #[.pointer (some ⟨B',0,none⟩)] eg218
  (fun x hx cs W' hW' hr=>by
   obtain ⟨A,c,rfl,_⟩:=id hr
   exact least11_c S a x va _ B' W' (qaa.good.bel ha (hW.trans' hW')) hr hn (Ext.keep hW' hB'))
 obtain ⟨A,c,rfl,hc,hc0⟩:=ha.val
 obtain ⟨A',c',rfl,hc',hc0'⟩:=hl.val
 have hB0:=World.block_lt_of_cell? w _ hB
 clear ha hl
 go_enter Tryz.func217,Tryz.ntmps217
 go_wp2_with fail
 refine (hcon _ _ bel (by go_simp)).mono ?_
 rintro e w1 ⟨rfl,h1⟩
 go_wp2_with fail
 go_ret
 exact ⟨rfl,bel⟩
end
section

section
variable {α:Type} (eq:α→α→Bool)
def qdo:α→List α→List α
 | _,[]=>[]
 | p,y :: ys=>if eq y p then qdo y ys else y :: qdo y ys
def qbv:List α→List α
 | []=>[]
 | x :: xs=>x :: qdo eq x xs
theorem qp4 (z:α):∀ (xs:List α) (p:α),qdo eq p (xs++[z])=qdo eq p xs++(if eq z ((p :: xs).getLast (by simp)) then [] else [z])
 | [],p=>by cases h:eq z p <;> simp [qdo,h]
 | y :: ys,p=>by
  have h:=qp4 z ys y
  rw [List.cons_append,qdo,qdo,h,List.getLast_cons_cons]
  split <;> rfl
theorem qrv:∀ (xs:List α) (p:α),(qdo eq p xs).length≤xs.length
 | [],p=>Nat.le_refl _
 | y :: ys,p=>by
  have:=qrv ys y
  rw [qdo]
  split <;> simp only [List.length_cons] <;> omega
theorem qs0:∀ xs:List α,(qbv eq xs).length≤xs.length
 | []=>Nat.le_refl _
 | x :: xs=>by have:=qrv eq xs x;rw [qbv,List.length_cons,List.length_cons];omega
theorem qn3 (l:List α) (k:Nat) (h1:1≤k) (hk:k<l.length):qbv eq (l.take (k+1))=if eq l[k] l[k-1] then qbv eq (l.take k) else qbv eq (l.take k)++[l[k]]:=by
 rw [List.take_succ_eq_append_getElem hk]
 obtain ⟨p,xs,he⟩:∃ p xs,l.take k=p :: xs:=by
  cases h:l.take k with
  | nil=>have:=congrArg List.length h;rw [List.length_take,List.length_nil] at this;omega
  | cons p xs=>exact ⟨p,xs,rfl⟩
 have hl:(p :: xs).getLast (by simp)=l[k-1]:=by
  have hlen:(p :: xs).length=k:=by rw [← he,List.length_take];omega
  rw [List.getLast_eq_getElem]
  simp only [← he]
  rw [List.getElem_take]
  congr 1
  rw [List.length_take]
  omega
 rw [he,List.cons_append,qbv,qp4,hl,qbv]
 split <;> simp
theorem qoc:∀ (xs:List α) (p x:α),x∈qdo eq p xs→x∈xs
 | [],_,_,h=>h
 | y :: ys,p,x,h=>by
  rw [qdo] at h
  split at h
  ·exact List.mem_cons_of_mem _ (qoc ys y x h)
  ·rcases List.mem_cons.1 h with rfl | h
   ·simp
   ·exact List.mem_cons_of_mem _ (qoc ys y x h)
theorem qjk:∀ (xs:List α) (x:α),x∈qbv eq xs→x∈xs
 | [],x,h=>h
 | y :: ys,x,h=>by
  rw [qbv] at h
  rcases List.mem_cons.1 h with rfl | h
  ·simp
  ·exact List.mem_cons_of_mem _ (qoc eq ys y x h)
def qd4 (l:List α) (m:Nat):List α:=qbv eq (l.take m)++l.drop (qbv eq (l.take m)).length
theorem qgc (l:List α) (m:Nat):(qd4 eq l m).length=l.length:=by
 have h:=qs0 eq (l.take m)
 rw [List.length_take] at h
 rw [qd4,List.length_append,List.length_drop]
 omega
theorem qs4 (l:List α) (m j:Nat) (hj:(qbv eq (l.take m)).length≤j) (hl:j<l.length):(qd4 eq l m)[j]'(by rw [qgc];exact hl)=l[j]:=by
 unfold qd4
 rw [List.getElem_append_right hj]
 simp only [List.getElem_drop]
 congr 1
 omega
theorem qtt (l:List α) (m:Nat) (h1:1≤m) (hm:m<l.length) (he:eq l[m] l[m-1]=true):qd4 eq l (m+1)=qd4 eq l m∧qbv eq (l.take (m+1))=qbv eq (l.take m):=by
 have h:=qn3 eq l m h1 hm
 rw [if_pos he] at h
 exact ⟨by rw [qd4,h];rfl,h⟩
theorem compY_put (l:List α) (m:Nat) (h1:1≤m) (hm:m<l.length) (he:eq l[m] l[m-1]=false) (hi:(qbv eq (l.take m)).length<l.length) :
  qd4 eq l (m+1)=(qd4 eq l m).set (qbv eq (l.take m)).length l[m]∧qbv eq (l.take (m+1))=qbv eq (l.take m)++[l[m]]:=by
 have h:=qn3 eq l m h1 hm
 rw [if_neg (by rw [he];decide)] at h
 refine ⟨?_,h⟩
 rw [qd4,qd4,h,List.set_append_right _ _ (Nat.le_refl _),Nat.sub_self,List.drop_eq_getElem_cons hi,List.set_cons_zero,List.length_append,List.length_singleton,List.append_assoc]
 rfl
end
theorem qtv {w:World} {base size n m cap g:Nat} {e:TypeId} {xs:List Value} (h:w.ownsRow base e size (.slice (some ⟨g,0,none⟩) n cap) n xs) (hm:m≤n):w.ownsRow base e size (.slice (some ⟨g,0,none⟩) m cap) m (xs.take (m*size)):=by
 have hmn:m*size≤n*size:=Nat.mul_le_mul_right _ hm
 rcases h.2 with ⟨h',_⟩ | ⟨g',cap',cur,h',hb,hg,hnc,hcm,hcs,htake⟩
 ·simp at h'
 ·simp only [Value.slice.injEq,Option.some.injEq,Addr.mk.injEq,and_true,true_and] at h'
  obtain ⟨rfl,rfl⟩:=h'
  refine ⟨by rw [List.length_take,h.1];omega,.inr ⟨g,cap,cur,rfl,hb,hg,by omega,hcm,hcs,?_⟩⟩
  rw [← htake,List.take_take,Nat.min_eq_left hmn]
theorem qqj {base size n cap g:Nat} {e:TypeId} {xs:List Value}:∀ (vs:List Value) (o:Nat) (w:World),n*size≤o→w.ownsRow base e size (.slice (some ⟨g,0,none⟩) n cap) n xs→(w.setCells g o vs).ownsRow base e size (.slice (some ⟨g,0,none⟩) n cap) n xs∧Bt (fun b=>b=g) w (w.setCells g o vs)
 | [],o,w,_,h=>⟨h,Bt.refl _ _⟩
 | v :: vs,o,w,ho,h=>by
  have h1:=(h.stored o v).1
  rw [List.set_eq_of_length_le (by rw [h.1];exact ho)] at h1
  obtain ⟨h2,h3⟩:=qqj vs (o+1) _ (by omega) h1
  exact ⟨h2,((Bt.refl (fun b=>b=g) w).set (p:=⟨g,o,none⟩) (.inr rfl) v).trans h3⟩
theorem Flat.take {α:Type} {R:Rdr α} {k:Nat} {S:Nat→Prop} {w:World}:∀ {xs:List α} {cs:List Value} (m:Nat),Flat R k S w xs cs→Flat R k S w (xs.take m) (cs.take (m*k))
 | xs,cs,0,h=>by simp [Flat]
 | [],cs,m+1,h=>by rw [show cs=[] from h];simp [Flat]
 | x :: xs,cs,m+1,⟨c1,c2,h1,h2,h3,h4⟩=>by
  refine ⟨c1,c2.take (m*k),?_,h2,h3,Flat.take m h4⟩
  rw [h1,List.take_append,h2,List.take_of_length_le (by rw [h2,Nat.add_mul];omega)]
  congr 2
  rw [Nat.add_mul]
  omega
section
variable {α:Type} {R:Rdr α} {k:Nat} {e:TypeId} {base:Nat} {T:Nat→Prop} {w:World} {xs:List α}
theorem qab.get1 {g n cap:Nat} (h:qab R 1 e base T w xs (.slice (some ⟨g,0,none⟩) n cap)) (i:Nat) (hi:i<xs.length) :
  ∃ u,w.cell? ⟨g,i,none⟩=some u∧R (fun b=>T b∧b≠g) w xs[i] [u]∧w.frozen? ⟨g,i,none⟩=false:=by
 obtain ⟨news,h1,h2⟩:=h
 have hn:n=xs.length:=by
  rcases h1.2 with ⟨h',_⟩ | ⟨g',cap',cur,h',_⟩
  ·simp at h'
  ·simp at h';exact h'.2.1
 subst hn
 rw [qfs] at h2
 obtain ⟨c1,h3,h4,h5⟩:=h2.at i hi
 obtain ⟨u,rfl⟩:∃ u,c1=[u]:=by
  match c1,h3 with
  | [u],_=>exact ⟨u,rfl⟩
 have:=h5 0 (by decide)
 refine ⟨u,?_,h4,h1.frozenAt i⟩
 rw [h1.cellAt i (by omega)]
 simpa using this
theorem qab.put1 {g n cap:Nat} (hR:Good R 1) (h:qab R 1 e base T w xs (.slice (some ⟨g,0,none⟩) n cap)) (hn:n=xs.length) (i:Nat) (u:Value) (x':α) (hi:i<xs.length) (hu:R (fun b=>T b∧b≠g) w x' [u]) :
  qab R 1 e base T (w.setCell ⟨g,i,none⟩ u) (xs.set i x') (.slice (some ⟨g,0,none⟩) n cap):=by
 subst hn
 have:=qab.put hR h i 0 u x' (by decide) hi fun cs hcs=>by
  have hl:=hR.len hcs
  match cs,hl with
  | [a],_=>exact hu
 simpa using this
theorem qab.cut {g n cap:Nat} (hR:Good R k) (h:qab R k e base T w xs (.slice (some ⟨g,0,none⟩) n cap)) (hn:n=xs.length) (m:Nat) (hm:m≤n) (vs:List Value) (o:Nat) (ho:m*k≤o) :
  qab R k e base T (w.setCells g o vs) (xs.take m) (.slice (some ⟨g,0,none⟩) m cap)∧Bt (fun b=>b=g) w (w.setCells g o vs):=by
 subst hn
 obtain ⟨news,h1,h2⟩:=h
 rw [qfs] at h2
 obtain ⟨h3,h4⟩:=qqj vs o w ho (qtv h1 hm)
 refine ⟨⟨news.take (m*k),?_,?_⟩,h4⟩
 ·rw [List.length_take,Nat.min_eq_left hm];exact h3
 ·rw [qfs]
  exact (h2.take m).imp fun x _ cs hx=>hR.move hx (h4.kp fun b _ hb=>hb.2)
end
def qcd (a b:List Lb):Bool:=decide (qd7 a b=0)
def qb4 (l:List (List Lb)):List (List Lb):=qbv qcd l
set_option maxHeartbeats 1000000 in
set_option maxRecDepth 100000 in
theorem qoe (base:Nat) (T:Nat→Prop) (l:List (List Lb)) (v:Value) (w:World) (hown:qab qaa 1 22 base T w l v) (hlen:l.length≤1000000000) :
  Calls Tryz.prog 144 #[v,.func (.func 145) #[] #[]] w fun e w'=>∃ A c,e = .returned (.slice A (qb4 l).length c)∧qab qaa 1 22 base T w' (qb4 l) (.slice A (qb4 l).length c)∧Bt (fun b=>v.ownBlock=some b) w w':=by
 by_cases h2:l.length<2
 ·have hc:Hid (qb4 l=l):=by
   show _=_
   match l,h2 with
   | [],_=>rfl
   | [x],_=>rfl
  obtain ⟨A,c,rfl,_,_⟩:=(hown.sl qaa.good (by decide)).val
  have HO:=Hd hown
  clear hown
  go_enter Tryz.func144,Tryz.ntmps144
  go_wp2_with fail
  go_ret
  rw [hc.out]
  exact ⟨A,c,rfl,HO.out,Bt.refl _ _⟩
 obtain ⟨g,cap,rfl⟩:∃ g cap,v = .slice (some ⟨g,0,none⟩) l.length cap:=by
  obtain ⟨news,h1,_⟩:=hown
  exact Joins.ownsRow_form h1 (by omega)
 have hcap:l.length≤cap∧cap≤9223372036854775807:=by
  obtain ⟨A,c,he,h3,h4⟩:=(hown.sl qaa.good (by decide)).val
  injection he with _ _ he
  exact ⟨by omega,by omega⟩
 have hZ:(fun b=>(Value.slice (some ⟨g,0,none⟩) l.length cap).ownBlock=some b)=fun b=>b=g:=by funext b;simp [Value.ownBlock,eq_comm]
 rw [hZ]
 have HO:=Hd hown
 clear hown hZ
 go_enter Tryz.func144,Tryz.ntmps144
 go_wp2_with fail
 go_loopw [5] (fun i wr=>∃ k:Nat,1≤k∧k≤l.length∧i = .int .i64 k∧Ext w wr∧Hid (qb4 (l.take k)=l.take k)) (fun i _=>l.length-(intOf i).toNat)
 case atStart=>exact ⟨1,Nat.le_refl _,by omega,rfl,Ext.refl _,by
  show _=_
  cases l with
  | nil=>simp at h2
  | cons x xs=>simp [qb4,qbv,qdo]⟩
 case round =>
  obtain ⟨k,hk1,hk,rfl,hE,hf⟩:=hrel
  by_cases hlt:k<l.length
  ·have hO:=HO.out.ext qaa.good hE
   obtain ⟨u1,a1,r1,_⟩:=hO.get1 k hlt
   obtain ⟨u2,a2,r2,_⟩:=hO.get1 (k-1) (by omega)
   have hs0:=fun X=>same_c (fun _=>True) l[k] l[k-1] u1 u2 (qam wr X) (qaa.good.bel (qaa.good.mono r1 fun _ _ _=>trivial) (qa8 wr X)) (qaa.good.bel (qaa.good.mono r2 fun _ _ _=>trivial) (qa8 wr X))
   obtain ⟨A1,c1,rfl,_,_⟩:=r1.val
   obtain ⟨A2,c2,rfl,_,_⟩:=r2.val
   have hst:=qn3 qcd l k hk1 hlt
   have hk0:(0:Int)≤(k:Int)-1:=by omega
   have hk2:((k:Int)-1).toNat=k-1:=by omega
   have hk3:(k:Int)-1<(l.length:Int):=by omega
   by_cases he:qcd l[k] l[k-1]=true
   ·have hs:∀ X,Calls Tryz.prog 145 #[.slice A1 l[k].length c1,.slice A2 l[k-1].length c2] (qam wr X) fun e w'=>e = .returned (.bool true)∧qaf (qam wr X) w':=fun X=>by have:=hs0 X;rwa [show decide (qd7 l[k] l[k-1]=0)=true from he] at this
    rw [if_pos he] at hst
    have HST:=Hd hst
    have HOr:=Hd hO
    clear hs0 hst hO r1 r2
    go_wp2_with fail
    (refine qaw (by kernel_rfl) (by kernel_rfl) ?_;(repeat (first | go_big_quiet_step ((go_at_call 145;exact qav (hs _))) | quiet_step ((go_at_call 145;exact qav (hs _)))));refine wpQuiet_nil ?_)
    intro w2 hx2
    have hO2:=Hd (HOr.out.ext qaa.good hx2)
    have hX2:=hE.trans' hx2
    clear hs hx2 HOr a1 a2
    go_wp2_with fail
    go_loopw [5,7] (fun vi v2 wr'=>∃ d i:Nat,1≤d∧k+d≤l.length∧vi = .int .i64 (i:Nat)∧v2 = .int .i64 (d:Nat)∧i<k+d∧Hid ((qbv qcd (l.take (k+d))).length=i∧qab qaa 1 22 base T wr' (qd4 qcd l (k+d)) (.slice (some ⟨g,0,none⟩) l.length cap))∧Bt (fun b=>b=g) w wr') (fun _ v2 _=>l.length-k-(intOf v2).toNat)
    case atStart =>
     have hk':qbv qcd (l.take k)=l.take k:=hf.out
     have hY:qd4 qcd l (k+1)=l:=by rw [qd4,HST.out,hk',List.length_take,Nat.min_eq_left hk,List.take_append_drop]
     refine ⟨1,k,Nat.le_refl _,by omega,rfl,rfl,by omega,⟨by rw [HST.out,hk',List.length_take,Nat.min_eq_left hk],by rw [hY];exact hO2.out⟩,hX2.bt⟩
    case round =>
     obtain ⟨d,i,hd1,hd,rfl,rfl,hi,hR,hB⟩:=hrel
     by_cases hlt2:k+d<l.length
     ·have hlt3:k+(d-1)<l.length:=by omega
      have hle3:1≤k+d:=by omega
      have hlt4:i<l.length:=by omega
      obtain ⟨hci,hO3⟩:=hR.out
      obtain ⟨u1,a1,r1,_⟩:=hO3.get1 (k+d) (by rw [qgc];exact hlt2)
      obtain ⟨u2,a2,r2,_⟩:=hO3.get1 (k+(d-1)) (by rw [qgc];omega)
      rw [qs4 qcd l (k+d) (k+d) (by omega) hlt2] at r1
      rw [qs4 qcd l (k+d) (k+(d-1)) (by omega) hlt3] at r2
      have hs0:=fun X=>same_c (fun _=>True) l[k+d] l[k+(d-1)] u1 u2 (qam wr X) (qaa.good.bel (qaa.good.mono r1 fun _ _ _=>trivial) (qa8 wr X)) (qaa.good.bel (qaa.good.mono r2 fun _ _ _=>trivial) (qa8 wr X))
      have hix:qcd l[k+d] l[k+(d-1)]=qcd l[k+d] (l[k+d-1]'(by omega)):=by
       have hx:k+(d-1)=k+d-1:=by omega
       simp only [hx]
      have hsm:=fun h=>qtt qcd l (k+d) hle3 hlt2 h
      have hpt:=fun h=>compY_put qcd l (k+d) hle3 hlt2 h (by rw [hci];exact hlt4)
      rw [← hix] at hsm hpt
      obtain ⟨A3,c3,rfl,_,_⟩:=r1.val
      obtain ⟨A4,c4,rfl,_,_⟩:=r2.val
      have hd0:(0:Int)≤(d:Int)-1:=by omega
      have hd2:((d:Int)-1).toNat=d-1:=by omega
      by_cases he2:qcd l[k+d] l[k+(d-1)]=true
      ·have hs:∀ X,Calls Tryz.prog 145 #[.slice A3 l[k+d].length c3,.slice A4 l[k+(d-1)].length c4] (qam wr X) fun e w'=>e = .returned (.bool true)∧qaf (qam wr X) w':=fun X=>by have:=hs0 X;rwa [show decide (qd7 l[k+d] l[k+(d-1)]=0)=true from he2] at this
       have hsame:=Hd (hsm he2)
       have HO3:=Hd hO3
       have HCI:=Hd hci
       clear hs0 hO3 r1 r2 hsm hpt hix hci hR
       go_wp2_with fail
       (refine qaw (by kernel_rfl) (by kernel_rfl) ?_;(repeat (first | go_big_quiet_step ((go_at_call 145;exact qav (hs _))) | quiet_step ((go_at_call 145;exact qav (hs _)))));refine wpQuiet_nil ?_)
       intro w5 hx5
       go_wp2_with fail
       go_roundw
       case rel =>
        refine ⟨d+1,i,by omega,by omega,rfl,by go_num,by omega,⟨?_,?_⟩,hB.ext hx5⟩
        ·rw [show k+(d+1)=k+d+1 from by omega,hsame.out.2];exact HCI.out
        ·rw [show k+(d+1)=k+d+1 from by omega,hsame.out.1];exact HO3.out.ext qaa.good hx5
       case measure=>simp [intOf];omega
      ·have hs:∀ X,Calls Tryz.prog 145 #[.slice A3 l[k+d].length c3,.slice A4 l[k+(d-1)].length c4] (qam wr X) fun e w'=>e = .returned (.bool false)∧qaf (qam wr X) w':=fun X=>by have:=hs0 X;rwa [show decide (qd7 l[k+d] l[k+(d-1)]=0)=false from eq_false_of_ne_true he2] at this
       have hput:=Hd (hpt (eq_false_of_ne_true he2))
       obtain ⟨u6,b6,_,f6⟩:=hO3.get1 i (by rw [qgc];omega)
       have HO3:=Hd hO3
       have HCI:=Hd hci
       have HR1:=Hd r1
       clear hs0 hO3 r1 r2 hsm hpt hix hci hR
       go_wp2_with fail
       (refine qaw (by kernel_rfl) (by kernel_rfl) ?_;(repeat (first | go_big_quiet_step ((go_at_call 145;exact qav (hs _))) | quiet_step ((go_at_call 145;exact qav (hs _)))));refine wpQuiet_nil ?_)
       intro w5 hx5
       have a5:=Ext.keep hx5 a1
       have b5:=Ext.keep hx5 b6
       have f5:=qa4 hx5 (World.block_lt_of_cell? _ _ b6) f6
       clear a1 a2 b6 f6 hs
       go_wp2_with fail
       go_roundw
       case rel =>
        have hput2:=qab.put1 qaa.good (HO3.out.ext qaa.good hx5) (by rw [qgc]) i (.slice A3 l[k+d].length c3) l[k+d] (by rw [qgc];omega) (qaa.good.bel HR1.out hx5)
        refine ⟨d+1,i+1,by omega,by omega,by go_num,by go_num,by omega,⟨?_,?_⟩,(hB.ext hx5).set (.inr rfl) _⟩
        ·rw [show k+(d+1)=k+d+1 from by omega,hput.out.2,List.length_append,HCI.out];rfl
        ·rw [show k+(d+1)=k+d+1 from by omega,hput.out.1,HCI.out];exact hput2
       case measure=>simp [intOf];omega
     ·obtain ⟨hci,hO3⟩:=hR.out
      have hkd:k+d=l.length:=by omega
      rw [hkd,List.take_length] at hci
      rw [hkd] at hO3
      have hi3:i<l.length:=by omega
      have hcl:=Lib.run_clear_slice (P:=Tryz.prog) wr 30 22 0 (.slice none 0 0) Tryz.underlying30 (fun _=>by kernel_rfl) rfl rfl g i (l.length-i) (cap-i) (by omega) (fun j hj=>by
       obtain ⟨u,h1,_⟩:=hO3.get1 (i+j) (by rw [qgc];omega)
       rw [h1];rfl) (fun j hj=>by
       obtain ⟨u,_,_,h1⟩:=hO3.get1 (i+j) (by rw [qgc];omega)
       exact h1)
      have hcut:=Hd (hO3.cut qaa.good (by rw [qgc]) i (by omega) (List.replicate (l.length-i) (.slice none 0 0)) i (by omega))
      have hres:Hid (qb4 l=(qd4 qcd l l.length).take i):=by
       show qbv qcd l=_
       rw [qd4,List.take_length,List.take_append_of_le_length (by omega),← hci,List.take_length]
      have HCI:=Hd hci
      clear hO3 hci hR
      go_wp2_with fail
      go_ret
      have hln:(qb4 l).length=i:=HCI.out
      refine ⟨some ⟨g,0,none⟩,cap,by rw [hln];rfl,?_,hB.trans hcut.out.2⟩
      rw [hln,hres.out]
      exact hcut.out.1
   ·have hs:∀ X,Calls Tryz.prog 145 #[.slice A1 l[k].length c1,.slice A2 l[k-1].length c2] (qam wr X) fun e w'=>e = .returned (.bool false)∧qaf (qam wr X) w':=fun X=>by have:=hs0 X;rwa [show decide (qd7 l[k] l[k-1]=0)=false from eq_false_of_ne_true he] at this
    rw [if_neg he] at hst
    have HST:=Hd hst
    clear hs0 hst hO r1 r2
    go_wp2_with fail
    (refine qaw (by kernel_rfl) (by kernel_rfl) ?_;(repeat (first | go_big_quiet_step ((go_at_call 145;exact qav (hs _))) | quiet_step ((go_at_call 145;exact qav (hs _)))));refine wpQuiet_nil ?_)
    intro w2 hx2
    go_wp2_with fail
    go_roundw
    case rel =>
     refine ⟨k+1,by omega,by omega,by go_num,bel,?_⟩
     show qbv qcd _=_
     rw [HST.out,show qbv qcd (l.take k)=l.take k from hf.out,List.take_succ_eq_append_getElem hlt]
    case measure=>simp [intOf];omega
  ·have hkk:Hid (qb4 l=l):=by
    show _=_
    have:=hf.out
    rwa [List.take_of_length_le (by omega)] at this
   go_wp2_with fail
   go_ret
   rw [hkk.out]
   exact ⟨some ⟨g,0,none⟩,cap,rfl,HO.out.ext qaa.good hE,hE.bt⟩
end
end Go.Proofs.YtegenalcheooeaaGreat
