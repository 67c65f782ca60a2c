/- Of the proof of a law of the suites: Cmp. -/
import Derived.Test.YtegenalcheooeaaGreatB01
set_option linter.unusedSectionVars false
set_option linter.unusedSimpArgs false
set_option linter.unusedVariables false
namespace Go.Proofs.YtegenalcheooeaaGreat
open Go.RowKit
attribute [local go_sem] cell?_exto
section
set_option maxHeartbeats 1000000
set_option maxRecDepth 100000
/- The order of labels in the program: what compare,term and cmp's helpers come to. -/
def qah (a b:Int):Int:=if a<b then -1 else if b<a then 1 else 0
theorem qmo (a:Int) (w:World):Calls Tryz.prog 187 #[.int .i64 a] w fun e w'=>e = .returned (.bool false)∧w'=w:=by
 go_enter Tryz.func187,Tryz.ntmps187
 go_wp2
 all_goals go_ret
 all_goals exact ⟨by simp,rfl⟩
theorem qe6 (a b:Int) (w:World):Calls Tryz.prog 120 #[.int .i64 a,.int .i64 b] w fun e w'=>e = .returned (.int .i64 (qah a b))∧w'=w:=by
 unfold qah
 by_cases h1:a<b
 ·go_enter Tryz.func120,Tryz.ntmps120
  go_wp2_with (go_at_call 187;refine (qmo _ _).mono ?_;rintro e w' ⟨rfl,rfl⟩)
  go_ret
  exact ⟨by simp [h1],rfl⟩
 ·by_cases h2:b<a
  ·go_enter Tryz.func120,Tryz.ntmps120
   go_wp2_with (go_at_call 187;refine (qmo _ _).mono ?_;rintro e w' ⟨rfl,rfl⟩)
   go_ret
   exact ⟨by simp [h1,h2],rfl⟩
  ·go_enter Tryz.func120,Tryz.ntmps120
   go_wp2_with (go_at_call 187;refine (qmo _ _).mono ?_;rintro e w' ⟨rfl,rfl⟩)
   go_ret
   exact ⟨by simp [h1,h2],rfl⟩
theorem qfq (a b:Int):I64 (qah a b):=by
 unfold qah I64
 split
 ·omega
 ·split <;> omega
def orI:List Int->Int
 | []=>0
 | x :: xs=>if x=0 then orI xs else x
theorem qrc (l:List Int) (k:Nat) (h:∀ j,(hj:j<l.length)->j<k->l[j]=0):orI l=orI (l.drop k):=by
 induction k generalizing l with
 | zero=>rfl
 | succ k ih =>
  cases l with
  | nil=>rfl
  | cons x xs =>
   have h0:x=0:=h 0 (by simp) (by omega)
   rw [List.drop_succ_cons,<- ih xs (fun j hj hk=>by have:=h (j+1) (by simpa using hj) (by omega);simpa using this)]
   simp [orI,h0]
theorem orI_64 {l:List Int} (h:∀ x∈l,I64 x):I64 (orI l):=by
 induction l with
 | nil=>exact ⟨by decide,by decide⟩
 | cons x xs ih =>
  unfold orI
  split
  ·exact ih fun y hy=>h y (List.mem_cons_of_mem _ hy)
  ·exact h x (by simp)
theorem or_c (S) (l:List Int) (v:Value) (w:World) (h:RSl qac 1 S w l [v]):Calls Tryz.prog 119 #[v] w fun e w'=>e = .returned (.int .i64 (orI l))∧w'=w:=by
 obtain ⟨A,c,rfl,hc,hc0⟩:=h.val
 go_enter Tryz.func119,Tryz.ntmps119
 go_wp2
 go_loop [5,8] (fun _ i=>∃ k:Nat,k<=l.length∧i = .int .i64 k∧Hid (∀ j,(hj:j<l.length)->j<k->l[j]=0)) (fun _ i=>l.length-(intOf i).toNat)
 case atStart=>exact ⟨0,Nat.zero_le _,rfl,fun j _ hj=>absurd hj (by omega)⟩
 case round =>
  obtain ⟨k,hk,rfl,hz⟩:=hrel
  by_cases hlt:k<l.length
  ·obtain ⟨b,off,cs,rfl,hb,hs,hl,⟨hx,_⟩,hcell⟩:=h.get k hlt
   subst hx
   have g:=by simpa using hcell.get 0 _
   clear hcell hs hl
   by_cases h0:l[k]=0
   ·have h0':(l[k] != 0)=false:=by simp [h0]
    have H0:Hid _:=h0
    clear h0
    go_wp2
    go_round
    case rel =>
     refine ⟨k+1,by omega,by go_num,fun j hj hjk=>?_⟩
     rcases Nat.lt_or_ge j k with h | h
     ·exact hz j hj h
     ·obtain rfl:j=k:=by omega
      exact H0
    case measure=>simp [intOf];omega
   ·have h0':(l[k] != 0)=true:=by simp [h0]
    have H0:Hid _:=h0
    clear h0
    go_wp2
    go_ret
    refine ⟨?_,rfl⟩
    rw [qrc l k hz,List.drop_eq_getElem_cons hlt,orI,if_neg H0.out]
    rfl
  ·go_wp2
   go_ret
   refine ⟨?_,rfl⟩
   rw [qrc l k hz,List.drop_of_length_le (by omega)]
   rfl
theorem qkw (W:World) (l:List Int) (t:TypeId) (h:∀ x∈l,I64 x) (hl:l.length<=1000):RSl qac 1 (fun _=>True) (W.alloc (.cells (l.map fun n=>Value.int .i64 n).toArray t)) l [.slice (some ⟨W.heap.size,0,none⟩) l.length l.length]:=by
 refine ⟨_,_,rfl,Nat.le_refl _,by omega,.inr ⟨W.heap.size,0,rfl,by simp,trivial,qcf.of_get fun i hi=>⟨[.int .i64 l[i]],rfl,⟨rfl,h _ (List.getElem_mem hi)⟩,?_⟩⟩⟩
 intro j v hj
 have hj0:j=0:=by
  rcases j with _ | j
  ·rfl
  ·simp at hj
 subst hj0
 simp at hj
 subst hj
 have e:(W.alloc (.cells (l.map fun n=>Value.int .i64 n).toArray t)).heap[W.heap.size]? = some (.cells (l.map fun n=>Value.int .i64 n).toArray t (0,0)):=Array.getElem?_push_size
 unfold World.cell?
 simp only [Nat.zero_add,Nat.add_zero,Nat.mul_one]
 rw [e]
 simp [hi]
mutual
def qbs:Tm->Tm->Int
 | .mk k n l,.mk k' n' l'=>orI [qah k k',qah n n',qah l.length l'.length,qar l l']
def qar:List Tm->List Tm->Int
 | [],l'=>qah 0 l'.length
 | _ :: _,[]=>1
 | x :: xs,y :: ys=>if qbs x y=0 then qar xs ys else qbs x y
end
def qan (a b:Lb):Int:=orI [qah a.g b.g,qar a.v b.v]
mutual
theorem cmpTm_64:∀ x y,I64 (qbs x y)
 | .mk k n l,.mk k' n' l'=>by
  rw [qbs]
  refine orI_64 fun x hx=>?_
  simp at hx
  rcases hx with rfl | rfl | rfl | rfl
  ·exact qfq _ _
  ·exact qfq _ _
  ·exact qfq _ _
  ·exact qiy _ _
theorem qiy:∀ x y,I64 (qar x y)
 | [],l'=>by rw [qar];exact qfq _ _
 | _ :: _,[]=>by rw [qar];exact ⟨by decide,by decide⟩
 | x :: xs,y :: ys=>by
  rw [qar]
  split
  ·exact qiy _ _
  ·exact cmpTm_64 _ _
end
theorem qmz (x y:Tm):qbs x y=orI [qah x.k y.k,qah x.n y.n,qah x.l.length y.l.length,qar x.l y.l]:=by cases x;cases y;rw [qbs];rfl
def qlf (x:List Tm):Prop:=∀ (S:Nat->Prop) (y:List Tm) (B:Nat) (vx vy:Value) (W:World),qam S W x [vx]->qam S W y [vy]->W.cell? ⟨B,0,none⟩=some (.func (.func 230) #[] #[.pointer (some ⟨B,0,none⟩)]) ->
  Calls Tryz.prog 230 #[vx,vy,.pointer (some ⟨B,0,none⟩)] W fun e w'=>e = .returned (.int .i64 (qar x y))∧qad W w'
def TermC (x:Tm):Prop:=∀ (S:Nat->Prop) (y:Tm) (B:Nat) (cx cy:List Value) (W:World),RTm S W x cx->RTm S W y cy->W.cell? ⟨B,0,none⟩=some (.func (.func 230) #[] #[.pointer (some ⟨B,0,none⟩)]) ->
  Calls Tryz.prog 231 #[.agg cx.toArray,.agg cy.toArray,.func (.func 230) #[] #[.pointer (some ⟨B,0,none⟩)]] W fun e w'=>e = .returned (.int .i64 (qbs x y))∧qad W w'
theorem qt2 (S:Nat->Prop) (x y:Lb) (vx vy:Value) (w:World) (hx:qam S w x.v [vx]) (hy:qam S w y.v [vy]) (ht:qlf x.v) :
  Calls Tryz.prog 166 #[.agg #[.int .i64 x.g,vx],.agg #[.int .i64 y.g,vy]] w fun e w'=>e = .returned (.int .i64 (qan x y))∧qad w w':=by
 obtain ⟨A,c,rfl,hc,hc0⟩:=hx.val
 obtain ⟨A',c',rfl,hc',hc0'⟩:=hy.val
 go_enter Tryz.func166,Tryz.ntmps166
 go_wp2
 go_region_held3 (fun W=>W.cell? ⟨w.heap.size,0,none⟩=some (.int .i64 x.g)∧W.cell? ⟨w.heap.size,1,none⟩=some (.slice A x.v.length c)∧W.cell? ⟨w.heap.size+1,0,none⟩=some (.int .i64 y.g)∧W.cell? ⟨w.heap.size+1,1,none⟩=some (.slice A' y.v.length c')∧W.cell? ⟨w.heap.size+1+1,0,none⟩=some (.func (.func 230) #[] #[.pointer (some ⟨w.heap.size+1+1,0,none⟩)]))
  (first | (refine ⟨?_,?_,?_,?_,?_⟩ <;> go_simp <;> done) | exact hx1.k5 (by assumption) | exact ((qad.refl _).alloc _).k5 (by assumption))
  (first | (go_at_call 120;refine (qe6 _ _ _).mono ?_;rintro e w' ⟨rfl,rfl⟩) | (go_at_call 230;refine (ht S y.v _ _ _ _ (qam.good.ext hx qaj) (qam.good.ext hy qaj) (by go_simp)).mono ?_;rintro e w1 ⟨rfl,hx1⟩) | (go_at_call 119;refine (or_c (fun _=>True) [qah x.g y.g,qar x.v y.v] _ _ (qkw _ [qah x.g y.g,qar x.v y.v] 3 (by intro z hz;simp at hz;rcases hz with rfl | rfl <;> first | exact qfq _ _ | exact qiy _ _) (by simp))).mono ?_;rintro e w' ⟨rfl,rfl⟩))
 go_wp2
 go_ret
 exact ⟨rfl,qaj⟩
theorem term_of (x:Tm) (ht:qlf x.l):TermC x:=by
 intro S y B cx cy w hx hy hB
 obtain ⟨_,_,vx,rfl,hvx⟩:=(qax ..).1 hx
 obtain ⟨_,_,vy,rfl,hvy⟩:=(qax ..).1 hy
 obtain ⟨A,c,rfl,hc,hc0⟩:=hvx.val
 obtain ⟨A',c',rfl,hc',hc0'⟩:=hvy.val
 have hB0:=World.block_lt_of_cell? w _ hB
 clear hx hy
 go_enter Tryz.func231,Tryz.ntmps231
 go_wp2
 go_region_held3 (fun W=>W.cell? ⟨w.heap.size,0,none⟩=some (.int .i64 x.k)∧W.cell? ⟨w.heap.size,1,none⟩=some (.int .i64 x.n)∧W.cell? ⟨w.heap.size,2,none⟩=some (.slice A x.l.length c)∧W.cell? ⟨w.heap.size+1,0,none⟩=some (.int .i64 y.k)∧W.cell? ⟨w.heap.size+1,1,none⟩=some (.int .i64 y.n)∧W.cell? ⟨w.heap.size+1,2,none⟩=some (.slice A' y.l.length c')∧W.cell? ⟨B,0,none⟩=some (.func (.func 230) #[] #[.pointer (some ⟨B,0,none⟩)]))
  (first | (refine ⟨?_,?_,?_,?_,?_,?_,?_⟩ <;> go_simp <;> done) | exact hx1.k7 (by assumption) | exact ((qad.refl _).alloc _).k7 (by assumption))
  (first | (go_at_call 120;refine (qe6 _ _ _).mono ?_;rintro e w' ⟨rfl,rfl⟩) | (go_at_call 230;refine (ht S y.l _ _ _ _ (qam.good.ext hvx qaj) (qam.good.ext hvy qaj) (by go_simp)).mono ?_;rintro e w1 ⟨rfl,hx1⟩) | (go_at_call 119;refine (or_c (fun _=>True) [qah x.k y.k,qah x.n y.n,qah x.l.length y.l.length,qar x.l y.l] _ _ (qkw _ [qah x.k y.k,qah x.n y.n,qah x.l.length y.l.length,qar x.l y.l] 3 (by intro z hz;simp at hz;rcases hz with rfl | rfl | rfl | rfl <;> first | exact qfq _ _ | exact qiy _ _) (by simp))).mono ?_;rintro e w' ⟨rfl,rfl⟩))
 go_wp2
 go_ret
 exact ⟨by rw [qmz];rfl,qaj⟩
theorem qlu:∀ (k:Nat) (x y:List Tm),(∀ j,(h1:j<x.length)->(h2:j<y.length)->j<k->qbs x[j] y[j]=0)->k<=x.length->k<=y.length->qar x y=qar (x.drop k) (y.drop k)
 | 0,_,_,_,_,_=>rfl
 | k+1,x :: xs,y :: ys,h,h1,h2=>by
  rw [List.drop_succ_cons,List.drop_succ_cons,<- qlu k xs ys (fun j a b c=>by have:=h (j+1) (by simpa using a) (by simpa using b) (by omega);simpa using this) (by simpa using h1) (by simpa using h2),qar,if_pos]
  exact h 0 (by simp) (by simp) (by omega)
 | k+1,[],_,_,h1,_=>by simp at h1
 | k+1,_ :: _,[],_,_,h2=>by simp at h2
theorem qme {x y:List Tm} {k:Nat} (h:k=x.length∨k=y.length) (h1:k<=x.length) (h2:k<=y.length):qar (x.drop k) (y.drop k)=qah x.length y.length:=by
 unfold qah
 rcases Nat.lt_or_ge k x.length with hx | hx
 ·have hy:y.length=k:=by omega
  rw [List.drop_eq_getElem_cons hx,List.drop_of_length_le (l:=y) (by omega),qar,if_neg (by omega),if_pos (by omega)]
 ·rw [List.drop_of_length_le (l:=x) (by omega),qar,qah]
  have hl:((y.drop k).length:Int)=y.length-x.length:=by rw [List.length_drop];omega
  rw [hl]
  have e1:(0<(y.length:Int)-x.length)↔((x.length:Int)<y.length):=by omega
  have e2:((y.length:Int)-x.length<0)↔((y.length:Int)<x.length):=by omega
  simp only [e1,e2]
end
end Go.Proofs.YtegenalcheooeaaGreat
