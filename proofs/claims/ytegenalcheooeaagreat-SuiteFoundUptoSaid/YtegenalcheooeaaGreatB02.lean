/- Of the proof of a law of the suites: Cmp, Cmp2, LibWords, MapW. -/
import Derived.Test.YtegenalcheooeaaGreatB01
import Derived.Carry
set_option linter.unusedSectionVars false
set_option linter.unusedSimpArgs false
set_option linter.unusedVariables false
namespace Go.Proofs.YtegenalcheooeaaGreat
open Go.RowKit
attribute [local go_sem] cell?_exto
section
set_option maxHeartbeats 1000000
set_option maxRecDepth 100000
/- The order of labels in the program: what compare,term and cmp's helpers come to. -/
def qah (a b:Int):Int:=if a<b then -1 else if b<a then 1 else 0
theorem qn7 (a:Int) (w:World):Calls Tryz.prog 187 #[.int .i64 a] w fun e w'=>e = .returned (.bool false)∧w'=w:=by
 go_enter Tryz.func187,Tryz.ntmps187
 go_wp2
 all_goals go_ret
 all_goals exact ⟨by simp,rfl⟩
theorem qfc (a b:Int) (w:World):Calls Tryz.prog 120 #[.int .i64 a,.int .i64 b] w fun e w'=>e = .returned (.int .i64 (qah a b))∧w'=w:=by
 unfold qah
 by_cases h1:a<b
 ·go_enter Tryz.func120,Tryz.ntmps120
  go_wp2_with (go_at_call 187;refine (qn7 _ _).mono ?_;rintro e w' ⟨rfl,rfl⟩)
  go_ret
  exact ⟨by simp [h1],rfl⟩
 ·by_cases h2:b<a
  ·go_enter Tryz.func120,Tryz.ntmps120
   go_wp2_with (go_at_call 187;refine (qn7 _ _).mono ?_;rintro e w' ⟨rfl,rfl⟩)
   go_ret
   exact ⟨by simp [h1,h2],rfl⟩
  ·go_enter Tryz.func120,Tryz.ntmps120
   go_wp2_with (go_at_call 187;refine (qn7 _ _).mono ?_;rintro e w' ⟨rfl,rfl⟩)
   go_ret
   exact ⟨by simp [h1,h2],rfl⟩
theorem qf5 (a b:Int):I64 (qah a b):=by
 unfold qah I64
 split
 ·omega
 ·split <;> omega
def orI:List Int->Int
 | []=>0
 | x :: xs=>if x=0 then orI xs else x
theorem qra (l:List Int) (k:Nat) (h:∀ j,(hj:j<l.length)->j<k->l[j]=0):orI l=orI (l.drop k):=by
 induction k generalizing l with
 | zero=>rfl
 | succ k ih =>
  cases l with
  | nil=>rfl
  | cons x xs =>
   have h0:x=0:=h 0 (by simp) (by omega)
   rw [List.drop_succ_cons,<- ih xs (fun j hj hk=>by have:=h (j+1) (by simpa using hj) (by omega);simpa using this)]
   simp [orI,h0]
theorem orI_64 {l:List Int} (h:∀ x∈l,I64 x):I64 (orI l):=by
 induction l with
 | nil=>exact ⟨by decide,by decide⟩
 | cons x xs ih =>
  unfold orI
  split
  ·exact ih fun y hy=>h y (List.mem_cons_of_mem _ hy)
  ·exact h x (by simp)
theorem or_c (S) (l:List Int) (v:Value) (w:World) (h:RSl qac 1 S w l [v]):Calls Tryz.prog 119 #[v] w fun e w'=>e = .returned (.int .i64 (orI l))∧w'=w:=by
 obtain ⟨A,c,rfl,hc,hc0⟩:=h.val
 go_enter Tryz.func119,Tryz.ntmps119
 go_wp2
 go_loop [5,8] (fun _ i=>∃ k:Nat,k<=l.length∧i = .int .i64 k∧Hid (∀ j,(hj:j<l.length)->j<k->l[j]=0)) (fun _ i=>l.length-(intOf i).toNat)
 case atStart=>exact ⟨0,Nat.zero_le _,rfl,fun j _ hj=>absurd hj (by omega)⟩
 case round =>
  obtain ⟨k,hk,rfl,hz⟩:=hrel
  by_cases hlt:k<l.length
  ·obtain ⟨b,off,cs,rfl,hb,hs,hl,⟨hx,_⟩,hcell⟩:=h.get k hlt
   subst hx
   have g:=by simpa using hcell.get 0 _
   clear hcell hs hl
   by_cases h0:l[k]=0
   ·have h0':(l[k] != 0)=false:=by simp [h0]
    have H0:Hid _:=h0
    clear h0
    go_wp2
    go_round
    case rel =>
     refine ⟨k+1,by omega,by go_num,fun j hj hjk=>?_⟩
     rcases Nat.lt_or_ge j k with h | h
     ·exact hz j hj h
     ·obtain rfl:j=k:=by omega
      exact H0
    case measure=>simp [intOf];omega
   ·have h0':(l[k] != 0)=true:=by simp [h0]
    have H0:Hid _:=h0
    clear h0
    go_wp2
    go_ret
    refine ⟨?_,rfl⟩
    rw [qra l k hz,List.drop_eq_getElem_cons hlt,orI,if_neg H0.out]
    rfl
  ·go_wp2
   go_ret
   refine ⟨?_,rfl⟩
   rw [qra l k hz,List.drop_of_length_le (by omega)]
   rfl
theorem qlz (W:World) (l:List Int) (t:TypeId) (h:∀ x∈l,I64 x) (hl:l.length<=1000):RSl qac 1 (fun _=>True) (W.alloc (.cells (l.map fun n=>Value.int .i64 n).toArray t)) l [.slice (some ⟨W.heap.size,0,none⟩) l.length l.length]:=by
 refine ⟨_,_,rfl,Nat.le_refl _,by omega,.inr ⟨W.heap.size,0,rfl,by simp,trivial,qcn.of_get fun i hi=>⟨[.int .i64 l[i]],rfl,⟨rfl,h _ (List.getElem_mem hi)⟩,?_⟩⟩⟩
 intro j v hj
 have hj0:j=0:=by
  rcases j with _ | j
  ·rfl
  ·simp at hj
 subst hj0
 simp at hj
 subst hj
 have e:(W.alloc (.cells (l.map fun n=>Value.int .i64 n).toArray t)).heap[W.heap.size]? = some (.cells (l.map fun n=>Value.int .i64 n).toArray t (0,0)):=Array.getElem?_push_size
 unfold World.cell?
 simp only [Nat.zero_add,Nat.add_zero,Nat.mul_one]
 rw [e]
 simp [hi]
mutual
def qbv:Tm->Tm->Int
 | .mk k n l,.mk k' n' l'=>orI [qah k k',qah n n',qah l.length l'.length,qat l l']
def qat:List Tm->List Tm->Int
 | [],l'=>qah 0 l'.length
 | _ :: _,[]=>1
 | x :: xs,y :: ys=>if qbv x y=0 then qat xs ys else qbv x y
end
def qan (a b:Lb):Int:=orI [qah a.g b.g,qat a.v b.v]
mutual
theorem cmpTm_64:∀ x y,I64 (qbv x y)
 | .mk k n l,.mk k' n' l'=>by
  rw [qbv]
  refine orI_64 fun x hx=>?_
  simp at hx
  rcases hx with rfl | rfl | rfl | rfl
  ·exact qf5 _ _
  ·exact qf5 _ _
  ·exact qf5 _ _
  ·exact qjc _ _
theorem qjc:∀ x y,I64 (qat x y)
 | [],l'=>by rw [qat];exact qf5 _ _
 | _ :: _,[]=>by rw [qat];exact ⟨by decide,by decide⟩
 | x :: xs,y :: ys=>by
  rw [qat]
  split
  ·exact qjc _ _
  ·exact cmpTm_64 _ _
end
theorem qn9 (x y:Tm):qbv x y=orI [qah x.k y.k,qah x.n y.n,qah x.l.length y.l.length,qat x.l y.l]:=by cases x;cases y;rw [qbv];rfl
def qld (x:List Tm):Prop:=∀ (S:Nat->Prop) (y:List Tm) (B:Nat) (vx vy:Value) (W:World),qam S W x [vx]->qam S W y [vy]->W.cell? ⟨B,0,none⟩=some (.func (.func 230) #[] #[.pointer (some ⟨B,0,none⟩)]) ->
  Calls Tryz.prog 230 #[vx,vy,.pointer (some ⟨B,0,none⟩)] W fun e w'=>e = .returned (.int .i64 (qat x y))∧qad W w'
def TermC (x:Tm):Prop:=∀ (S:Nat->Prop) (y:Tm) (B:Nat) (cx cy:List Value) (W:World),RTm S W x cx->RTm S W y cy->W.cell? ⟨B,0,none⟩=some (.func (.func 230) #[] #[.pointer (some ⟨B,0,none⟩)]) ->
  Calls Tryz.prog 231 #[.agg cx.toArray,.agg cy.toArray,.func (.func 230) #[] #[.pointer (some ⟨B,0,none⟩)]] W fun e w'=>e = .returned (.int .i64 (qbv x y))∧qad W w'
theorem qu4 (S:Nat->Prop) (x y:Lb) (vx vy:Value) (w:World) (hx:qam S w x.v [vx]) (hy:qam S w y.v [vy]) (ht:qld x.v) :
  Calls Tryz.prog 166 #[.agg #[.int .i64 x.g,vx],.agg #[.int .i64 y.g,vy]] w fun e w'=>e = .returned (.int .i64 (qan x y))∧qad w w':=by
 obtain ⟨A,c,rfl,hc,hc0⟩:=hx.val
 obtain ⟨A',c',rfl,hc',hc0'⟩:=hy.val
 go_enter Tryz.func166,Tryz.ntmps166
 go_wp2
 go_region_held3 (fun W=>W.cell? ⟨w.heap.size,0,none⟩=some (.int .i64 x.g)∧W.cell? ⟨w.heap.size,1,none⟩=some (.slice A x.v.length c)∧W.cell? ⟨w.heap.size+1,0,none⟩=some (.int .i64 y.g)∧W.cell? ⟨w.heap.size+1,1,none⟩=some (.slice A' y.v.length c')∧W.cell? ⟨w.heap.size+1+1,0,none⟩=some (.func (.func 230) #[] #[.pointer (some ⟨w.heap.size+1+1,0,none⟩)]))
  (first | (refine ⟨?_,?_,?_,?_,?_⟩ <;> go_simp <;> done) | exact hx1.k5 (by assumption) | exact ((qad.refl _).alloc _).k5 (by assumption))
  (first | (go_at_call 120;refine (qfc _ _ _).mono ?_;rintro e w' ⟨rfl,rfl⟩) | (go_at_call 230;refine (ht S y.v _ _ _ _ (qam.good.ext hx qaj) (qam.good.ext hy qaj) (by go_simp)).mono ?_;rintro e w1 ⟨rfl,hx1⟩) | (go_at_call 119;refine (or_c (fun _=>True) [qah x.g y.g,qat x.v y.v] _ _ (qlz _ [qah x.g y.g,qat x.v y.v] 3 (by intro z hz;simp at hz;rcases hz with rfl | rfl <;> first | exact qf5 _ _ | exact qjc _ _) (by simp))).mono ?_;rintro e w' ⟨rfl,rfl⟩))
 go_wp2
 go_ret
 exact ⟨rfl,qaj⟩
theorem term_of (x:Tm) (ht:qld x.l):TermC x:=by
 intro S y B cx cy w hx hy hB
 obtain ⟨_,_,vx,rfl,hvx⟩:=(qaz ..).1 hx
 obtain ⟨_,_,vy,rfl,hvy⟩:=(qaz ..).1 hy
 obtain ⟨A,c,rfl,hc,hc0⟩:=hvx.val
 obtain ⟨A',c',rfl,hc',hc0'⟩:=hvy.val
 have hB0:=World.block_lt_of_cell? w _ hB
 clear hx hy
 go_enter Tryz.func231,Tryz.ntmps231
 go_wp2
 go_region_held3 (fun W=>W.cell? ⟨w.heap.size,0,none⟩=some (.int .i64 x.k)∧W.cell? ⟨w.heap.size,1,none⟩=some (.int .i64 x.n)∧W.cell? ⟨w.heap.size,2,none⟩=some (.slice A x.l.length c)∧W.cell? ⟨w.heap.size+1,0,none⟩=some (.int .i64 y.k)∧W.cell? ⟨w.heap.size+1,1,none⟩=some (.int .i64 y.n)∧W.cell? ⟨w.heap.size+1,2,none⟩=some (.slice A' y.l.length c')∧W.cell? ⟨B,0,none⟩=some (.func (.func 230) #[] #[.pointer (some ⟨B,0,none⟩)]))
  (first | (refine ⟨?_,?_,?_,?_,?_,?_,?_⟩ <;> go_simp <;> done) | exact hx1.k7 (by assumption) | exact ((qad.refl _).alloc _).k7 (by assumption))
  (first | (go_at_call 120;refine (qfc _ _ _).mono ?_;rintro e w' ⟨rfl,rfl⟩) | (go_at_call 230;refine (ht S y.l _ _ _ _ (qam.good.ext hvx qaj) (qam.good.ext hvy qaj) (by go_simp)).mono ?_;rintro e w1 ⟨rfl,hx1⟩) | (go_at_call 119;refine (or_c (fun _=>True) [qah x.k y.k,qah x.n y.n,qah x.l.length y.l.length,qat x.l y.l] _ _ (qlz _ [qah x.k y.k,qah x.n y.n,qah x.l.length y.l.length,qat x.l y.l] 3 (by intro z hz;simp at hz;rcases hz with rfl | rfl | rfl | rfl <;> first | exact qf5 _ _ | exact qjc _ _) (by simp))).mono ?_;rintro e w' ⟨rfl,rfl⟩))
 go_wp2
 go_ret
 exact ⟨by rw [qn9];rfl,qaj⟩
theorem qoh:∀ (k:Nat) (x y:List Tm),(∀ j,(h1:j<x.length)->(h2:j<y.length)->j<k->qbv x[j] y[j]=0)->k<=x.length->k<=y.length->qat x y=qat (x.drop k) (y.drop k)
 | 0,_,_,_,_,_=>rfl
 | k+1,x :: xs,y :: ys,h,h1,h2=>by
  rw [List.drop_succ_cons,List.drop_succ_cons,<- qoh k xs ys (fun j a b c=>by have:=h (j+1) (by simpa using a) (by simpa using b) (by omega);simpa using this) (by simpa using h1) (by simpa using h2),qat,if_pos]
  exact h 0 (by simp) (by simp) (by omega)
 | k+1,[],_,_,h1,_=>by simp at h1
 | k+1,_ :: _,[],_,_,h2=>by simp at h2
theorem qm8 {x y:List Tm} {k:Nat} (h:k=x.length∨k=y.length) (h1:k<=x.length) (h2:k<=y.length):qat (x.drop k) (y.drop k)=qah x.length y.length:=by
 unfold qah
 rcases Nat.lt_or_ge k x.length with hx | hx
 ·have hy:y.length=k:=by omega
  rw [List.drop_eq_getElem_cons hx,List.drop_of_length_le (l:=y) (by omega),qat,if_neg (by omega),if_pos (by omega)]
 ·rw [List.drop_of_length_le (l:=x) (by omega),qat,qah]
  have hl:((y.drop k).length:Int)=y.length-x.length:=by rw [List.length_drop];omega
  rw [hl]
  have e1:(0<(y.length:Int)-x.length)↔((x.length:Int)<y.length):=by omega
  have e2:((y.length:Int)-x.length<0)↔((y.length:Int)<x.length):=by omega
  simp only [e1,e2]
end
section

set_option maxHeartbeats 1000000 in
set_option maxRecDepth 100000 in
theorem qo4 (x:List Tm) (ht:∀ t∈x,TermC t):qld x:=by
 intro S y B vx vy w hx hy hB
 obtain ⟨A,c,rfl,hc,hc0⟩:=hx.val
 obtain ⟨A',c',rfl,hc',hc0'⟩:=hy.val
 have hB0:=World.block_lt_of_cell? w _ hB
 go_enter Tryz.func230,Tryz.ntmps230
 go_wp2
 go_loopw [5,6,7] (fun _ i _ wr=>∃ k:Nat,k<=x.length∧k<=y.length∧i = .int .i64 k∧qad w wr∧Hid (∀ j,(h1:j<x.length)->(h2:j<y.length)->j<k->qbv x[j] y[j]=0)) (fun _ i _ _=>x.length-(intOf i).toNat)
 case atStart=>exact ⟨0,Nat.zero_le _,Nat.zero_le _,rfl,qad.refl _,fun j _ _ hj=>absurd hj (by omega)⟩
 case round =>
  obtain ⟨k,hk,hk',rfl,hE,hz⟩:=hrel
  by_cases hlt:k<x.length∧k<y.length
  ·obtain ⟨hlt,hlt'⟩:=hlt
   have tB:=hE.keep hB
   obtain ⟨b,off,cs,rfl,hb,hs,hl,hr,hcell⟩:=(qam.good.ext hx hE).get k hlt
   obtain ⟨b',off',cs',rfl,hb',hs',hl',hr',hcell'⟩:=(qam.good.ext hy hE).get k hlt'
   obtain ⟨i1,i2,v,rfl,hv⟩:=(qaz ..).1 hr
   obtain ⟨i1',i2',v',rfl,hv'⟩:=(qaz ..).1 hr'
   obtain ⟨A2,c2,rfl,_,_⟩:=hv.val
   obtain ⟨A2',c2',rfl,_,_⟩:=hv'.val
   have g0:=hcell.get 0 _
   have g1:=hcell.get 1 _
   have g2:=hcell.get 2 _
   have g0':=hcell'.get 0 _
   have g1':=hcell'.get 1 _
   have g2':=hcell'.get 2 _
   simp only [Nat.add_zero] at g0 g0'
   have hcon:=ht x[k] (List.getElem_mem hlt) S y[k] B
   clear hcell hcell' hl hl' hs hs' ht
   have z1:(0:Int)<=(k:Int):=by omega
   have z2:(k:Int)<(x.length:Int):=by omega
   have z3:(k:Int)<(y.length:Int):=by omega
   by_cases h0:qbv x[k] y[k]=0
   ·have h0':(qbv x[k] y[k] != 0)=false:=by simp [h0]
    have H0:Hid _:=h0
    clear h0
    go_wp2
    go_region_held3 (fun W=>W.cell? ⟨b,off+k*3,none⟩=some (.int .i64 x[k].k)∧W.cell? ⟨b,off+k*3+1,none⟩=some (.int .i64 x[k].n)∧W.cell? ⟨b,off+k*3+2,none⟩=some (.slice A2 x[k].l.length c2)∧W.cell? ⟨b',off'+k*3,none⟩=some (.int .i64 y[k].k)∧W.cell? ⟨b',off'+k*3+1,none⟩=some (.int .i64 y[k].n)∧W.cell? ⟨b',off'+k*3+2,none⟩=some (.slice A2' y[k].l.length c2')∧W.cell? ⟨B,0,none⟩=some (.func (.func 230) #[] #[.pointer (some ⟨B,0,none⟩)]))
     (first | (refine ⟨?_,?_,?_,?_,?_,?_,?_⟩ <;> go_simp <;> done) | exact hx1.k7 (by assumption) | exact ((qad.refl _).alloc _).k7 (by assumption))
     (first | (go_at_call 231;refine (hcon _ _ _ (RTm.good.ext hr qaj) (RTm.good.ext hr' qaj) (by go_simp)).mono ?_;rintro e w1 ⟨rfl,hx1⟩))
    go_wp2
    go_roundw
    case rel =>
     refine ⟨k+1,by omega,by omega,by go_num,qaj,fun j h1 h2 hjk=>?_⟩
     rcases Nat.lt_or_ge j k with h | h
     ·exact hz j h1 h2 h
     ·obtain rfl:j=k:=by omega
      exact H0
    case measure=>simp [intOf];omega
   ·have h0':(qbv x[k] y[k] != 0)=true:=by simp [h0]
    have H0:Hid _:=h0
    clear h0
    go_wp2
    go_region_held3 (fun W=>W.cell? ⟨b,off+k*3,none⟩=some (.int .i64 x[k].k)∧W.cell? ⟨b,off+k*3+1,none⟩=some (.int .i64 x[k].n)∧W.cell? ⟨b,off+k*3+2,none⟩=some (.slice A2 x[k].l.length c2)∧W.cell? ⟨b',off'+k*3,none⟩=some (.int .i64 y[k].k)∧W.cell? ⟨b',off'+k*3+1,none⟩=some (.int .i64 y[k].n)∧W.cell? ⟨b',off'+k*3+2,none⟩=some (.slice A2' y[k].l.length c2')∧W.cell? ⟨B,0,none⟩=some (.func (.func 230) #[] #[.pointer (some ⟨B,0,none⟩)]))
     (first | (refine ⟨?_,?_,?_,?_,?_,?_,?_⟩ <;> go_simp <;> done) | exact hx1.k7 (by assumption) | exact ((qad.refl _).alloc _).k7 (by assumption))
     (first | (go_at_call 231;refine (hcon _ _ _ (RTm.good.ext hr qaj) (RTm.good.ext hr' qaj) (by go_simp)).mono ?_;rintro e w1 ⟨rfl,hx1⟩))
    go_wp2
    go_ret
    refine ⟨?_,qaj⟩
    rw [qoh k x y hz hk hk',List.drop_eq_getElem_cons hlt,List.drop_eq_getElem_cons hlt',qat,if_neg H0.out]
    rfl
  ·have e:qat x y=qah x.length y.length:=by rw [qoh k x y hz hk hk',qm8 (by omega) hk hk']
   have HE:Hid _:=e
   clear e
   by_cases hl1:k<x.length
   ·have hl2:decide (k<y.length)=false:=by simp;omega
    have hl3:decide ((k:Int)<(y.length:Int))=false:=by simp;omega
    clear hlt ht
    go_wp2_with (go_at_call 120;refine (qfc _ _ _).mono ?_;rintro e w' ⟨rfl,rfl⟩)
    go_ret
    exact ⟨by rw [HE.out];rfl,hE⟩
   ·clear hlt ht
    go_wp2_with (go_at_call 120;refine (qfc _ _ _).mono ?_;rintro e w' ⟨rfl,rfl⟩)
    go_ret
    exact ⟨by rw [HE.out];rfl,hE⟩
theorem term_c:∀ x,TermC x:=Tm.ind fun t ih=>term_of t (qo4 t.l ih)
theorem terms_c (x:List Tm):qld x:=qo4 x fun t _=>term_c t
theorem qhu (S:Nat->Prop) (x y:Lb) (cx cy:List Value) (w:World) (hx:RLb S w x cx) (hy:RLb S w y cy) :
  Calls Tryz.prog 166 #[.agg cx.toArray,.agg cy.toArray] w fun e w'=>e = .returned (.int .i64 (qan x y))∧qad w w':=by
 obtain ⟨_,vx,rfl,hx⟩:=hx
 obtain ⟨_,vy,rfl,hy⟩:=hy
 exact qu4 S x y vx vy w hx hy (terms_c _)
end
section
def qaq {σ α:Type} (step:σ->α->Bool×σ):σ->List α->Int×σ
 | s,[]=>(-1,s)
 | s,x :: xs=>if (step s x).1 then (0,(step s x).2) else
   ((qaq step (step s x).2 xs).1+(if (qaq step (step s x).2 xs).1<0 then 0 else 1),(qaq step (step s x).2 xs).2)
def qcp {σ α:Type} (step:σ->α->Bool×σ):σ->List α->Bool×σ
 | s,[]=>(false,s)
 | s,x :: xs=>if (step s x).1 then (true,(step s x).2) else qcp step (step s x).2 xs
theorem qrx {σ α:Type} (step:σ->α->Bool×σ):∀ (s:σ) (xs:List α),-1<=(qaq step s xs).1
 | s,[]=>by simp [qaq]
 | s,x :: xs=>by
  have:=qrx step (step s x).2 xs
  rw [qaq]
  split
  ·simp
  ·simp only [];split <;> omega
theorem qho {σ α:Type} (step:σ->α->Bool×σ):∀ (s:σ) (xs:List α),qcp step s xs=(decide (0<=(qaq step s xs).1),(qaq step s xs).2)
 | s,[]=>by simp [qaq,qcp]
 | s,x :: xs=>by
  have h:=qrx step (step s x).2 xs
  rw [qaq,qcp]
  split
  ·simp
  ·rw [qho step _ xs]
   simp only [Prod.mk.injEq,and_true]
   split
   ·simp
   ·simp;omega
theorem qiq {σ:Type} (r:Int×σ) (k:Nat) :
  ((if false=true then ((0:Int),r.2) else (r.1+(if r.1<0 then 0 else 1),r.2)).1+(if (if false=true then ((0:Int),r.2) else (r.1+(if r.1<0 then 0 else 1),r.2)).1<0 then 0 else (k:Int)),(if false=true then ((0:Int),r.2) else (r.1+(if r.1<0 then 0 else 1),r.2)).2) =
   (r.1+(if r.1<0 then 0 else ((k+1:Nat):Int)),r.2):=by
 simp only [Bool.false_eq_true,if_false,Prod.mk.injEq,and_true]
 split
 ·rw [if_pos (by omega)];omega
 ·rw [if_neg (by omega)];omega
def qa8 {α:Type} (p:α->Bool):List α->Int
 | []=>-1
 | x :: xs=>if p x then 0 else qa8 p xs+(if qa8 p xs<0 then 0 else 1)
theorem qhx {α:Type} (p:α->Bool) (xs:List α):(qaq (fun (s:Unit) x=>(p x,s)) () xs).1=qa8 p xs:=by
 induction xs with
 | nil=>rfl
 | cons x xs ih=>rw [qaq,qa8];split <;> simp_all
theorem qid {α:Type} (p:α->Bool) (xs:List α):(qcp (fun (s:Unit) x=>(p x,s)) () xs).1=xs.any p:=by
 induction xs with
 | nil=>rfl
 | cons x xs ih=>rw [qcp,List.any_cons];cases h:p x <;> simp_all
def qa2 {α:Type} (cf:α->α->Int):List α->List α->Int
 | [],[]=>0
 | [],_ :: _=>-1
 | _ :: _,[]=>1
 | x :: xs,y :: ys=>if cf x y=0 then qa2 cf xs ys else cf x y
def leq {α:Type} (cf:α->α->Bool):List α->List α->Bool
 | [],[]=>true
 | [],_ :: _=>false
 | _ :: _,[]=>false
 | x :: xs,y :: ys=>cf x y && leq cf xs ys
theorem qh2 {α:Type} (cf:α->α->Bool):∀ (xs ys:List α),xs.length≠ys.length->leq cf xs ys=false
 | [],[],h=>absurd rfl h
 | [],_ :: _,_=>rfl
 | _ :: _,[],_=>rfl
 | x :: xs,y :: ys,h=>by rw [leq,qh2 cf xs ys (by simpa using h),Bool.and_false]
end
section

section
variable {κ:Type} [DecidableEq κ]
structure KeyOk (P:Program) (kt:TypeId) (K:κ->Value):Prop where
 kind:∃ d,P.underlying kt=some d∧(∀ a b,Instr.sameNow d (K a) (K b)=some (decide (a=b)))∧(∀ W b n a,(Instr.checkKey b (n+1) kt (K a)).run P W = .ok () W)
 bits:∀ a,Instr.sameBits 10000 (K a) (K a)=true
def IsMap (K:κ->Value) (W:World) (m:Nat) (f:κ->Option Value):Prop :=
 ∃ (es:Array MapEntry) (clock:Nat) (ks:List κ),W.heap[m]? = some (.map es clock)∧es.toList.map (·.key)=ks.map K∧ks.Nodup ∧
  (∀ i,(h:i<ks.length)->f ks[i]=(es.toList[i]?).map (·.val))∧(∀ a,a∉ks->f a=none)
theorem IsMap.move {K:κ->Value} {W W':World} {m:Nat} {f:κ->Option Value} (h:IsMap K W m f) (hm:W'.heap[m]? = W.heap[m]?):IsMap K W' m f:=by
 obtain ⟨es,clock,ks,h1,h2⟩:=h
 exact ⟨es,clock,ks,hm.trans h1,h2⟩
theorem IsMap.lt {K:κ->Value} {W:World} {m:Nat} {f:κ->Option Value} (h:IsMap K W m f):m<W.heap.size:=by
 obtain ⟨es,clock,ks,h1,_⟩:=h
 exact (Array.getElem?_eq_some_iff.1 h1).1
theorem IsMap.new (K:κ->Value) (W:World):IsMap K (W.alloc (.map #[] 0)) W.heap.size (fun _=>none) :=
 ⟨#[],0,[],Array.getElem?_push_size,rfl,List.nodup_nil,fun i h=>absurd h (by simp),fun _ _=>rfl⟩
theorem qjl {d:TypeDesc} {K:κ->Value} (hK:∀ a b,Instr.sameNow d (K a) (K b)=some (decide (a=b))) (a:κ):∀ (l:List MapEntry) (ks:List κ) (i:Nat),l.map (·.key)=ks.map K ->
  Instr.findNow d (K a) l i=some (if h:a∈ks then (l[ks.idxOf a]?).map (fun e=>(i+ks.idxOf a,e.val)) else none)
 | [],[],i,_=>by simp [Instr.findNow]
 | [],_ :: _,_,h=>by simp at h
 | _ :: _,[],_,h=>by simp at h
 | e :: l,k :: ks,i,h=>by
  simp only [List.map_cons,List.cons.injEq] at h
  rw [Instr.findNow,h.1,hK a k]
  by_cases hak:a=k
  ·subst hak
   simp
  ·simp only [hak,decide_false]
   rw [qjl hK a l ks (i+1) h.2]
   by_cases hm:a∈ks
   ·rw [dif_pos hm,dif_pos (by simp [hm]),List.idxOf_cons,show (k == a)=false from beq_eq_false_iff_ne.2 (Ne.symm hak),cond_false]
    simp only [List.getElem?_cons_succ]
    congr 1
    congr 1
    funext e
    rw [show i+1+ks.idxOf a=i+(ks.idxOf a+1) from by omega]
   ·rw [dif_neg hm,dif_neg (by simp [hm,hak])]
theorem IsMap.lookup {P:Program} {K:κ->Value} {W:World} {m:Nat} {f:κ->Option Value} (h:IsMap K W m f) {t kt et:TypeId} (ht:P.underlying t=some (.map kt et)) (hk:KeyOk P kt K) {z:Value} (hz:(zeroValue et).run P W = .ok z W) (a:κ) :
  (Instr.lookup t (.map (some m)) (K a) false).run P W = .ok ((f a).getD z) W:=by
 obtain ⟨es,clock,ks,h1,h2,h3,h4,h5⟩:=h
 obtain ⟨d,hd,hs,hc⟩:=hk.kind
 have hf:=qjl hs a es.toList ks 0 h2
 have hlen:es.toList.length=ks.length:=by have:=congrArg List.length h2;simpa using this
 unfold Instr.lookup Instr.findKey
 by_cases hm:a∈ks
 ·rw [dif_pos hm] at hf
  have hi:ks.idxOf a<ks.length:=List.idxOf_lt_length_of_mem hm
  have hv:=h4 _ hi
  rw [List.getElem_idxOf] at hv
  rw [List.getElem?_eq_getElem (by omega)] at hv hf
  simp only [Option.map_some] at hv hf
  simp [run_underlying ht,run_underlying hd,getObj,Sem.run,h1,hc,hf,hv]
 ·rw [dif_neg hm] at hf
  rw [h5 a hm]
  simp [run_underlying ht,run_underlying hd,getObj,Sem.run,h1,hc,hf,hz]
theorem IsMap.store {P:Program} {K:κ->Value} {W:World} {m:Nat} {f:κ->Option Value} (h:IsMap K W m f) {t kt et:TypeId} (ht:P.underlying t=some (.map kt et)) (hk:KeyOk P kt K) (a:κ) (v:Value) :
  ∃ W',(Instr.mapUpdate t (.map (some m)) (K a) v).run P W = .ok () W'∧IsMap K W' m (fun b=>if b=a then some v else f b)∧W.grownBy W' (some m):=by
 have hlt:=h.lt
 obtain ⟨es,clock,ks,h1,h2,h3,h4,h5⟩:=h
 obtain ⟨d,hd,hs,hc⟩:=hk.kind
 have hf:=qjl hs a es.toList ks 0 h2
 have hlen:es.toList.length=ks.length:=by have:=congrArg List.length h2;simpa using this
 have hset:∀ o:Obj,({ W with heap:=W.heap.setIfInBounds m o }:World).heap[m]? = some o:=fun o=>by simp [hlt]
 have hgr:∀ o:Obj,W.grownBy { W with heap:=W.heap.setIfInBounds m o } (some m):=fun o =>
  ⟨rfl,rfl,rfl,by simp,fun k hk hne=>by
   have:m≠k:=fun e=>hne (by rw [e])
   simp [Array.getElem?_setIfInBounds,this]⟩
 by_cases hm:a∈ks
 ·rw [dif_pos hm] at hf
  have hi:ks.idxOf a<ks.length:=List.idxOf_lt_length_of_mem hm
  rw [List.getElem?_eq_getElem (by omega)] at hf
  simp only [Option.map_some,Nat.zero_add] at hf
  have hkey:(es.toList[ks.idxOf a]'(by omega)).key=K a:=by
   have:=congrArg (·[ks.idxOf a]?) h2
   simp only [List.getElem?_map] at this
   rw [List.getElem?_eq_getElem (by omega),List.getElem?_eq_getElem hi] at this
   simpa [List.getElem_idxOf] using this
  refine ⟨{ W with heap:=W.heap.setIfInBounds m (.map (es.modify (ks.idxOf a) fun e=>{ e with key:=K a,val:=v }) clock) },?_,⟨_,clock,ks,hset _,?_,h3,?_,?_⟩,hgr _⟩
  ·unfold Instr.mapUpdate Instr.findKey
   have hk2:((es[ks.idxOf a]?).map (·.key)).getD (K a)=K a:=by
    rw [<- Array.getElem?_toList,List.getElem?_eq_getElem (by omega)]
    simpa using hkey
   simp [run_underlying ht,run_underlying hd,getObj,setObj,Sem.run,h1,hc,hf,Instr.keyThatStays,hk2,hk.bits]
  ·rw [Array.toList_modify,<- h2]
   apply List.ext_getElem
   ·simp
   ·intro i p q
    simp only [List.getElem_map,List.getElem_modify]
    split
    ·rename_i e;subst e;simpa using hkey.symm
    ·rfl
  ·intro i p
   show (if ks[i]=a then some v else f ks[i])=_
   simp only [Array.toList_modify,List.getElem?_modify]
   by_cases e:ks[i]=a
   ·have:ks.idxOf a=i:=by rw [<- e];exact List.Nodup.idxOf_getElem h3 i p
    rw [if_pos e,this,List.getElem?_eq_getElem (by omega)]
    simp
   ·have:ks.idxOf a≠i:=fun e'=>e (by subst e';exact List.getElem_idxOf hi)
    rw [if_neg e,h4 i p]
    simp [this]
  ·intro b hb
   show (if b=a then some v else f b)=none
   rw [if_neg (fun e:b=a=>hb (e ▸ hm)),h5 b hb]
 ·rw [dif_neg hm] at hf
  refine ⟨{ W with heap:=W.heap.setIfInBounds m (.map (es.push { key:=K a,val:=v,born:=clock }) (clock+1)) },?_,⟨_,clock+1,ks++[a],hset _,?_,?_,?_,?_⟩,hgr _⟩
  ·unfold Instr.mapUpdate Instr.findKey
   simp [run_underlying ht,run_underlying hd,getObj,setObj,Sem.run,h1,hc,hf]
  ·simp [h2]
  ·rw [List.nodup_append]
   exact ⟨h3,by simp,by intro x hx y hy;simp at hy;subst hy;exact fun e=>hm (e ▸ hx)⟩
  ·intro i p
   rw [Array.toList_push]
   show (if (ks++[a])[i]=a then some v else f (ks++[a])[i])=_
   rcases Nat.lt_or_ge i ks.length with h | h
   ·have e1:(ks++[a])[i]=ks[i]:=List.getElem_append_left h
    rw [e1,if_neg (fun e:ks[i]=a=>hm (e ▸ List.getElem_mem h)),h4 i h,List.getElem?_append_left (by omega)]
   ·have e1:(ks++[a])[i]=a:=by
     rw [List.getElem_append_right h];simp
    have e2:i=es.toList.length:=by simp at p;omega
    rw [e1,if_pos rfl,List.getElem?_append_right (by omega),e2]
    simp
  ·intro b hb
   simp at hb
   show (if b=a then some v else f b)=none
   rw [if_neg hb.2,h5 b hb.1]
end
theorem qg8:KeyOk Tryz.prog 3 (Value.int .i64):={
 kind:=⟨.int .i64,Tryz.underlying3,fun a b=>by
  have:(a == b)=decide (a=b):=by rw [Bool.eq_iff_iff];simp
  simp [Instr.sameNow,this],fun W b n a=>by simp [Instr.checkKey,run_underlying Tryz.underlying3]⟩
 bits a:=by simp [Instr.sameBits] }
theorem bytes_beq (a b:ByteArray):(a == b)=true↔a=b:=by
 cases a;cases b
 rename_i x y
 show (x == y)=true↔_
 simp
theorem qkm:KeyOk Tryz.prog 9 Value.string:={
 kind:=⟨.string,Tryz.underlying9,fun a b=>by
  have:(a == b)=decide (a=b):=by rw [Bool.eq_iff_iff,bytes_beq];simp
  simp [Instr.sameNow,this],fun W b n a=>by simp [Instr.checkKey,run_underlying Tryz.underlying9]⟩
 bits a:=by simp [Instr.sameBits,bytes_beq] }
end
end Go.Proofs.YtegenalcheooeaaGreat
