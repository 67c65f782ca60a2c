/- Of the proof of a law of the suites: Cmp2, LibWords, MapW. -/
import Derived.Test.YtegenalcheooeaaGreatB01
import Derived.Test.YtegenalcheooeaaGreatB02
import Derived.Carry
set_option linter.unusedSectionVars false
set_option linter.unusedSimpArgs false
set_option linter.unusedVariables false
namespace Go.Proofs.YtegenalcheooeaaGreat
open Go.RowKit
attribute [local go_sem] cell?_exto
section

set_option maxHeartbeats 1000000 in
set_option maxRecDepth 100000 in
theorem qr6 (x:List Tm) (ht:∀ t∈x,TermC t):qlf x:=by
 intro S y B vx vy w hx hy hB
 obtain ⟨A,c,rfl,hc,hc0⟩:=hx.val
 obtain ⟨A',c',rfl,hc',hc0'⟩:=hy.val
 have hB0:=World.block_lt_of_cell? w _ hB
 go_enter Tryz.func230,Tryz.ntmps230
 go_wp2
 go_loopw [5,6,7] (fun _ i _ wr=>∃ k:Nat,k<=x.length∧k<=y.length∧i = .int .i64 k∧qad w wr∧Hid (∀ j,(h1:j<x.length)->(h2:j<y.length)->j<k->qbs x[j] y[j]=0)) (fun _ i _ _=>x.length-(intOf i).toNat)
 case atStart=>exact ⟨0,Nat.zero_le _,Nat.zero_le _,rfl,qad.refl _,fun j _ _ hj=>absurd hj (by omega)⟩
 case round =>
  obtain ⟨k,hk,hk',rfl,hE,hz⟩:=hrel
  by_cases hlt:k<x.length∧k<y.length
  ·obtain ⟨hlt,hlt'⟩:=hlt
   have tB:=hE.keep hB
   obtain ⟨b,off,cs,rfl,hb,hs,hl,hr,hcell⟩:=(qam.good.ext hx hE).get k hlt
   obtain ⟨b',off',cs',rfl,hb',hs',hl',hr',hcell'⟩:=(qam.good.ext hy hE).get k hlt'
   obtain ⟨i1,i2,v,rfl,hv⟩:=(qax ..).1 hr
   obtain ⟨i1',i2',v',rfl,hv'⟩:=(qax ..).1 hr'
   obtain ⟨A2,c2,rfl,_,_⟩:=hv.val
   obtain ⟨A2',c2',rfl,_,_⟩:=hv'.val
   have g0:=hcell.get 0 _
   have g1:=hcell.get 1 _
   have g2:=hcell.get 2 _
   have g0':=hcell'.get 0 _
   have g1':=hcell'.get 1 _
   have g2':=hcell'.get 2 _
   simp only [Nat.add_zero] at g0 g0'
   have hcon:=ht x[k] (List.getElem_mem hlt) S y[k] B
   clear hcell hcell' hl hl' hs hs' ht
   have z1:(0:Int)<=(k:Int):=by omega
   have z2:(k:Int)<(x.length:Int):=by omega
   have z3:(k:Int)<(y.length:Int):=by omega
   by_cases h0:qbs x[k] y[k]=0
   ·have h0':(qbs x[k] y[k] != 0)=false:=by simp [h0]
    have H0:Hid _:=h0
    clear h0
    go_wp2
    go_region_held3 (fun W=>W.cell? ⟨b,off+k*3,none⟩=some (.int .i64 x[k].k)∧W.cell? ⟨b,off+k*3+1,none⟩=some (.int .i64 x[k].n)∧W.cell? ⟨b,off+k*3+2,none⟩=some (.slice A2 x[k].l.length c2)∧W.cell? ⟨b',off'+k*3,none⟩=some (.int .i64 y[k].k)∧W.cell? ⟨b',off'+k*3+1,none⟩=some (.int .i64 y[k].n)∧W.cell? ⟨b',off'+k*3+2,none⟩=some (.slice A2' y[k].l.length c2')∧W.cell? ⟨B,0,none⟩=some (.func (.func 230) #[] #[.pointer (some ⟨B,0,none⟩)]))
     (first | (refine ⟨?_,?_,?_,?_,?_,?_,?_⟩ <;> go_simp <;> done) | exact hx1.k7 (by assumption) | exact ((qad.refl _).alloc _).k7 (by assumption))
     (first | (go_at_call 231;refine (hcon _ _ _ (RTm.good.ext hr qaj) (RTm.good.ext hr' qaj) (by go_simp)).mono ?_;rintro e w1 ⟨rfl,hx1⟩))
    go_wp2
    go_roundw
    case rel =>
     refine ⟨k+1,by omega,by omega,by go_num,qaj,fun j h1 h2 hjk=>?_⟩
     rcases Nat.lt_or_ge j k with h | h
     ·exact hz j h1 h2 h
     ·obtain rfl:j=k:=by omega
      exact H0
    case measure=>simp [intOf];omega
   ·have h0':(qbs x[k] y[k] != 0)=true:=by simp [h0]
    have H0:Hid _:=h0
    clear h0
    go_wp2
    go_region_held3 (fun W=>W.cell? ⟨b,off+k*3,none⟩=some (.int .i64 x[k].k)∧W.cell? ⟨b,off+k*3+1,none⟩=some (.int .i64 x[k].n)∧W.cell? ⟨b,off+k*3+2,none⟩=some (.slice A2 x[k].l.length c2)∧W.cell? ⟨b',off'+k*3,none⟩=some (.int .i64 y[k].k)∧W.cell? ⟨b',off'+k*3+1,none⟩=some (.int .i64 y[k].n)∧W.cell? ⟨b',off'+k*3+2,none⟩=some (.slice A2' y[k].l.length c2')∧W.cell? ⟨B,0,none⟩=some (.func (.func 230) #[] #[.pointer (some ⟨B,0,none⟩)]))
     (first | (refine ⟨?_,?_,?_,?_,?_,?_,?_⟩ <;> go_simp <;> done) | exact hx1.k7 (by assumption) | exact ((qad.refl _).alloc _).k7 (by assumption))
     (first | (go_at_call 231;refine (hcon _ _ _ (RTm.good.ext hr qaj) (RTm.good.ext hr' qaj) (by go_simp)).mono ?_;rintro e w1 ⟨rfl,hx1⟩))
    go_wp2
    go_ret
    refine ⟨?_,qaj⟩
    rw [qlu k x y hz hk hk',List.drop_eq_getElem_cons hlt,List.drop_eq_getElem_cons hlt',qar,if_neg H0.out]
    rfl
  ·have e:qar x y=qah x.length y.length:=by rw [qlu k x y hz hk hk',qme (by omega) hk hk']
   have HE:Hid _:=e
   clear e
   by_cases hl1:k<x.length
   ·have hl2:decide (k<y.length)=false:=by simp;omega
    have hl3:decide ((k:Int)<(y.length:Int))=false:=by simp;omega
    clear hlt ht
    go_wp2_with (go_at_call 120;refine (qe6 _ _ _).mono ?_;rintro e w' ⟨rfl,rfl⟩)
    go_ret
    exact ⟨by rw [HE.out];rfl,hE⟩
   ·clear hlt ht
    go_wp2_with (go_at_call 120;refine (qe6 _ _ _).mono ?_;rintro e w' ⟨rfl,rfl⟩)
    go_ret
    exact ⟨by rw [HE.out];rfl,hE⟩
theorem term_c:∀ x,TermC x:=Tm.ind fun t ih=>term_of t (qr6 t.l ih)
theorem terms_c (x:List Tm):qlf x:=qr6 x fun t _=>term_c t
theorem qg9 (S:Nat->Prop) (x y:Lb) (cx cy:List Value) (w:World) (hx:RLb S w x cx) (hy:RLb S w y cy) :
  Calls Tryz.prog 166 #[.agg cx.toArray,.agg cy.toArray] w fun e w'=>e = .returned (.int .i64 (qan x y))∧qad w w':=by
 obtain ⟨_,vx,rfl,hx⟩:=hx
 obtain ⟨_,vy,rfl,hy⟩:=hy
 exact qt2 S x y vx vy w hx hy (terms_c _)
end
section
def qaq {σ α:Type} (step:σ->α->Bool×σ):σ->List α->Int×σ
 | s,[]=>(-1,s)
 | s,x :: xs=>if (step s x).1 then (0,(step s x).2) else
   ((qaq step (step s x).2 xs).1+(if (qaq step (step s x).2 xs).1<0 then 0 else 1),(qaq step (step s x).2 xs).2)
def qco {σ α:Type} (step:σ->α->Bool×σ):σ->List α->Bool×σ
 | s,[]=>(false,s)
 | s,x :: xs=>if (step s x).1 then (true,(step s x).2) else qco step (step s x).2 xs
theorem qq0 {σ α:Type} (step:σ->α->Bool×σ):∀ (s:σ) (xs:List α),-1<=(qaq step s xs).1
 | s,[]=>by simp [qaq]
 | s,x :: xs=>by
  have:=qq0 step (step s x).2 xs
  rw [qaq]
  split
  ·simp
  ·simp only [];split <;> omega
theorem qha {σ α:Type} (step:σ->α->Bool×σ):∀ (s:σ) (xs:List α),qco step s xs=(decide (0<=(qaq step s xs).1),(qaq step s xs).2)
 | s,[]=>by simp [qaq,qco]
 | s,x :: xs=>by
  have h:=qq0 step (step s x).2 xs
  rw [qaq,qco]
  split
  ·simp
  ·rw [qha step _ xs]
   simp only [Prod.mk.injEq,and_true]
   split
   ·simp
   ·simp;omega
theorem qhq {σ:Type} (r:Int×σ) (k:Nat) :
  ((if false=true then ((0:Int),r.2) else (r.1+(if r.1<0 then 0 else 1),r.2)).1+(if (if false=true then ((0:Int),r.2) else (r.1+(if r.1<0 then 0 else 1),r.2)).1<0 then 0 else (k:Int)),(if false=true then ((0:Int),r.2) else (r.1+(if r.1<0 then 0 else 1),r.2)).2) =
   (r.1+(if r.1<0 then 0 else ((k+1:Nat):Int)),r.2):=by
 simp only [Bool.false_eq_true,if_false,Prod.mk.injEq,and_true]
 split
 ·rw [if_pos (by omega)];omega
 ·rw [if_neg (by omega)];omega
def qbn {α:Type} (p:α->Bool):List α->Int
 | []=>-1
 | x :: xs=>if p x then 0 else qbn p xs+(if qbn p xs<0 then 0 else 1)
theorem qh7 {α:Type} (p:α->Bool) (xs:List α):(qaq (fun (s:Unit) x=>(p x,s)) () xs).1=qbn p xs:=by
 induction xs with
 | nil=>rfl
 | cons x xs ih=>rw [qaq,qbn];split <;> simp_all
theorem qh0 {α:Type} (p:α->Bool) (xs:List α):(qco (fun (s:Unit) x=>(p x,s)) () xs).1=xs.any p:=by
 induction xs with
 | nil=>rfl
 | cons x xs ih=>rw [qco,List.any_cons];cases h:p x <;> simp_all
def qa1 {α:Type} (cf:α->α->Int):List α->List α->Int
 | [],[]=>0
 | [],_ :: _=>-1
 | _ :: _,[]=>1
 | x :: xs,y :: ys=>if cf x y=0 then qa1 cf xs ys else cf x y
def leq {α:Type} (cf:α->α->Bool):List α->List α->Bool
 | [],[]=>true
 | [],_ :: _=>false
 | _ :: _,[]=>false
 | x :: xs,y :: ys=>cf x y && leq cf xs ys
theorem qie {α:Type} (cf:α->α->Bool):∀ (xs ys:List α),xs.length≠ys.length->leq cf xs ys=false
 | [],[],h=>absurd rfl h
 | [],_ :: _,_=>rfl
 | _ :: _,[],_=>rfl
 | x :: xs,y :: ys,h=>by rw [leq,qie cf xs ys (by simpa using h),Bool.and_false]
end
section

section
variable {κ:Type} [DecidableEq κ]
structure KeyOk (P:Program) (kt:TypeId) (K:κ->Value):Prop where
 kind:∃ d,P.underlying kt=some d∧(∀ a b,Instr.sameNow d (K a) (K b)=some (decide (a=b)))∧(∀ W b n a,(Instr.checkKey b (n+1) kt (K a)).run P W = .ok () W)
 bits:∀ a,Instr.sameBits 10000 (K a) (K a)=true
def IsMap (K:κ->Value) (W:World) (m:Nat) (f:κ->Option Value):Prop :=
 ∃ (es:Array MapEntry) (clock:Nat) (ks:List κ),W.heap[m]? = some (.map es clock)∧es.toList.map (·.key)=ks.map K∧ks.Nodup ∧
  (∀ i,(h:i<ks.length)->f ks[i]=(es.toList[i]?).map (·.val))∧(∀ a,a∉ks->f a=none)
theorem IsMap.move {K:κ->Value} {W W':World} {m:Nat} {f:κ->Option Value} (h:IsMap K W m f) (hm:W'.heap[m]? = W.heap[m]?):IsMap K W' m f:=by
 obtain ⟨es,clock,ks,h1,h2⟩:=h
 exact ⟨es,clock,ks,hm.trans h1,h2⟩
theorem IsMap.lt {K:κ->Value} {W:World} {m:Nat} {f:κ->Option Value} (h:IsMap K W m f):m<W.heap.size:=by
 obtain ⟨es,clock,ks,h1,_⟩:=h
 exact (Array.getElem?_eq_some_iff.1 h1).1
theorem IsMap.new (K:κ->Value) (W:World):IsMap K (W.alloc (.map #[] 0)) W.heap.size (fun _=>none) :=
 ⟨#[],0,[],Array.getElem?_push_size,rfl,List.nodup_nil,fun i h=>absurd h (by simp),fun _ _=>rfl⟩
theorem qji {d:TypeDesc} {K:κ->Value} (hK:∀ a b,Instr.sameNow d (K a) (K b)=some (decide (a=b))) (a:κ):∀ (l:List MapEntry) (ks:List κ) (i:Nat),l.map (·.key)=ks.map K ->
  Instr.findNow d (K a) l i=some (if h:a∈ks then (l[ks.idxOf a]?).map (fun e=>(i+ks.idxOf a,e.val)) else none)
 | [],[],i,_=>by simp [Instr.findNow]
 | [],_ :: _,_,h=>by simp at h
 | _ :: _,[],_,h=>by simp at h
 | e :: l,k :: ks,i,h=>by
  simp only [List.map_cons,List.cons.injEq] at h
  rw [Instr.findNow,h.1,hK a k]
  by_cases hak:a=k
  ·subst hak
   simp
  ·simp only [hak,decide_false]
   rw [qji hK a l ks (i+1) h.2]
   by_cases hm:a∈ks
   ·rw [dif_pos hm,dif_pos (by simp [hm]),List.idxOf_cons,show (k == a)=false from beq_eq_false_iff_ne.2 (Ne.symm hak),cond_false]
    simp only [List.getElem?_cons_succ]
    congr 1
    congr 1
    funext e
    rw [show i+1+ks.idxOf a=i+(ks.idxOf a+1) from by omega]
   ·rw [dif_neg hm,dif_neg (by simp [hm,hak])]
theorem IsMap.lookup {P:Program} {K:κ->Value} {W:World} {m:Nat} {f:κ->Option Value} (h:IsMap K W m f) {t kt et:TypeId} (ht:P.underlying t=some (.map kt et)) (hk:KeyOk P kt K) {z:Value} (hz:(zeroValue et).run P W = .ok z W) (a:κ) :
  (Instr.lookup t (.map (some m)) (K a) false).run P W = .ok ((f a).getD z) W:=by
 obtain ⟨es,clock,ks,h1,h2,h3,h4,h5⟩:=h
 obtain ⟨d,hd,hs,hc⟩:=hk.kind
 have hf:=qji hs a es.toList ks 0 h2
 have hlen:es.toList.length=ks.length:=by have:=congrArg List.length h2;simpa using this
 unfold Instr.lookup Instr.findKey
 by_cases hm:a∈ks
 ·rw [dif_pos hm] at hf
  have hi:ks.idxOf a<ks.length:=List.idxOf_lt_length_of_mem hm
  have hv:=h4 _ hi
  rw [List.getElem_idxOf] at hv
  rw [List.getElem?_eq_getElem (by omega)] at hv hf
  simp only [Option.map_some] at hv hf
  simp [run_underlying ht,run_underlying hd,getObj,Sem.run,h1,hc,hf,hv]
 ·rw [dif_neg hm] at hf
  rw [h5 a hm]
  simp [run_underlying ht,run_underlying hd,getObj,Sem.run,h1,hc,hf,hz]
theorem IsMap.store {P:Program} {K:κ->Value} {W:World} {m:Nat} {f:κ->Option Value} (h:IsMap K W m f) {t kt et:TypeId} (ht:P.underlying t=some (.map kt et)) (hk:KeyOk P kt K) (a:κ) (v:Value) :
  ∃ W',(Instr.mapUpdate t (.map (some m)) (K a) v).run P W = .ok () W'∧IsMap K W' m (fun b=>if b=a then some v else f b)∧W.grownBy W' (some m):=by
 have hlt:=h.lt
 obtain ⟨es,clock,ks,h1,h2,h3,h4,h5⟩:=h
 obtain ⟨d,hd,hs,hc⟩:=hk.kind
 have hf:=qji hs a es.toList ks 0 h2
 have hlen:es.toList.length=ks.length:=by have:=congrArg List.length h2;simpa using this
 have hset:∀ o:Obj,({ W with heap:=W.heap.setIfInBounds m o }:World).heap[m]? = some o:=fun o=>by simp [hlt]
 have hgr:∀ o:Obj,W.grownBy { W with heap:=W.heap.setIfInBounds m o } (some m):=fun o =>
  ⟨rfl,rfl,rfl,by simp,fun k hk hne=>by
   have:m≠k:=fun e=>hne (by rw [e])
   simp [Array.getElem?_setIfInBounds,this]⟩
 by_cases hm:a∈ks
 ·rw [dif_pos hm] at hf
  have hi:ks.idxOf a<ks.length:=List.idxOf_lt_length_of_mem hm
  rw [List.getElem?_eq_getElem (by omega)] at hf
  simp only [Option.map_some,Nat.zero_add] at hf
  have hkey:(es.toList[ks.idxOf a]'(by omega)).key=K a:=by
   have:=congrArg (·[ks.idxOf a]?) h2
   simp only [List.getElem?_map] at this
   rw [List.getElem?_eq_getElem (by omega),List.getElem?_eq_getElem hi] at this
   simpa [List.getElem_idxOf] using this
  refine ⟨{ W with heap:=W.heap.setIfInBounds m (.map (es.modify (ks.idxOf a) fun e=>{ e with key:=K a,val:=v }) clock) },?_,⟨_,clock,ks,hset _,?_,h3,?_,?_⟩,hgr _⟩
  ·unfold Instr.mapUpdate Instr.findKey
   have hk2:((es[ks.idxOf a]?).map (·.key)).getD (K a)=K a:=by
    rw [<- Array.getElem?_toList,List.getElem?_eq_getElem (by omega)]
    simpa using hkey
   simp [run_underlying ht,run_underlying hd,getObj,setObj,Sem.run,h1,hc,hf,Instr.keyThatStays,hk2,hk.bits]
  ·rw [Array.toList_modify,<- h2]
   apply List.ext_getElem
   ·simp
   ·intro i p q
    simp only [List.getElem_map,List.getElem_modify]
    split
    ·rename_i e;subst e;simpa using hkey.symm
    ·rfl
  ·intro i p
   show (if ks[i]=a then some v else f ks[i])=_
   simp only [Array.toList_modify,List.getElem?_modify]
   by_cases e:ks[i]=a
   ·have:ks.idxOf a=i:=by rw [<- e];exact List.Nodup.idxOf_getElem h3 i p
    rw [if_pos e,this,List.getElem?_eq_getElem (by omega)]
    simp
   ·have:ks.idxOf a≠i:=fun e'=>e (by subst e';exact List.getElem_idxOf hi)
    rw [if_neg e,h4 i p]
    simp [this]
  ·intro b hb
   show (if b=a then some v else f b)=none
   rw [if_neg (fun e:b=a=>hb (e ▸ hm)),h5 b hb]
 ·rw [dif_neg hm] at hf
  refine ⟨{ W with heap:=W.heap.setIfInBounds m (.map (es.push { key:=K a,val:=v,born:=clock }) (clock+1)) },?_,⟨_,clock+1,ks++[a],hset _,?_,?_,?_,?_⟩,hgr _⟩
  ·unfold Instr.mapUpdate Instr.findKey
   simp [run_underlying ht,run_underlying hd,getObj,setObj,Sem.run,h1,hc,hf]
  ·simp [h2]
  ·rw [List.nodup_append]
   exact ⟨h3,by simp,by intro x hx y hy;simp at hy;subst hy;exact fun e=>hm (e ▸ hx)⟩
  ·intro i p
   rw [Array.toList_push]
   show (if (ks++[a])[i]=a then some v else f (ks++[a])[i])=_
   rcases Nat.lt_or_ge i ks.length with h | h
   ·have e1:(ks++[a])[i]=ks[i]:=List.getElem_append_left h
    rw [e1,if_neg (fun e:ks[i]=a=>hm (e ▸ List.getElem_mem h)),h4 i h,List.getElem?_append_left (by omega)]
   ·have e1:(ks++[a])[i]=a:=by
     rw [List.getElem_append_right h];simp
    have e2:i=es.toList.length:=by simp at p;omega
    rw [e1,if_pos rfl,List.getElem?_append_right (by omega),e2]
    simp
  ·intro b hb
   simp at hb
   show (if b=a then some v else f b)=none
   rw [if_neg hb.2,h5 b hb.1]
end
theorem qgp:KeyOk Tryz.prog 3 (Value.int .i64):={
 kind:=⟨.int .i64,Tryz.underlying3,fun a b=>by
  have:(a == b)=decide (a=b):=by rw [Bool.eq_iff_iff];simp
  simp [Instr.sameNow,this],fun W b n a=>by simp [Instr.checkKey,run_underlying Tryz.underlying3]⟩
 bits a:=by simp [Instr.sameBits] }
theorem bytes_beq (a b:ByteArray):(a == b)=true↔a=b:=by
 cases a;cases b
 rename_i x y
 show (x == y)=true↔_
 simp
theorem qky:KeyOk Tryz.prog 9 Value.string:={
 kind:=⟨.string,Tryz.underlying9,fun a b=>by
  have:(a == b)=decide (a=b):=by rw [Bool.eq_iff_iff,bytes_beq];simp
  simp [Instr.sameNow,this],fun W b n a=>by simp [Instr.checkKey,run_underlying Tryz.underlying9]⟩
 bits a:=by simp [Instr.sameBits,bytes_beq] }
end
end Go.Proofs.YtegenalcheooeaaGreat
