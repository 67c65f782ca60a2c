/- Of the proof of a law of the suites: Clone, SortI, LKeyW. -/
import Derived.Test.YtegenalcheooeaaGreatB04
import Derived.Test.YtegenalcheooeaaGreatB08
import Derived.Test.YtegenalcheooeaaGreatLaid
import Derived.Lib.SliceRun
import Derived.Shelf.Lay
import Derived.Shelf.Sort.Plain
import Derived.Shelf.Slices.In.SortNone
import Derived.Ground.Names2Prog
import Derived.Sort.OwnSortedInts
set_option linter.unusedSectionVars false
set_option linter.unusedSimpArgs false
set_option linter.unusedVariables false
namespace Go.Proofs.YtegenalcheooeaaGreat
open Go.RowKit
attribute [local go_sem] cell?_exto
section
set_option maxHeartbeats 1000000
set_option maxRecDepth 100000
/- slices.Clone at each element type. -/
theorem qhm:(Tryz.prog.info? 61).map (fun i=>(i.zero,i.size,i.bytes))=some (some (.agg #[.int .i64 0,.slice none 0 0]),2,32):=by kernel_rfl
theorem qn3 (S:Nat->Prop) (xs:List (Lb)) (v:Value) (w:World) (hx:RSl RLb 2 S w xs [v]) (hbig:xs.length*32<=140737488355328) :
  Calls Tryz.prog 39 #[v] w (qls RLb 2 61 S xs w):=by
 obtain ⟨A,c,hv,hc,hc0,h⟩:=hx
 injection hv with hv
 subst hv
 have qn:∀ (w:World) (a:Option Addr) (n c n' c':Nat),(binOp .eql 22 (.slice a n c) (.slice none n' c')).run Tryz.prog w = .ok (.bool a.isNone) w:=fun w a n c n' c'=>Lib.run_eql_slice_nil w _ _ a n c n' c' Tryz.underlying22
 rcases A with _ | a
 ·have hxs:xs=[]:=by
   rcases h with h | ⟨b,off,h,_⟩
   ·exact h
   ·cases h
  subst hxs
  go_enter Tryz.func39,Tryz.ntmps39
  go_wp2
  go_ret
  exact ⟨_,rfl,qab.nil ..,Ext.refl _⟩
 ·obtain ⟨news,hF,hcell⟩:∃ news,Flat RLb 2 S w xs news∧∀ j u,news[j]? = some u->w.cell? (a.add j)=some u:=by
   rcases h with rfl | ⟨b,off,ha,hb,hS,hr⟩
   ·exact ⟨[],rfl,fun j u h=>by simp at h⟩
   ·obtain ⟨news,h1,h2⟩:=hr.flat
    injection ha with ha
    subst ha
    exact ⟨news,h1,fun j u hj=>by rw [Addr.add_lit];exact h2 j u hj⟩
  obtain ⟨i3,hi3,hzz⟩:=Option.map_eq_some_iff.1 qhm
  simp only [Prod.mk.injEq] at hzz
  obtain ⟨hz0,hz1,hz2⟩:=hzz
  have HF:=Hd hF
  have HC:=Hd hcell
  clear hF hcell h
  go_enter Tryz.func39,Tryz.ntmps39
  go_wp2_with (at_builtin;refine wpList_append_own_at _ rfl _ _ 22 rfl w.heap.size 61 i3 _ 2 32 Tryz.underlying22 hi3 hz0 hz1 hz2 rfl (by decide) _ _ _ rfl (World.ownsRow_made w #[] 0 (Nat.le_refl _) (Nat.zero_le _) (by simp)) a xs.length c news rfl HF.out.len (fun j u hj=>Lib.cell?_alloc_some _ (HC.out j u hj)) (HF.out.one RLb.good) (by unfold maxLen;omega) (by omega) (by simp) ?_)
  intro v' w1 hown hgrow hnil hat
  go_wp2
  go_ret
  have he:Ext w (w.alloc (.cells #[] 61)):=(Ext.refl w).alloc _
  refine ⟨v',rfl,?_,(he.grown hgrow (by simp) (by intro k hk;simp [Value.ownBlock] at hk;omega))⟩
  have hp:=qab.push (xs:=[]) RLb.good (T:=S) (v:=.slice (some ⟨w.heap.size,0,none⟩) 0 0) (w:=w.alloc (.cells #[] 61)) (news:=[]) (cs:=news) (ys:=xs) rfl
   (HF.out.imp fun x _ cs hx=>RLb.good.bel (RLb.good.mono hx fun b hb hb'=>⟨hb',by simp [Value.ownBlock];omega⟩) he) (by simpa using hown) hgrow (by rw [World.size_alloc];exact hat)
  exact hp
theorem qk8:(Tryz.prog.info? 159).map (fun i=>(i.zero,i.size,i.bytes))=some (some (.agg #[.int .i64 0,.int .i64 0,.slice none 0 0]),3,40):=by kernel_rfl
theorem cloneTm (S:Nat->Prop) (xs:List (Tm)) (v:Value) (w:World) (hx:RSl RTm 3 S w xs [v]) (hbig:xs.length*40<=140737488355328) :
  Calls Tryz.prog 152 #[v] w (qls RTm 3 159 S xs w):=by
 obtain ⟨A,c,hv,hc,hc0,h⟩:=hx
 injection hv with hv
 subst hv
 have qn:∀ (w:World) (a:Option Addr) (n c n' c':Nat),(binOp .eql 59 (.slice a n c) (.slice none n' c')).run Tryz.prog w = .ok (.bool a.isNone) w:=fun w a n c n' c'=>Lib.run_eql_slice_nil w _ _ a n c n' c' Tryz.underlying59
 rcases A with _ | a
 ·have hxs:xs=[]:=by
   rcases h with h | ⟨b,off,h,_⟩
   ·exact h
   ·cases h
  subst hxs
  go_enter Tryz.func152,Tryz.ntmps152
  go_wp2
  go_ret
  exact ⟨_,rfl,qab.nil ..,Ext.refl _⟩
 ·obtain ⟨news,hF,hcell⟩:∃ news,Flat RTm 3 S w xs news∧∀ j u,news[j]? = some u->w.cell? (a.add j)=some u:=by
   rcases h with rfl | ⟨b,off,ha,hb,hS,hr⟩
   ·exact ⟨[],rfl,fun j u h=>by simp at h⟩
   ·obtain ⟨news,h1,h2⟩:=hr.flat
    injection ha with ha
    subst ha
    exact ⟨news,h1,fun j u hj=>by rw [Addr.add_lit];exact h2 j u hj⟩
  obtain ⟨i3,hi3,hzz⟩:=Option.map_eq_some_iff.1 qk8
  simp only [Prod.mk.injEq] at hzz
  obtain ⟨hz0,hz1,hz2⟩:=hzz
  have HF:=Hd hF
  have HC:=Hd hcell
  clear hF hcell h
  go_enter Tryz.func152,Tryz.ntmps152
  go_wp2_with (at_builtin;refine wpList_append_own_at _ rfl _ _ 59 rfl w.heap.size 159 i3 _ 3 40 Tryz.underlying59 hi3 hz0 hz1 hz2 rfl (by decide) _ _ _ rfl (World.ownsRow_made w #[] 0 (Nat.le_refl _) (Nat.zero_le _) (by simp)) a xs.length c news rfl HF.out.len (fun j u hj=>Lib.cell?_alloc_some _ (HC.out j u hj)) (HF.out.one RTm.good) (by unfold maxLen;omega) (by omega) (by simp) ?_)
  intro v' w1 hown hgrow hnil hat
  go_wp2
  go_ret
  have he:Ext w (w.alloc (.cells #[] 159)):=(Ext.refl w).alloc _
  refine ⟨v',rfl,?_,(he.grown hgrow (by simp) (by intro k hk;simp [Value.ownBlock] at hk;omega))⟩
  have hp:=qab.push (xs:=[]) RTm.good (T:=S) (v:=.slice (some ⟨w.heap.size,0,none⟩) 0 0) (w:=w.alloc (.cells #[] 159)) (news:=[]) (cs:=news) (ys:=xs) rfl
   (HF.out.imp fun x _ cs hx=>RTm.good.bel (RTm.good.mono hx fun b hb hb'=>⟨hb',by simp [Value.ownBlock];omega⟩) he) (by simpa using hown) hgrow (by rw [World.size_alloc];exact hat)
  exact hp
theorem qq7:(Tryz.prog.info? 22).map (fun i=>(i.zero,i.size,i.bytes))=some (some (.slice none 0 0),1,24):=by kernel_rfl
theorem cloneLbs (S:Nat->Prop) (xs:List (List Lb)) (v:Value) (w:World) (hx:RSl qaa 1 S w xs [v]) (hbig:xs.length*24<=140737488355328) :
  Calls Tryz.prog 216 #[v] w (qls qaa 1 22 S xs w):=by
 obtain ⟨A,c,hv,hc,hc0,h⟩:=hx
 injection hv with hv
 subst hv
 have qn:∀ (w:World) (a:Option Addr) (n c n' c':Nat),(binOp .eql 30 (.slice a n c) (.slice none n' c')).run Tryz.prog w = .ok (.bool a.isNone) w:=fun w a n c n' c'=>Lib.run_eql_slice_nil w _ _ a n c n' c' Tryz.underlying30
 rcases A with _ | a
 ·have hxs:xs=[]:=by
   rcases h with h | ⟨b,off,h,_⟩
   ·exact h
   ·cases h
  subst hxs
  go_enter Tryz.func216,Tryz.ntmps216
  go_wp2
  go_ret
  exact ⟨_,rfl,qab.nil ..,Ext.refl _⟩
 ·obtain ⟨news,hF,hcell⟩:∃ news,Flat qaa 1 S w xs news∧∀ j u,news[j]? = some u->w.cell? (a.add j)=some u:=by
   rcases h with rfl | ⟨b,off,ha,hb,hS,hr⟩
   ·exact ⟨[],rfl,fun j u h=>by simp at h⟩
   ·obtain ⟨news,h1,h2⟩:=hr.flat
    injection ha with ha
    subst ha
    exact ⟨news,h1,fun j u hj=>by rw [Addr.add_lit];exact h2 j u hj⟩
  obtain ⟨i3,hi3,hzz⟩:=Option.map_eq_some_iff.1 qq7
  simp only [Prod.mk.injEq] at hzz
  obtain ⟨hz0,hz1,hz2⟩:=hzz
  have HF:=Hd hF
  have HC:=Hd hcell
  clear hF hcell h
  go_enter Tryz.func216,Tryz.ntmps216
  go_wp2_with (at_builtin;refine wpList_append_own_at _ rfl _ _ 30 rfl w.heap.size 22 i3 _ 1 24 Tryz.underlying30 hi3 hz0 hz1 hz2 rfl (by decide) _ _ _ rfl (World.ownsRow_made w #[] 0 (Nat.le_refl _) (Nat.zero_le _) (by simp)) a xs.length c news rfl HF.out.len (fun j u hj=>Lib.cell?_alloc_some _ (HC.out j u hj)) (HF.out.one qaa.good) (by unfold maxLen;omega) (by omega) (by simp) ?_)
  intro v' w1 hown hgrow hnil hat
  go_wp2
  go_ret
  have he:Ext w (w.alloc (.cells #[] 22)):=(Ext.refl w).alloc _
  refine ⟨v',rfl,?_,(he.grown hgrow (by simp) (by intro k hk;simp [Value.ownBlock] at hk;omega))⟩
  have hp:=qab.push (xs:=[]) qaa.good (T:=S) (v:=.slice (some ⟨w.heap.size,0,none⟩) 0 0) (w:=w.alloc (.cells #[] 22)) (news:=[]) (cs:=news) (ys:=xs) rfl
   (HF.out.imp fun x _ cs hx=>qaa.good.bel (qaa.good.mono hx fun b hb hb'=>⟨hb',by simp [Value.ownBlock];omega⟩) he) (by simpa using hown) hgrow (by rw [World.size_alloc];exact hat)
  exact hp
theorem infoInta:(Tryz.prog.info? 3).map (fun i=>(i.zero,i.size,i.bytes))=some (some (.int .i64 0),1,8):=by kernel_rfl
theorem cloneInt (S:Nat->Prop) (xs:List (Int)) (v:Value) (w:World) (hx:RSl qac 1 S w xs [v]) (hbig:xs.length*8<=140737488355328) :
  Calls Tryz.prog 250 #[v] w (qls qac 1 3 S xs w):=by
 obtain ⟨A,c,hv,hc,hc0,h⟩:=hx
 injection hv with hv
 subst hv
 have qn:∀ (w:World) (a:Option Addr) (n c n' c':Nat),(binOp .eql 53 (.slice a n c) (.slice none n' c')).run Tryz.prog w = .ok (.bool a.isNone) w:=fun w a n c n' c'=>Lib.run_eql_slice_nil w _ _ a n c n' c' Tryz.underlying53
 rcases A with _ | a
 ·have hxs:xs=[]:=by
   rcases h with h | ⟨b,off,h,_⟩
   ·exact h
   ·cases h
  subst hxs
  go_enter Tryz.func250,Tryz.ntmps250
  go_wp2
  go_ret
  exact ⟨_,rfl,qab.nil ..,Ext.refl _⟩
 ·obtain ⟨news,hF,hcell⟩:∃ news,Flat qac 1 S w xs news∧∀ j u,news[j]? = some u->w.cell? (a.add j)=some u:=by
   rcases h with rfl | ⟨b,off,ha,hb,hS,hr⟩
   ·exact ⟨[],rfl,fun j u h=>by simp at h⟩
   ·obtain ⟨news,h1,h2⟩:=hr.flat
    injection ha with ha
    subst ha
    exact ⟨news,h1,fun j u hj=>by rw [Addr.add_lit];exact h2 j u hj⟩
  obtain ⟨i3,hi3,hzz⟩:=Option.map_eq_some_iff.1 infoInta
  simp only [Prod.mk.injEq] at hzz
  obtain ⟨hz0,hz1,hz2⟩:=hzz
  have HF:=Hd hF
  have HC:=Hd hcell
  clear hF hcell h
  go_enter Tryz.func250,Tryz.ntmps250
  go_wp2_with (at_builtin;refine wpList_append_own_at _ rfl _ _ 53 rfl w.heap.size 3 i3 _ 1 8 Tryz.underlying53 hi3 hz0 hz1 hz2 rfl (by decide) _ _ _ rfl (World.ownsRow_made w #[] 0 (Nat.le_refl _) (Nat.zero_le _) (by simp)) a xs.length c news rfl HF.out.len (fun j u hj=>Lib.cell?_alloc_some _ (HC.out j u hj)) (HF.out.one qac.good) (by unfold maxLen;omega) (by omega) (by simp) ?_)
  intro v' w1 hown hgrow hnil hat
  go_wp2
  go_ret
  have he:Ext w (w.alloc (.cells #[] 3)):=(Ext.refl w).alloc _
  refine ⟨v',rfl,?_,(he.grown hgrow (by simp) (by intro k hk;simp [Value.ownBlock] at hk;omega))⟩
  have hp:=qab.push (xs:=[]) qac.good (T:=S) (v:=.slice (some ⟨w.heap.size,0,none⟩) 0 0) (w:=w.alloc (.cells #[] 3)) (news:=[]) (cs:=news) (ys:=xs) rfl
   (HF.out.imp fun x _ cs hx=>qac.good.bel (qac.good.mono hx fun b hb hb'=>⟨hb',by simp [Value.ownBlock];omega⟩) he) (by simpa using hown) hgrow (by rw [World.size_alloc];exact hat)
  exact hp
end
section
open Go.Shelf Go.Sort
def insI (x:Int):List Int->List Int
 | []=>[x]
 | y :: ys=>if x<=y then x :: y :: ys else y :: insI x ys
def qda:List Int->List Int
 | []=>[]
 | x :: xs=>insI x (qda xs)
theorem ql4 (x:Int):∀ l:List Int,(insI x l).Perm (x :: l)
 | []=>List.Perm.refl _
 | y :: ys=>by
  rw [insI]
  split
  ·exact List.Perm.refl _
  ·exact ((ql4 x ys).cons y).trans (List.Perm.swap x y ys)
theorem qif:∀ xs:List Int,(qda xs).Perm xs
 | []=>List.Perm.refl _
 | x :: xs=>(ql4 x (qda xs)).trans ((qif xs).cons x)
theorem qov (x:Int):∀ l:List Int,l.Pairwise (· <= ·)->(insI x l).Pairwise (· <= ·)
 | [],_=>List.pairwise_singleton _ _
 | y :: ys,h=>by
  rw [insI]
  have h':=List.pairwise_cons.1 h
  split
  ·rename_i hx
   exact List.pairwise_cons.2 ⟨fun z hz=>(List.mem_cons.1 hz).elim (fun e=>e ▸ hx) fun hz=>Int.le_trans hx (h'.1 z hz),h⟩
  ·rename_i hx
   refine List.pairwise_cons.2 ⟨fun z hz=>?_,qov x ys h'.2⟩
   rcases List.mem_cons.1 ((ql4 x ys).mem_iff.1 hz) with rfl | hz
   ·omega
   ·exact h'.1 z hz
theorem qjv:∀ xs:List Int,(qda xs).Pairwise (· <= ·)
 | []=>List.Pairwise.nil
 | x :: xs=>qov x _ (qjv xs)
theorem sortI_eq (xs:List Int):qda xs=xs.mergeSort fun x y=>decide (x<=y):=by
 have h:=List.pairwise_mergeSort (le:=fun x y:Int=>decide (x<=y)) (fun a b c h1 h2=>by simp at *;omega) (fun a b=>by simp;omega) xs
 exact List.Perm.eq_of_pairwise (le:=(· <= ·)) (fun a b _ _ h1 h2=>Int.le_antisymm h1 h2) (qjv xs) (h.imp fun {a b} h=>by simpa using h) ((qif xs).trans (List.mergeSort_perm _ _).symm)
theorem qlj (xs:List Int):(qda xs).length=xs.length:=(qif xs).length_eq
theorem qje (xs:List Int) (x:Int):x∈qda xs↔x∈xs:=(qif xs).mem_iff
theorem Flat.ints {S:Nat->Prop} {w:World}:∀ {xs:List Int} {cs:List Value},Flat qac 1 S w xs cs->cs=xs.map (Value.int .i64)∧∀ x∈xs,I64 x
 | [],cs,h=>⟨h,by simp⟩
 | x :: xs,cs,⟨c1,c2,h1,h2,h3,h4⟩=>by
  obtain ⟨rfl,hx⟩:=h3
  obtain ⟨rfl,hi⟩:=h4.ints
  exact ⟨h1,fun y hy=>(List.mem_cons.1 hy).elim (fun e=>e ▸ hx) (hi y)⟩
theorem Flat.of_ints {S:Nat->Prop} {w:World}:∀ {xs:List Int},(∀ x∈xs,I64 x)->Flat qac 1 S w xs (xs.map (Value.int .i64))
 | [],_=>rfl
 | x :: xs,h=>⟨[.int .i64 x],_,rfl,rfl,⟨rfl,h x (by simp)⟩,Flat.of_ints fun y hy=>h y (by simp [hy])⟩
theorem qms (base:Nat) (T:Nat->Prop) (xs:List Int) (v:Value) (w:World) (hx:qab qac 1 3 base T w xs v) (hsz:xs.length<4611686018427387904) :
  Calls Tryz.prog 59 #[v] w fun e w'=>e = .returned (.tuple #[])∧qab qac 1 3 base T w' (qda xs) v∧Bt (fun b=>v.ownBlock=some b) w w':=by
 obtain ⟨news,⟨h1,h2⟩,h3⟩:=hx
 obtain ⟨rfl,hi⟩:=h3.ints
 rcases h2 with ⟨rfl,h2⟩ | ⟨g,cap,cur,rfl,hb,hh,hc,hm,hs,ht⟩
 ·have:xs=[]:=List.length_eq_zero_iff.1 h2
  subst this
  refine (Any.slices_Sort_int_none Tryz.lays189 none 0 w).mono ?_
  rintro e w' ⟨rfl,rfl⟩
  exact ⟨rfl,(qab.nil ..),Bt.refl _ _⟩
 ·have ht':cur.toList.take xs.length=xs.map (Value.int .i64):=by rw [<- ht,Nat.mul_one]
  refine (Any.slices_Sort_int Tryz.lays189 g 0 cap xs w (holds_of_blockI hh ht') (Array.getElem?_eq_some_iff.1 hh).1 hsz).mono ?_
  rintro e w' ⟨rfl,n,os,rfl⟩
  rw [sortI_eq]
  refine ⟨rfl,⟨(xs.mergeSort fun x y=>decide (x<=y)).map (Value.int .i64),?_,Flat.of_ints fun x hx=>hi x (List.mem_mergeSort.1 hx)⟩,(Bt.of_grown (grownBy_sortedI _)).mono fun k _ hk=>by cases hk;rfl⟩
  have:=ownsRow_sortedI (n:=n) (os:=os) (ts:=xs.mergeSort fun x y=>decide (x<=y)) (List.length_mergeSort xs) hb hh hc hm hs
  rw [List.length_mergeSort]
  exact this
end
section
open Go.Shelf
mutual
def qe6:Tm->List UInt8
 | .mk _ n l=>UInt8.ofNat n.toNat :: UInt8.ofNat l.length :: qbj l
def qbj:List Tm->List UInt8
 | []=>[]
 | x :: xs=>qe6 x++qbj xs
end
def keyLb (x:Lb):List UInt8:=UInt8.ofNat (x.g+4).toNat :: UInt8.ofNat x.v.length :: qbj x.v
theorem keyTm_eq (t:Tm):qe6 t=UInt8.ofNat t.n.toNat :: UInt8.ofNat t.l.length :: qbj t.l:=by cases t;rw [qe6];rfl
mutual
theorem keyTm_len:∀ t:Tm,(qe6 t).length=2*t.size
 | .mk _ n l=>by rw [qe6,List.length_cons,List.length_cons,qmv l,Tm.size];omega
theorem qmv:∀ l:List Tm,(qbj l).length=2*Tm.sizes l
 | []=>by rw [qbj,Tm.sizes];rfl
 | x :: xs=>by rw [qbj,List.length_append,keyTm_len x,qmv xs,Tm.sizes];omega
end
theorem byte_of {n:Int} (h0:0<=n) (h1:n<256):((UInt8.ofNat n.toNat).toNat:Int)=n:=by
 rw [UInt8.toNat_ofNat']
 omega
theorem qlh {a b:Nat} (ha:a<256) (hb:b<256) (h:UInt8.ofNat a=UInt8.ofNat b):a=b:=by
 have:=congrArg UInt8.toNat h
 rw [UInt8.toNat_ofNat',UInt8.toNat_ofNat'] at this
 omega
mutual
theorem keyTm_inj:∀ (x y:Tm) (r s:List UInt8),qbc x=true->qbc y=true->qe6 x++r=qe6 y++s->x=y∧r=s
 | .mk k n l,.mk k' n' l',r,s,h,h',e=>by
  rw [qbc] at h h'
  simp only [Bool.and_eq_true,decide_eq_true_eq] at h h'
  rw [qe6,qe6] at e
  simp only [List.cons_append,List.cons.injEq] at e
  have e1:=qlh (by omega) (by omega) e.1
  have e2:=qlh (by omega) (by omega) e.2.1
  have e3:=ql5 l l' r s h.2 h'.2 e2 e.2.2
  have e4:n=n':=by omega
  have e5:k=k':=by omega
  rw [e3.1,e4,e5]
  exact ⟨rfl,e3.2⟩
theorem ql5:∀ (x y:List Tm) (r s:List UInt8),qdb x=true->qdb y=true->x.length=y.length->qbj x++r=qbj y++s->x=y∧r=s
 | [],[],r,s,_,_,_,e=>⟨rfl,by simpa [qbj] using e⟩
 | [],_ :: _,_,_,_,_,h,_=>by simp at h
 | _ :: _,[],_,_,_,_,h,_=>by simp at h
 | x :: xs,y :: ys,r,s,h,h',hl,e=>by
  rw [qdb,Bool.and_eq_true] at h h'
  rw [qbj,qbj,List.append_assoc,List.append_assoc] at e
  have e1:=keyTm_inj x y _ _ h.1 h'.1 e
  have e2:=ql5 xs ys r s h.2 h'.2 (by simpa using hl) e1.2
  rw [e1.1,e2.1]
  exact ⟨rfl,e2.2⟩
end
theorem qmj:∀ {l:List Tm},(∀ t∈l,qbc t=true)->qdb l=true
 | [],_=>rfl
 | x :: xs,h=>by rw [qdb,h x (by simp),qmj fun t ht=>h t (by simp [ht])];rfl
theorem qlf {t:Tm} (h:qbc t=true):0<=t.n∧t.n<256∧t.l.length<=8∧∀ x∈t.l,qbc x=true:=by
 rw [allV_eq] at h
 simp only [Bool.and_eq_true,decide_eq_true_eq,Bool.not_eq_true',List.any_eq_false] at h
 exact ⟨h.1.1.1.2,h.1.1.2,h.1.2,fun x hx=>by simpa using h.2 x hx⟩
theorem qli {x:Lb} (h:qax x=true) : -3<=x.g∧x.g<32∧x.v.length<=8∧∀ t∈x.v,qbc t=true:=by
 unfold qax at h
 simp only [Bool.not_eq_true',Bool.or_eq_false_iff,decide_eq_false_iff_not,List.any_eq_false] at h
 refine ⟨by omega,by omega,by omega,fun t ht=>?_⟩
 have:=h.2 t ht
 cases ha:qbc t with
 | true=>rfl
 | false=>exact absurd (by simp [isV,ha]) this
theorem keyLb_inj {x y:Lb} (h:qax x=true) (h':qax y=true) (e:keyLb x=keyLb y):x=y:=by
 have hx:=qli h
 have hy:=qli h'
 simp only [keyLb,List.cons.injEq] at e
 have e1:=qlh (by omega) (by omega) e.1
 have e2:=qlh (by omega) (by omega) e.2.1
 have e3:=(ql5 x.v y.v [] [] (qmj hx.2.2.2) (qmj hy.2.2.2) e2 (by simpa using e.2.2)).1
 obtain ⟨g,v⟩:=x
 obtain ⟨g',v'⟩:=y
 simp only at e1 e3
 rw [e3,show g=g' by simp only at hx hy;omega]
def qd0 (x:Lb):ByteArray:=⟨(keyLb x).toArray⟩
theorem keyS_inj {x y:Lb} (h:qax x=true) (h':qax y=true) (e:qd0 x=qd0 y):x=y:=by
 refine keyLb_inj h h' ?_
 have:=congrArg (fun b:ByteArray=>b.data.toList) e
 simpa [qd0] using this
instance:DecidableEq Lb:=fun a b=>decidable_of_iff (qan a b=0) (qbr.iff a b)
end
end Go.Proofs.YtegenalcheooeaaGreat
