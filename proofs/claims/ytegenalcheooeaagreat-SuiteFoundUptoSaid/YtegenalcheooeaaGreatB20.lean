/- Of the proof of a law of the suites: LSlice, LSlice2, LUsed1, LSortE, LCompE, LUsed2. -/
import Derived.Test.YtegenalcheooeaaGreatB06
import Derived.Test.YtegenalcheooeaaGreatB13
import Derived.Test.YtegenalcheooeaaGreatB15
import Derived.Test.YtegenalcheooeaaGreatB19
import Derived.Test.YtegenalcheooeaaGreatLaid
import Derived.Sort.WalkA
import Derived.Sort.LotA
import Derived.Lib.ReflectliteSwap
import Derived.Laws.Externs
import Derived.Lib.ReflectliteSlice
import Derived.Shelf.Lay
import Derived.Shelf.Small.Bits
import Derived.Ground.Names2Prog
import Derived.Shelf.SlSortCmp.WholeK
import Derived.Shelf.SlSortCmp.NoneTotal
import Derived.Lib.OwnBridge
import Derived.Laws.StructEq
set_option linter.unusedSectionVars false
set_option linter.unusedSimpArgs false
set_option linter.unusedVariables false
namespace Go.Proofs.YtegenalcheooeaaGreat
open Go.RowKit
attribute [local go_sem] cell?_exto
section
open Go.Shelf Go.Sort Go.Lib
abbrev qbn (base:Nat) (W:World) (d:Array Int) (g n c:Nat):Prop:=qab qac 1 3 base (fun _=>False) W d.toList (.slice (some ⟨g,0,none⟩) n c)
theorem qsj (d:Array Int) (i j:Nat) (hi:i<d.size) (hj:j<d.size):(swp d i j).toList=(d.toList.set i d[j]!).set j d[i]! := by
 simp [swp,Array.toList_setIfInBounds]
theorem qoe {p:Int->Prop} {d:Array Int} {i j:Nat} (h:∀ x∈d.toList,p x) (hi:i<d.size) (hj:j<d.size):∀ x∈(swp d i j).toList,p x:=fun x hx=>by
 rw [qsj d i j hi hj] at hx
 have mi:d[i]! ∈ d.toList:=by rw [getElem!_pos d i hi];exact Array.mem_toList_iff.2 (Array.getElem_mem hi)
 have mj:d[j]! ∈ d.toList:=by rw [getElem!_pos d j hj];exact Array.mem_toList_iff.2 (Array.getElem_mem hj)
 rcases List.mem_or_eq_of_mem_set hx with hx | rfl
 ·rcases List.mem_or_eq_of_mem_set hx with hx | rfl
  ·exact h x hx
  ·exact h _ mj
 ·exact h _ mi
def qd6 (lf:Nat) (lb:Array Value) (lt:Int->Int->Bool) (p:Int->Prop) (base g n c:Nat) (W0:World):Prop:=∀ (W:World) (dk:Array Int),Bt (fun q=>q=g) W0 W->qbn base W dk g n c->dk.size=n->(∀ x∈dk.toList,p x)->∀ i j:Nat,i<n->j<n ->
 Calls Tryz.prog lf (#[.int .i64 i,.int .i64 j]++lb) W fun e w'=>e = .returned (.bool (lt dk[i]! dk[j]!))∧Ext W w'
def qgl (sf:Nat) (sb:Array Value) (base g n c:Nat):Prop:=∀ (W:World) (dk:Array Int),qbn base W dk g n c->dk.size=n->∀ i j:Nat,i<n->j<n->2<=n ->
 (callFunc sf (#[.int .i64 i,.int .i64 j]++sb)).run Tryz.prog W = .ok (.value (.tuple #[])) ((W.setCell ⟨g,i,none⟩ (.int .i64 dk[j]!)).setCell ⟨g,j,none⟩ (.int .i64 dk[i]!))
theorem qd6.on {lf:Nat} {lb:Array Value} {lt:Int->Int->Bool} {p:Int->Prop} {base g n c:Nat} {W0 W1:World} (h:qd6 lf lb lt p base g n c W0) (hb:Bt (fun q=>q=g) W0 W1):qd6 lf lb lt p base g n c W1 :=
 fun W dk h1 h2 h3 h4=>h W dk (hb.trans h1) h2 h3 h4
theorem qbn.swap {base:Nat} {W:World} {dk:Array Int} {g n c:Nat} (h:qbn base W dk g n c) (hn:dk.size=n) {i j:Nat} (hi:i<n) (hj:j<n):qbn base ((W.setCell ⟨g,i,none⟩ (.int .i64 dk[j]!)).setCell ⟨g,j,none⟩ (.int .i64 dk[i]!)) (swp dk i j) g n c ∧
  Bt (fun q=>q=g) W ((W.setCell ⟨g,i,none⟩ (.int .i64 dk[j]!)).setCell ⟨g,j,none⟩ (.int .i64 dk[i]!)):=by
 have hI:=h.i64
 have mi:I64 dk[i]! := hI _ (by rw [getElem!_pos dk i (by omega)];exact Array.mem_toList_iff.2 (Array.getElem_mem _))
 have mj:I64 dk[j]! := hI _ (by rw [getElem!_pos dk j (by omega)];exact Array.mem_toList_iff.2 (Array.getElem_mem _))
 have h1:=qab.put1 qac.good h (by simpa using hn.symm) i (.int .i64 dk[j]!) dk[j]! (by simpa using (by omega:i<dk.size)) ⟨rfl,mj⟩
 have h2:=qab.put1 qac.good h1 (by simpa using hn.symm) j (.int .i64 dk[i]!) dk[i]! (by simpa using (by omega:j<dk.size)) ⟨rfl,mi⟩
 rw [<- qsj dk i j (by omega) (by omega)] at h2
 exact ⟨h2,Bt.set (Z:=fun q=>q=g) (p:=⟨g,j,none⟩) (Bt.set (Z:=fun q=>q=g) (p:=⟨g,i,none⟩) (Bt.refl _ _) (.inr rfl) _) (.inr rfl) _⟩
set_option maxHeartbeats 1000000 in
set_option maxRecDepth 100000 in
theorem qqe (lf:Nat) (lb:Array Value) (sf:Nat) (sb:Array Value) (lt:Int->Int->Bool) (p:Int->Prop) (base g n c a b:Nat) (d:Array Int) (w:World) (el:∀ args w,(callFunc lf args).run Tryz.prog w = .ok (.enter lf args) w)
  (hless:qd6 lf lb lt p base g n c w) (hswap:qgl sf sb base g n c) (hrow:qbn base w d g n c) (hd:d.size=n) (hp:∀ x∈d.toList,p x) (hn:n<=1000) (hab:a<=b) (hbn:b<=n) (hg:g<w.heap.size) :
  Calls Tryz.prog 298 #[.agg #[.func (.func lf) #[] lb,.func (.func sf) #[] sb],.int .i64 a,.int .i64 b] w fun e w'=>e = .returned (.tuple #[])∧(qbn base w' (insertionSort lt d a b) g n c∧(∀ x∈(insertionSort lt d a b).toList,p x)∧(insertionSort lt d a b).size=n)∧Bt (fun q=>q=g) w w':=by
 have HR:=Hd hrow
 have HP:=Hd hp
 clear hrow hp
 go_enter Tryz.func298,Tryz.ntmps298
 go_wp2_with fail
 obtain ⟨W1,hW1⟩:∃ W1,w.alloc (.cells #[.func (.func lf) #[] lb,.func (.func sf) #[] sb] 299)=W1:=⟨_,rfl⟩
 have hX1:Ext w W1:=by rw [<- hW1];exact (Ext.refl w).alloc _
 have b0:W1.cell? ⟨w.heap.size,0,none⟩=some (.func (.func lf) #[] lb):=by rw [<- hW1];simp
 have b1:W1.cell? ⟨w.heap.size,1,none⟩=some (.func (.func sf) #[] sb):=by rw [<- hW1];simp
 have HR1:=Hd (HR.out.ext qac.good hX1)
 have hl1:=hless.on hX1.bt
 rw [hW1]
 clear hW1 hless
 have hgw:¬ (w.heap.size=g):=by omega
 go_loopw [6] (fun vi wr=>∃ (i:Nat) (dk:Array Int),vi = .int .i64 i∧a+1<=i∧i<=b+1∧dk.size=n∧Hid (qbn base wr dk g n c)∧Hid (∀ x∈dk.toList,p x)∧Hid (Bt (fun q=>q=g) W1 wr)∧Hid (insOuter lt a b i dk=insOuter lt a b (a+1) d)) (fun vi _=>b+1-(intOf vi).toNat)
 case atStart=>exact ⟨a+1,d,by go_num,Nat.le_refl _,by omega,hd,HR1.out,HP.out,Bt.refl _ _,rfl⟩
 case round =>
  obtain ⟨i,dk,rfl,hi1,hin,hsk,hrk,hpk,hbk,hok⟩:=hrel
  by_cases hlt:i<b
  ·go_wp2_with fail
   go_loopw [7] (fun vj wr2=>∃ (j:Nat) (dj:Array Int),vj = .int .i64 j∧j<=i∧dj.size=n∧Hid (qbn base wr2 dj g n c)∧Hid (∀ x∈dj.toList,p x)∧Hid (Bt (fun q=>q=g) W1 wr2)∧Hid (insInner lt a j dj=insInner lt a i dk)) (fun vj _=>(intOf vj).toNat)
   case atStart=>exact ⟨i,dk,rfl,Nat.le_refl _,hsk,hrk,hpk,hbk,rfl⟩
   case round =>
    obtain ⟨j,dj,rfl,hji,hsj,hrj,hpj,hbj,hij⟩:=hrel
    have c0:=hbj.out.cell b0 hgw
    have c1:=hbj.out.cell b1 hgw
    have out:(j<=a∨lt dj[j]! dj[j-1]! = false)->insOuter lt a b (i+1) dj=insOuter lt a b (a+1) d:=fun hs=>by
     rw [<- hok.out,insOuter_go _ _ _ _ _ hlt,<- hij.out,insInner_stop _ _ _ _ hs]
    by_cases hja:a<j
    ·have hl:=hl1 wr dj hbj.out hrj.out hsj hpj.out j (j-1) (by omega) (by omega)
     rw [show (((j-1:Nat):Int))=(j:Int)-1 by omega] at hl
     cases hlv:lt dj[j]! dj[j-1]! with
     | true =>
      rw [hlv] at hl
      have HIJ:Hid (insInner lt a (j-1) (swp dj j (j-1))=insInner lt a i dk):=by show _=_;rw [<- hij.out];exact (insInner_go lt a j dj hja hlv).symm
      clear out hij
      have hs0:=fun w' (hx:Ext wr w')=>hswap w' dj (hrj.out.ext qac.good hx) hsj j (j-1) (by omega) (by omega) (by omega)
      rw [show (((j-1:Nat):Int))=(j:Int)-1 by omega] at hs0
      have HS0:=Hd hs0
      clear hs0
      go_wp2_with (go_at_fn lf;refine hl.mono ?_;rintro e w' ⟨rfl,hx⟩;have c1':=Ext.keep hx c1)
      rw [HS0.out w' hx,Oper.upon_value]
      have hro:=qbn.swap (hrj.out.ext qac.good hx) hsj (i:=j) (j:=j-1) (by omega) (by omega)
      have HRO:=Hd hro
      have HPO:=Hd (qoe hpj.out (i:=j) (j:=j-1) (by omega) (by omega))
      clear hro
      go_wp2_with fail
      go_roundw
      case rel=>exact ⟨j-1,swp dj j (j-1),by go_num,by omega,by rw [<- hsj];simp [swp],HRO.out.1,HPO.out,(hbj.out.ext hx).trans HRO.out.2,HIJ.out⟩
      case measure=>simp [intOf];omega
     | false =>
      rw [hlv] at hl
      have HO:=Hd (out (.inr hlv))
      clear out hij
      go_wp2_with (go_at_fn lf;refine hl.mono ?_;rintro e w' ⟨rfl,hx⟩)
      go_roundw
      case rel=>exact ⟨i+1,dj,by go_num,by omega,by omega,hsj,hrj.out.ext qac.good hx,hpj,hbj.out.ext hx,HO.out⟩
      case measure=>simp [intOf];omega
    ·have HO:=Hd (out (.inl (by omega)))
     clear out hij
     go_wp2_with fail
     go_roundw
     case rel=>exact ⟨i+1,dj,by go_num,by omega,by omega,hsj,hrj,hpj,hbj,HO.out⟩
     case measure=>simp [intOf];omega
  ·have HF:Hid (insertionSort lt d a b=dk):=by
    show _=_
    unfold Sort.insertionSort
    rw [<- hok.out,insOuter_stop _ _ _ _ _ hlt]
   clear hok
   go_wp2_with fail
   go_end0
   rw [HF.out]
   exact ⟨rfl,⟨hrk.out,hpk.out,hsk⟩,hX1.bt.trans hbk.out⟩
end
section
set_option maxHeartbeats 1000000
set_option maxRecDepth 100000
/- sort.Slice at whole numbers,by what its quick sort does;at no more than twelve: walked. -/
open Go.Shelf Go.Sort Go.Lib
theorem pdq_c (lf:Nat) (lb:Array Value) (sf:Nat) (sb:Array Value) (lt:Int->Int->Bool) (p:Int->Prop) (base g n c a b:Nat) (lim:Int) (d:Array Int) (w:World) (el:∀ args w,(callFunc lf args).run Tryz.prog w = .ok (.enter lf args) w)
  (hless:qd6 lf lb lt p base g n c w) (hswap:qgl sf sb base g n c) (hrow:qbn base w d g n c) (hd:d.size=n) (hp:∀ x∈d.toList,p x) (hn:n<=1000) (hab:a<=b) (hbn:b<=n) (hl12:b<=a+12) (hg:g<w.heap.size) :
  Calls Tryz.prog 277 #[.agg #[.func (.func lf) #[] lb,.func (.func sf) #[] sb],.int .i64 a,.int .i64 b,.int .i64 lim] w fun e w'=>e = .returned (.tuple #[])∧(qbn base w' (insertionSort lt d a b) g n c∧(∀ x∈(insertionSort lt d a b).toList,p x)∧(insertionSort lt d a b).size=n)∧Bt (fun q=>q=g) w w':=by
 have hX:Ext w (w.alloc (.cells #[.func (.func lf) #[] lb,.func (.func sf) #[] sb] 299)):=(Ext.refl w).alloc _
 have hins:=qqe lf lb sf sb lt p base g n c a b d _ el (hless.on hX.bt) hswap (hrow.ext qac.good hX) hd hp hn hab hbn (Nat.lt_of_lt_of_le hg hX.size)
 have y1:((b:Int)-(a:Int)<=12):=by omega
 have HX:=Hd hX
 clear hless hswap hrow hp hX
 go_enter Tryz.func277,Tryz.ntmps277
 go_wp2_with fail
 refine wp_loop_rounds 1 ?_
 rw [rounds_succ]
 go_wp2_with fail
 refine hins.mono ?_
 rintro e w' ⟨rfl,h1,h2⟩
 have H1:=Hd h1
 have H2:=Hd h2
 clear h1 h2 hins
 go_wp2_with fail
 exact bodyPost_ret (results_none rfl _ _ _) rfl ⟨rfl,H1.out,HX.out.bt.trans H2.out⟩
theorem info53:∃ i,Tryz.prog.info? 53=some i∧i.desc = .slice 3:=by
 have h:(Tryz.prog.info? 53).map (fun i=>i.desc)=some (.slice 3):=by kernel_rfl
 obtain ⟨i,h1,h2⟩:=Option.map_eq_some_iff.1 h
 exact ⟨i,h1,h2⟩
theorem info3s:∃ i,Tryz.prog.info? 3=some i∧i.desc = .int .i64∧i.str = "int" ∧ i.size=1∧∀ n,2<=n->swapperK n i 2=5:=by
 have h:(Tryz.prog.info? 3).map (fun i=>(i.desc,i.str,i.size,i.hasPointers,i.bytes))=some (.int .i64,"int",1,false,8):=by kernel_rfl
 obtain ⟨i,h1,h2⟩:=Option.map_eq_some_iff.1 h
 simp only [Prod.mk.injEq] at h2
 refine ⟨i,h1,h2.1,h2.2.1,h2.2.2.1,fun n hn=>?_⟩
 have h0:(n == 0)=false:=by simp;omega
 have h1:(n == 1)=false:=by simp;omega
 simp [swapperK,h0,h1,h2.2.2.2.1,h2.2.2.2.2]
def qjr (base g n c:Nat) (p:Int->Prop) (d':Array Int) (w:World) (e:Ending) (w':World):Prop:=e = .returned (.tuple #[])∧(qbn base w' d' g n c∧(∀ x∈d'.toList,p x)∧d'.size=n)∧Bt (fun q=>q=g) w w'
theorem qp9 (lf:Nat) (lb:Array Value) (p:Int->Prop) (base g n c:Nat) (d d':Array Int) (w:World)
  (hq:∀ (f:Nat) (B:Array Value),qgl f B base g n c->∀ W,Ext w W->Calls Tryz.prog 277 #[.agg #[.func (.func lf) #[] lb,.func (.func f) #[] B],.int .i64 0,.int .i64 n,.int .i64 (Lib.bitLen n)] W (qjr base g n c p d' W))
  (hrow:qbn base w d g n c) (hd:d.size=n) (hn:n<=16) (hg:g<w.heap.size) :
  Calls Tryz.prog 246 #[.iface 53 (.slice (some ⟨g,0,none⟩) n c),.func (.func lf) #[] lb] w (qjr base g n c p d' w):=by
 obtain ⟨i,hi,hdesc⟩:=info53
 obtain ⟨ie,hie,hde,hstr,hsz,hsk⟩:=info3s
 have hke:∀ w,(Extern.Rtype.kind 3).run Tryz.prog w = .ok 2 w:=fun w=>by
  simp [Extern.Rtype.kind,Extern.Rtype.under,rl_info 3 ie hie,hde,hstr,Result.andThen]
 have hagg:∀ w,(isAgg 3).run Tryz.prog w = .ok false w:=fun w=>by
  simp [isAgg,underlying,Tryz.underlying3,Result.andThen]
 have hfk:∃ f,Tryz.prog.funcs.findIdx? (·.name == "internal/reflectlite" ++ ".Swapper$" ++ toString (swapperK n ie 2))=some f∧qgl f (if swapperK n ie 2<=2 then #[] else #[.slice (some ⟨g,0,none⟩) n c,typeHandle Tryz.prog 3]) base g n c:=by
  by_cases h2:2<=n
  ·rw [hsk n h2]
   refine ⟨293,by kernel_rfl,?_⟩
   intro W dk hr hk i' j' hi' hj' _
   obtain ⟨u,hu,⟨e1,_⟩,fu⟩:=hr.get1 i' (by simpa using (by omega:i'<dk.size))
   obtain ⟨u',hu',⟨e2,_⟩,fu'⟩:=hr.get1 j' (by simpa using (by omega:j'<dk.size))
   injection e1 with e1
   injection e2 with e2
   subst e1 e2
   rw [run_callFunc_extern Tryz.func293 (by kernel_rfl) (by kernel_rfl) (by kernel_rfl) (e:=Extern.ReflectliteSwapper.swap true) (by kernel_rfl)]
   have hsw:=run_swap_one (P:=Tryz.prog) true 3 ie hie hsz hagg g 0 n c i' j' hi' hj' _ _ rfl rfl W (by rw [Nat.zero_add];exact hu) (by rw [Nat.zero_add];exact hu') (by rw [Nat.zero_add];exact fu) (by rw [Nat.zero_add];exact fu')
   have hi2:dk.toList[i']'(by simpa using (by omega:i'<dk.size))=dk[i']! := by rw [getElem!_pos dk i' (by omega)];simp
   have hj2:dk.toList[j']'(by simpa using (by omega:j'<dk.size))=dk[j']! := by rw [getElem!_pos dk j' (by omega)];simp
   rw [hi2,hj2,Nat.zero_add,Nat.zero_add] at hsw
   simp only [show ¬ (5<=2) by omega,if_false]
   show Result.andThen (Sem.run Tryz.prog (Extern.ReflectliteSwapper.swap true #[.int .i64 i',.int .i64 j',.slice (some ⟨g,0,none⟩) n c,typeHandle Tryz.prog 3]) W) _=_
   rw [hsw]
   rfl
  ·have:n=0∨n=1:=by omega
   rcases this with rfl | rfl
   ·exact ⟨289,by kernel_rfl,fun W dk _ _ i j hi=>absurd hi (by omega)⟩
   ·exact ⟨290,by kernel_rfl,fun W dk _ _ i j hi hj hij=>absurd hij (by omega)⟩
 obtain ⟨f,hf,hsw⟩:=hfk
 have hv:=run_valueOf_slice (P:=Tryz.prog) 53 3 i hi hdesc (some ⟨g,0,none⟩) n c w
 have hs:=fun w=>run_swapper_slice (P:=Tryz.prog) 53 3 i ie hi hdesc hie 2 hke (some ⟨g,0,none⟩) n c f hf w
 have hl:=fun a w ha=>run_valueLen_slice (P:=Tryz.prog) 53 3 i hi hdesc (by kernel_rfl) a (some ⟨g,0,none⟩) n c w ha
 have hb:=fun w=>Any.bits_Len Tryz.laysBits (n:Int) w (by omega) (by omega)
 change ∀ w,Calls Tryz.prog 118 _ w _ at hb
 obtain ⟨B,hB⟩:∃ B:Array Value,(if swapperK n ie 2<=2 then #[] else #[.slice (some ⟨g,0,none⟩) n c,typeHandle Tryz.prog 3])=B:=⟨_,rfl⟩
 rw [hB] at hsw hs
 clear hB
 have hgl:Tryz.prog.globals.size=0:=by kernel_rfl
 simp only [typeHandle,hgl] at hv hl
 have wr:IntKind.u64.wrap (n:Int)=n:=by simp [IntKind.wrap,IntKind.bits,IntKind.signed];omega
 have hX:Ext w ((w.alloc (.cells #[.slice (some ⟨g,0,none⟩) n c] 53)).alloc (.cells #[.pointer (some ⟨0,53,none⟩),.pointer (some ⟨w.heap.size,0,none⟩),.int .u64 151] 292)):=((Ext.refl w).alloc _).alloc _
 have hpd:=hq f B hsw _ hX
 have HX:=Hd hX
 clear hq hrow hX
 go_enter Tryz.func246,Tryz.ntmps246
 go_wp2_with fail
 rw [run_callFunc_extern Tryz.func274 (by kernel_rfl) (by kernel_rfl) (by kernel_rfl) (e:=fun args=>Extern.ReflectliteValue.unpack (args.getD 0 (.tuple #[]))) (by kernel_rfl),
  show Sem.run Tryz.prog ((fun args:Array Value=>Extern.ReflectliteValue.unpack (args.getD 0 (.tuple #[]))) #[.iface 53 (.slice (some ⟨g,0,none⟩) n c)]) w=_ from hv]
 simp only [Result.andThen]
 rw [Oper.upon_value]
 go_wp2_with fail
 rw [run_callFunc_extern Tryz.func275 (by kernel_rfl) (by kernel_rfl) (by kernel_rfl) (e:=Extern.ReflectliteSwapper.swapper "internal/reflectlite" (Extern.ReflectliteValue.valueError "Swapper")) (by kernel_rfl),hs]
 simp only [Result.andThen]
 rw [Oper.upon_value]
 go_wp2_with fail
 rw [run_callFunc_extern Tryz.func276 (by kernel_rfl) (by kernel_rfl) (by kernel_rfl) (e:=Extern.ReflectliteValue.method (Extern.ReflectliteValue.valueError "reflectlite.Value.Len" 0) Extern.ReflectliteValue.len) (by kernel_rfl),
  hl _ _ (by simp)]
 simp only [Result.andThen]
 rw [Oper.upon_value]
 go_wp2_with fail
 refine (hb _).mono ?_
 rintro e w' ⟨rfl,rfl⟩
 go_wp2_with fail
 refine hpd.mono ?_
 rintro e w' ⟨rfl,h1,h2⟩
 have H1:=Hd h1
 have H2:=Hd h2
 clear h1 h2 hpd
 go_wp2_with fail
 go_end0
 exact ⟨rfl,H1.out,HX.out.bt.trans H2.out⟩
theorem slice_c (lf:Nat) (lb:Array Value) (lt:Int->Int->Bool) (p:Int->Prop) (base g n c:Nat) (d:Array Int) (w:World) (el:∀ args w,(callFunc lf args).run Tryz.prog w = .ok (.enter lf args) w)
  (hless:qd6 lf lb lt p base g n c w) (hrow:qbn base w d g n c) (hd:d.size=n) (hp:∀ x∈d.toList,p x) (hn:n<=12) (hg:g<w.heap.size) :
  Calls Tryz.prog 246 #[.iface 53 (.slice (some ⟨g,0,none⟩) n c),.func (.func lf) #[] lb] w (qjr base g n c p (insertionSort lt d 0 n) w) :=
 qp9 lf lb p base g n c d _ w (fun f B hsw W hX=>pdq_c lf lb f B lt p base g n c 0 n (Lib.bitLen n) d W el (hless.on hX.bt) hsw (hrow.ext qac.good hX) hd hp (by omega) (Nat.zero_le _) (Nat.le_refl _) (by omega) (Nat.lt_of_lt_of_le hg hX.size)) hrow hd (by omega) hg
end
section
open Go.Shelf
def qa4 (ls:List Lb) (x:Int):Lb:=(ls[x.toNat]?).getD ⟨0,[]⟩
theorem qea (ls:List Lb) (i:Nat) (h:i<ls.length):qa4 ls (i:Int)=ls[i]:=by simp [qa4,h]
def ltIx (ls:List Lb) (x y:Int):Bool:=decide (qan (qa4 ls x) (qa4 ls y)<0)
set_option maxHeartbeats 1000000 in
set_option maxRecDepth 100000 in
theorem lessIx_c (S:Nat->Prop) (ls:List Lb) (A:Option Addr) (cl Bp Bo B g n c i j ix jx:Nat) (W:World) (hi:i<n) (hj:j<n) (hix:ix<ls.length) (hjx:jx<ls.length) (hn:n<=1000000)
  (c0:W.cell? ⟨Bp,0,none⟩=some (.pointer (some ⟨B,0,none⟩))) (c1:W.cell? ⟨Bo,0,none⟩=some (.slice (some ⟨g,0,none⟩) n c)) (c2:W.cell? ⟨B,1,none⟩=some (.slice A ls.length cl))
  (ci:W.cell? ⟨g,i,none⟩=some (.int .i64 ix)) (cj:W.cell? ⟨g,j,none⟩=some (.int .i64 jx)) (hls:qaa S W ls [.slice A ls.length cl]) :
  Calls Tryz.prog 247 #[.int .i64 i,.int .i64 j,.pointer (some ⟨Bp,0,none⟩),.pointer (some ⟨Bo,0,none⟩)] W fun e w'=>e = .returned (.bool (decide (qan ls[ix] ls[jx]<0)))∧Ext W w':=by
 obtain ⟨A',c',e,hlc,hc0⟩:=hls.val
 injection e with e1 e2 e3
 obtain ⟨b,off,cs,rfl,hb,hS,hl,hr,hcell⟩:=hls.get ix hix
 obtain ⟨_,v1,rfl,hv1⟩:=id hr
 obtain ⟨b',off',cs',he,hb',hS',hl',hr',hcell'⟩:=hls.get jx hjx
 injection he with he
 injection he with he1 he2
 subst he1 he2
 obtain ⟨_,v2,rfl,hv2⟩:=id hr'
 have g0:=hcell.get 0 _
 have g1:=hcell.get 1 _
 have g0':=hcell'.get 0 _
 have g1':=hcell'.get 1 _
 simp only [Nat.add_zero] at g0 g0'
 have hcmp:=fun W' (hW:Ext W W')=>qnn S _ _ _ _ W' (RLb.good.bel hr hW) (RLb.good.bel hr' hW)
 have hL:(ls.length:Int)<=9223372036854775807:=by omega
 obtain ⟨x,hx⟩:∃ x,ls[ix]=x:=⟨_,rfl⟩
 obtain ⟨y,hy⟩:∃ y,ls[jx]=y:=⟨_,rfl⟩
 rw [hx,hy] at hcmp ⊢
 rw [hx] at g0
 rw [hy] at g0'
 clear hcell hcell' hl hl' hr hr' hv1 hv2 hS hS' hls hx hy e1 e2 e3
 go_enter Tryz.func247,Tryz.ntmps247
 go_wp2_with fail
 (refine qa1 ?_;(repeat (first | go_big_quiet_step ((go_at_call 57;exact qap (hcmp _ (qa5 _ _)))) | quiet_step ((go_at_call 57;exact qap (hcmp _ (qa5 _ _))))));refine wpQuiet_nil ?_)
 intro w1 hx1
 go_wp2_with fail
 go_ret
 exact ⟨rfl,bel⟩
end
section
open Go.Shelf Go.Sort Go.Lib
theorem qjt (x y:Ed):qbd x y<0↔x.f<y.f∨(x.f=y.f∧(x.l<y.l∨(x.l=y.l∧x.t<y.t))):=by
 unfold qbd
 simp only [orI]
 unfold qah
 repeat' split
 all_goals omega
theorem qp5 (x y:Ed):qbd x y=0↔x.f=y.f∧x.l=y.l∧x.t=y.t:=by
 unfold qbd
 simp only [orI]
 unfold qah
 repeat' split
 all_goals omega
theorem qis:qde qbd:={
 sgn x y:=by
  have h1:=qjt x y
  have h2:=qjt y x
  have h3:=qp5 y x
  omega
 eq x y h:=by
  have:=(qp5 x y).1 h
  obtain ⟨f,l,t⟩:=x
  obtain ⟨f',l',t'⟩:=y
  simp only at this
  rw [this.1,this.2.1,this.2.2]
 trans x y z h1 h2:=by
  rw [qjt] at *
  omega }
abbrev EI:={ e:Ed // I64 e.f∧I64 e.l∧I64 e.t }
instance (n:Int):Decidable (I64 n):=by unfold I64;infer_instance
instance:Inhabited EI:=⟨⟨⟨0,0,0⟩,by decide,by decide,by decide⟩⟩
def qco (x:EI):List Value:=[.int .i64 x.1.f,.int .i64 x.1.l,.int .i64 x.1.t]
theorem eg98:∀ args w,(callFunc 98 args).run Tryz.prog w = .ok (.enter 98 args) w:=enters_of Tryz.func98 (by kernel_rfl) rfl
theorem aE88:∀ w,(isAgg 88).run Tryz.prog w = .ok true w:=fun w=>by simp [isAgg,underlying,Tryz.underlying88,Result.andThen]
theorem zE88:∀ w,(Go.sizeOf 88).run Tryz.prog w = .ok 3 w:=fun w=>by
 obtain ⟨i,hi,hz⟩:=Option.map_eq_some_iff.1 qno
 simp only [Prod.mk.injEq] at hz
 simp [sizeOf,rl_info 88 i hi,hz.2.1,Result.andThen]
theorem toEI:∀ {l:List Ed},(∀ x∈l,I64 x.f∧I64 x.l∧I64 x.t)->∃ ds:List EI,ds.map (·.1)=l
 | [],_=>⟨[],rfl⟩
 | x :: l,h=>by
  obtain ⟨ds,e⟩:=toEI (l:=l) fun y hy=>h y (List.mem_cons_of_mem _ hy)
  exact ⟨⟨x,h x (List.mem_cons_self ..)⟩ :: ds,by rw [List.map_cons,e]⟩
theorem qou (x:EI):(qco x).length=3:=rfl
theorem qrb:∀ (d:List EI) (t:Nat),t<d.length*3->(d.flatMap qco)[t]? = some ((qco d[t / 3]!)[t % 3]!)
 | [],t,h=>by simp at h
 | x :: d,t,h=>by
  rw [List.flatMap_cons,List.getElem?_append,qou]
  by_cases h3:t<3
  ·rw [if_pos h3]
   have:t / 3=0:=by omega
   rw [this]
   have hm:t % 3=t:=by omega
   rw [hm]
   have:t=0∨t=1∨t=2:=by omega
   rcases this with rfl | rfl | rfl <;> rfl
  ·rw [if_neg h3,qrb d (t-3) (by rw [List.length_cons] at h;omega)]
   have e1:t / 3=(t-3) / 3+1:=by omega
   have e2:t % 3=(t-3) % 3:=by omega
   rw [e1,e2]
   rfl
theorem qsi (d:List EI):(d.flatMap qco).length=d.length*3:=by
 induction d with
 | nil=>rfl
 | cons x d ih=>rw [List.flatMap_cons,List.length_append,ih,qou,List.length_cons];omega
theorem qu7 (d:Array EI):(flatK qco 3 d).toList=d.toList.flatMap qco:=by
 apply List.ext_getElem
 ·rw [qsi];simp
 ·intro t h1 h2
  have ht:t<d.size*3:=by simpa using h1
  have e1:=get_flatK qco 3 d t ht
  rw [getElem!_pos _ t (by simpa using ht)] at e1
  have e2:=qrb d.toList t (by simpa using ht)
  rw [List.getElem?_eq_getElem h2] at e2
  injection e2 with e2
  rw [e2,Array.getElem_toList,e1]
  have h3:t / 3<d.size:=by omega
  rw [getElem!_pos d (t / 3) h3,getElem!_pos d.toList (t / 3) (by simpa using h3),Array.getElem_toList]
theorem flatE (S:Nat->Prop) (w:World):∀ d:List EI,Flat REd 3 S w (d.map (·.1)) (d.flatMap qco)
 | []=>rfl
 | x :: d=>⟨qco x,d.flatMap qco,rfl,rfl,⟨x.2.1,x.2.2.1,x.2.2.2,rfl⟩,flatE S w d⟩
theorem REd.i64 {S:Nat->Prop} {w:World}:∀ {l:List Ed} {cs:List Value},Flat REd 3 S w l cs->∀ x∈l,I64 x.f∧I64 x.l∧I64 x.t
 | [],_,_=>by simp
 | x :: l,cs,⟨c1,c2,h1,h2,h3,h4⟩=>fun y hy=>by
  rcases List.mem_cons.1 hy with rfl | hy
  ·exact ⟨h3.1,h3.2.1,h3.2.2.1⟩
  ·exact REd.i64 h4 y hy
set_option maxHeartbeats 1000000 in
set_option maxRecDepth 100000 in
theorem sortE_own (base:Nat) (T:Nat->Prop) (l:List Ed) (v:Value) (w:World) (hown:qab REd 3 88 base T w l v) (hlen:l.length<4611686018427387904) :
  Calls Tryz.prog 248 #[v,.func (.func 98) #[] #[]] w fun e w'=>e = .returned (.tuple #[])∧qab REd 3 88 base T w' (qcu qbd l) v∧Bt (fun b=>v.ownBlock=some b) w w':=by
 have hsl:=hown.sl REd.good (by decide)
 obtain ⟨news,hrow,hF⟩:=hown
 rcases hrow.2 with ⟨rfl,h⟩ | ⟨g,cap,cur,rfl,hb,hg,hn,hm,hs,ht⟩
 ·have hl0:l=[]:=List.length_eq_zero_iff.1 h
  subst hl0
  refine (AnyF.slices_SortFunc_none Tryz.lays248 none 0 _ w).mono ?_
  rintro e w' ⟨rfl,rfl⟩
  exact ⟨rfl,qab.nil ..,Bt.refl _ _⟩
 obtain ⟨ds,rfl⟩:=toEI (REd.i64 hF)
 have hgl:g<w.heap.size:=(Array.getElem?_eq_some_iff.1 hg).1
 have hn':(ds.map (·.1)).length=ds.length:=List.length_map ..
 have hH:HoldsK qco 3 w g 0 ds.toArray:=by
  intro j hj
  have hj':j<ds.length*3:=by simpa using hj
  refine ⟨?_,by simp [World.frozen?,hg]⟩
  have e1:=get_flatK qco 3 ds.toArray j (by simpa using hj')
  rw [id,e1]
  obtain ⟨i,r,hr3,rfl⟩:∃ i r,r<3∧j=i*3+r:=⟨j / 3,j % 3,by omega,by omega⟩
  rw [show (i*3+r) / 3=i by omega,show (i*3+r) % 3=r by omega]
  have hid:i<ds.length:=by omega
  have hi:i<(ds.map (·.1)).length:=by rw [hn'];omega
  obtain ⟨b,off,cs,he,_,_,_,hr,hcell⟩:=hsl.get i hi
  injection he with he
  injection he with he1 he2
  subst he1 he2
  obtain ⟨_,_,_,rfl⟩:=hr
  have hx:(ds.map (·.1))[i]=(ds.toArray[i]!).1:=by
   rw [getElem!_pos ds.toArray i (by simpa using hid)]
   simp
  rw [hx] at hcell
  have:r=0∨r=1∨r=2:=by omega
  rcases this with rfl | rfl | rfl
  ·have:=hcell 0 (.int .i64 (ds.toArray[i]!).1.f) rfl
   rw [Nat.zero_add] at this ⊢
   exact this
  ·have:=hcell 1 (.int .i64 (ds.toArray[i]!).1.l) rfl
   rw [Nat.zero_add] at this ⊢
   exact this
  ·have:=hcell 2 (.int .i64 (ds.toArray[i]!).1.t) rfl
   rw [Nat.zero_add] at this ⊢
   exact this
 have hsz:ds.toArray.size=ds.length:=by simp
 have hcmp:CmpLays Tryz.prog 98 #[] qco 3 (fun x y:EI=>qbd x.1 y.1) g 0 ds.toArray.size w:=fun m os dk _ x y=>by
  refine (qqi (fun _=>True) x.1 y.1 (qco x) (qco y) _ ⟨x.2.1,x.2.2.1,x.2.2.2,rfl⟩ ⟨y.2.1,y.2.2.1,y.2.2.2,rfl⟩).mono ?_
  rintro e w' ⟨rfl,h⟩
  exact ⟨rfl,qoz h⟩
 have h:=AnyQ.slices_SortFunc Tryz.lays248 3 aE88 zE88 qco (fun _=>rfl) (fun x v hv=>by simp [qco] at hv;rcases hv with rfl | rfl | rfl <;> rfl) (fun x y:EI=>qbd x.1 y.1) (swo_of qis _) 98 #[] g 0 cap ds.toArray w eg98 hcmp hH hgl (by rw [hsz,<- hn'];exact hlen)
 rw [hsz] at h
 rw [hn']
 refine h.mono ?_
 rintro e w' ⟨rfl,d',n,os,hp,hs',rfl⟩
 have hd:d'.size=ds.length:=by rw [hp.1,hsz]
 have hperm:(d'.toList.map (·.1)).Perm (ds.map (·.1)):=by
  have h3:=hp.2.2
  rw [<- hd,Array.extract_size] at h3
  have h4:(ds.toArray.extract 0 d'.size).toList=ds:=by rw [hd,<- hsz,Array.extract_size]
  rw [h4] at h3
  exact h3.map _
 have hsrt:Srt qbd (d'.toList.map (·.1)):=by
  rw [Srt,List.pairwise_map,List.pairwise_iff_getElem]
  intro i j hi hj hij
  have h5:=hs' i j (Nat.zero_le _) hij (by rw [<- hd];simpa using hj)
  simp only [ltOf,decide_eq_false_iff_not,Int.not_lt] at h5
  rw [getElem!_pos d' i (by simpa using hi),getElem!_pos d' j (by simpa using hj)] at h5
  have h6:=qis.sgn d'[i].1 d'[j].1
  have h7:=qis.sgn d'[j].1 d'[i].1
  simp only [Array.getElem_toList]
  omega
 have heq:qcu qbd (ds.map (·.1))=d'.toList.map (·.1):=(qrn qis hperm hsrt).symm
 rw [heq]
 have hput:w.grownBy (sortWorldK qco 3 w g 0 n d' os) (some g):=by
  have:=qkg (α:=Value) id w g n (flatK qco 3 d') os
  exact this
 have hFs:(flatK qco 3 d').size=ds.length*3:=by rw [size_flatK,hd]
 have hle:ds.length*3<=cur.size:=by rw [hs,<- hn'];exact Nat.mul_le_mul_right 3 hn
 have hrow1:(putRow id (Sort.ahead w n) g 0 (flatK qco 3 d')).ownsRow base 88 3 (.slice (some ⟨g,0,none⟩) ds.length cap) ds.length (d'.toList.flatMap qco):=by
  refine ⟨by rw [qsi];simp [hd],.inr ⟨g,cap,putCells id 0 (flatK qco 3 d') cur,rfl,hb,?_,by rw [<- hn'];exact hn,hm,by simpa [putCells] using hs,?_⟩⟩
  ·simp [putRow,mapBlock,Sort.ahead,Array.getElem?_modify,hg,onCells]
  ·rw [<- qu7]
   apply List.ext_getElem?
   intro j
   rw [List.getElem?_take,Array.getElem?_toList,Array.getElem?_toList]
   by_cases hj:j<ds.length*3
   ·have hjc:j<cur.size:=by omega
    rw [if_pos hj]
    simp only [putCells,Array.getElem?_mapIdx,Array.getElem?_eq_getElem hjc,Option.map_some]
    rw [if_pos (by omega),Array.getElem?_eq_getElem (by omega)]
    rw [getElem!_pos _ _ (by show j-0<_;omega)]
    rfl
   ·rw [if_neg hj,Array.getElem?_eq_none (by omega)]
 refine ⟨rfl,⟨d'.toList.flatMap qco,?_,flatE _ _ _⟩,(Bt.of_grown hput).mono fun k _ hk=>by injection hk with hk;rw [hk];rfl⟩
 rw [List.length_map,show d'.toList.length=ds.length from by simpa using hd]
 exact hrow1.kept (qrl _ os) (.inr (by simp [Value.ownBlock]))
end
section
open Go.Shelf
theorem qt5 (W:World) (x y:Ed) (h:x≠y):(binOp .eql 88 (.agg #[.int .i64 x.f,.int .i64 x.l,.int .i64 x.t]) (.agg #[.int .i64 y.f,.int .i64 y.l,.int .i64 y.t])).run Tryz.prog W = .ok (.bool false) W:=by
 have hS:Tryz.prog.underlying 88=some (.struct (Tryz.prog.fieldsOf 88)):=by kernel_rfl
 have hp:Tryz.prog.stoodInHeld 88=false:=by kernel_rfl
 have u3:=Tryz.underlying3
 rw [run_eql_struct,show (10000:Nat)=9999+1 from rfl,run_equalIn_agg W 9999 88 _ _ hS hp]
 simp only [Program.fieldsOf,Tryz.underlying88]
 go_simp
 have hne:¬ (x.f=y.f∧x.l=y.l∧x.t=y.t):=fun e=>h (by
  obtain ⟨f,l,t⟩:=x
  obtain ⟨f',l',t'⟩:=y
  simp only at e
  rw [e.1,e.2.1,e.2.2])
 by_cases h1:x.f=y.f <;> by_cases h2:x.l=y.l <;> by_cases h3:x.t=y.t <;> simp_all
def qg3 (l:List Ed):Prop:=∀ k,(h:k+1<l.length)->l[k+1]≠l[k]
set_option maxHeartbeats 1000000 in
set_option maxRecDepth 100000 in
theorem qt3 (S:Nat->Prop) (l:List Ed) (v:Value) (w:World) (hx:qb5 S w l [v]) (hd:qg3 l) :
  Calls Tryz.prog 249 #[v] w fun e w'=>e = .returned v∧Ext w w':=by
 obtain ⟨A,c,rfl,hc,hc0⟩:=hx.val
 have HX:=Hd hx
 have HD:Hid (∀ k,(h:k<l.length)->1<=k->l[k]≠l[k-1]):=fun k h h1=>by
  obtain ⟨j,rfl⟩:∃ j,k=j+1:=⟨k-1,by omega⟩
  exact hd j h
 clear hx hd
 by_cases h2:l.length<2
 ·go_enter Tryz.func249,Tryz.ntmps249
  go_wp2_with fail
  go_ret
  exact ⟨rfl,Ext.refl _⟩
 go_enter Tryz.func249,Tryz.ntmps249
 go_wp2_with fail
 go_loopw [3] (fun i wr=>∃ k:Nat,1<=k∧k<=l.length∧i = .int .i64 k∧Ext w wr) (fun i _=>l.length-(intOf i).toNat)
 case atStart=>exact ⟨1,Nat.le_refl _,by omega,rfl,Ext.refl _⟩
 case round =>
  obtain ⟨k,hk1,hk,rfl,hE⟩:=hrel
  by_cases hlt:k<l.length
  ·have hX:=qb5.good.bel HX.out hE
   obtain ⟨b,off,cs,rfl,hb,hSb,hl,hr,hcell⟩:=hX.get k hlt
   obtain ⟨b',off',cs',he,hb',hSb',hl',hr',hcell'⟩:=hX.get (k-1) (by omega)
   injection he with he
   injection he with he1 he2
   subst he1 he2
   obtain ⟨_,_,_,rfl⟩:=hr
   obtain ⟨_,_,_,rfl⟩:=hr'
   have a0:=hcell.get 0 _
   have a1:=hcell.get 1 _
   have a2:=hcell.get 2 _
   have b0:=hcell'.get 0 _
   have b1:=hcell'.get 1 _
   have b2:=hcell'.get 2 _
   simp only [Nat.add_zero] at a0 b0
   have hq:=fun W=>qt5 W l[k] l[k-1] (HD.out k hlt hk1)
   have hk0:(0:Int)<=(k:Int)-1:=by omega
   have hk2:((k:Int)-1).toNat=k-1:=by omega
   have hk3:(k:Int)-1<(l.length:Int):=by omega
   obtain ⟨x,hxx⟩:∃ x,l[k]=x:=⟨_,rfl⟩
   obtain ⟨y,hyy⟩:∃ y,l[k-1]=y:=⟨_,rfl⟩
   rw [hxx] at a0 a1 a2
   rw [hyy] at b0 b1 b2
   rw [hxx,hyy] at hq
   clear hcell hcell' hX hSb hSb' hl hl' hxx hyy
   go_wp2_with fail
   (refine qa1 ?_;(repeat (first | go_big_quiet_step (fail) | quiet_step (fail)));refine wpQuiet_nil ?_)
   intro w2 hx2
   go_wp2_with fail
   go_roundw
   case rel=>exact ⟨k+1,by omega,by omega,by go_num,bel⟩
   case measure=>simp [intOf];omega
  ·go_wp2_with fail
   go_ret
   exact ⟨rfl,hE⟩
def qbp (a b:Ed):Bool:=decide (a.f=b.f) && decide (a.l=b.l) && decide (a.t=b.t)
theorem qm3 (a b:Ed):qbp a b=true↔a=b:=by
 obtain ⟨f,l,t⟩:=a
 obtain ⟨f',l',t'⟩:=b
 simp [qbp,and_assoc]
def qdp (l:List Ed):List Ed:=qay qbp l
theorem qqb:∀ (l:List Ed) (p:Ed),qg3 (p :: l)->qcl qbp p l=l
 | [],_,_=>rfl
 | x :: l,p,h=>by
  have h0:=h 0 (by simp)
  simp only [List.getElem_cons_succ,List.getElem_cons_zero] at h0
  have h1:qbp x p=false:=by
   cases hs:qbp x p with
   | false=>rfl
   | true=>exact absurd ((qm3 x p).1 hs) h0
  have ih:=qqb l x fun k hk=>by
   have:=h (k+1) (by simpa using hk)
   simpa using this
  rw [qcl,h1,ih]
  rfl
theorem cmpE_nd {l:List Ed} (h:qg3 l):qdp l=l:=by
 cases l with
 | nil=>rfl
 | cons x l=>rw [qdp,qay,qqb l x h]
def qla (l:List Ed):Prop:=∀ (base:Nat) (v:Value) (w:World),qab REd 3 88 base (fun _=>False) w l v->Calls Tryz.prog 249 #[v] w fun e w'=>∃ v',e = .returned v'∧qab REd 3 88 base (fun _=>False) w' (qdp l) v'∧Bt (fun q=>v.ownBlock=some q) w w'
theorem compOK_nd {l:List Ed} (h:qg3 l):qla l:=fun base v w ho=>(qt3 (fun b=>False∨base<=b) l v w (ho.sl REd.good (by decide)) h).mono fun e w' ⟨he,hx⟩=>⟨v,he,by rw [cmpE_nd h];exact ho.ext REd.good hx,hx.bt⟩
end
section
open Go.Shelf Go.Sort Go.Lib
theorem info3i:(Tryz.prog.info? 3).map (fun i=>(i.zero,i.size,i.bytes))=some (some (.int .i64 0),1,8):=by kernel_rfl
theorem made_ints (n:Nat):madeCells (Value.int .i64 0).cells (n*1)=Array.replicate n (.int .i64 0):=by
 rw [Nat.mul_one]
 apply Array.ext
 ·simp [size_madeCells]
 ·intro i h1 h2
  have:i % 1=0:=Nat.mod_one i
  simp [madeCells,Value.cells,this]
theorem run_mints (W:World) (n:Nat) (hn:n<=1000000) :
  (Instr.makeSlice 53 (.int .i64 (n:Int)) (.int .i64 (n:Int))).run Tryz.prog W = .ok (.slice (some ⟨W.heap.size,0,none⟩) n n) (W.alloc (.cells (Array.replicate n (.int .i64 0)) 3)):=by
 obtain ⟨i,hi,hz⟩:=Option.map_eq_some_iff.1 info3i
 simp only [Prod.mk.injEq] at hz
 obtain ⟨h1,h2,h3⟩:=hz
 have h:=run_makeSlice (P:=Tryz.prog) (w:=W) 53 3 i (.int .i64 0) Tryz.underlying53 hi h1 .i64 .i64 n n (by omega) (Int.le_refl _) (by rw [h2];simp;omega) (by rw [h3];omega) (by omega)
 rw [h2] at h
 simp only [Int.toNat_natCast,made_ints] at h
 exact h
def qcx (n k:Nat):List Int:=(List.range n).map fun i=>if i<k then (i:Int) else 0
theorem qhb (n k:Nat):(qcx n k).length=n:=by simp [qcx]
theorem qt4 (n:Nat):qcx n 0=List.replicate n 0:=by
 apply List.ext_getElem
 ·simp [qcx]
 ·intro i h1 h2;simp [qcx]
theorem fillL_set (n k:Nat):(qcx n k).set k (k:Int)=qcx n (k+1):=by
 apply List.ext_getElem
 ·simp [qcx]
 ·intro i h1 h2
  rw [List.getElem_set]
  simp only [qcx,List.getElem_map,List.getElem_range]
  by_cases h:k=i
  ·subst h;simp
  ·rw [if_neg h]
   by_cases h':i<k
   ·rw [if_pos h',if_pos (by omega)]
   ·rw [if_neg h',if_neg (by omega)]
def qd5 (ls:List Lb):Array Int:=insertionSort (ltIx ls) (qcx ls.length ls.length).toArray 0 ls.length
def qdt:List Int->Nat->List Int->List Int
 | [],_,p=>p
 | o :: os,i,p=>qdt os (i+1) (p.set o.toNat (i:Int))
theorem qg5:∀ (os:List Int) (i:Nat) (p:List Int),(qdt os i p).length=p.length
 | [],_,_=>rfl
 | o :: os,i,p=>by rw [qdt,qg5 os,List.length_set]
theorem qsk (o:Int):∀ (os:List Int) (i:Nat) (p:List Int),qdt (os++[o]) i p=(qdt os i p).set o.toNat ((i+os.length:Nat):Int)
 | [],i,p=>rfl
 | x :: os,i,p=>by rw [List.cons_append,qdt,qsk o os,qdt,List.length_cons];congr 2;omega
theorem qlk (w:World) (a b:Obj):∃ W0,(w.alloc a).alloc b=W0∧W0.heap[w.heap.size]? = some a∧W0.heap[w.heap.size+1]? = some b∧Ext w W0∧W0.heap.size=w.heap.size+2:=by
 refine ⟨_,rfl,?_,?_,((Ext.refl w).alloc a).alloc b,by simp⟩
 ·rw [Below.heap_alloc _ _ _ (by simp)]
  exact World.alloc_heap_new _ _
 ·have:=World.alloc_heap_new (w.alloc a) b
  rwa [World.size_alloc] at this
theorem row_zeros {W:World} {g base n:Nat} (h:W.heap[g]? = some (.cells (Array.replicate n (.int .i64 0)) 3)) (hb:base<=g) (hn:n<=1000000):qab qac 1 3 base (fun _=>False) W (List.replicate n (0:Int)) (.slice (some ⟨g,0,none⟩) n n):=by
 have hmI:∀ x∈List.replicate n (0:Int),I64 x:=fun x hx=>by rw [List.eq_of_mem_replicate hx];unfold I64;omega
 exact ⟨(List.replicate n (0:Int)).map (Value.int .i64),⟨by simp,.inr ⟨g,n,_,by simp,hb,h,by simp,by unfold maxLen;omega,by simp,by simp⟩⟩,Flat.of_ints hmI⟩
def qei (ls:List Lb):List Int:=qdt (qd5 ls).toList 0 (List.replicate ls.length 0)
def edR (ls:List Lb) (es:List Ed):List Ed:=es.map fun e=>⟨e.f,((qei ls)[e.l.toNat]?).getD 0,e.t⟩
def qcs (ls:List Lb):List Lb:=(qd5 ls).toList.map (qa4 ls)
theorem alloc4 (w:World) (a b c d:Obj):∃ W0,(((w.alloc a).alloc b).alloc c).alloc d=W0∧W0.heap[w.heap.size]? = some a∧W0.heap[w.heap.size+1]? = some b∧W0.heap[w.heap.size+1+1]? = some c∧W0.heap[w.heap.size+1+1+1]? = some d∧Ext w W0∧W0.heap.size=w.heap.size+4:=by
 refine ⟨_,rfl,?_,?_,?_,?_,(((((Ext.refl w).alloc a).alloc b).alloc c).alloc d),by simp⟩
 ·rw [Below.heap_alloc _ _ _ (by simp;omega),Below.heap_alloc _ _ _ (by simp;omega),Below.heap_alloc _ _ _ (by simp)]
  exact World.alloc_heap_new _ _
 ·rw [Below.heap_alloc _ _ _ (by simp)]
  exact qgx ..
 ·rw [Below.heap_alloc _ _ _ (by simp)]
  exact qgo ..
 ·have:=World.alloc_heap_new (((w.alloc a).alloc b).alloc c) d
  rwa [World.size_alloc,World.size_alloc,World.size_alloc] at this
theorem eg247:∀ args w,(callFunc 247 args).run Tryz.prog w = .ok (.enter 247 args) w:=enters_of Tryz.func247 (by kernel_rfl) rfl
theorem qtm (S:Nat->Prop) (ls:List Lb) (A:Option Addr) (cl Bp Bo B g c base:Nat) (W0:World) (hn:ls.length<=1000000) (hB:Bp≠g∧Bo≠g∧B≠g) (hS:∀ q,S q->q≠g)
  (c0:W0.cell? ⟨Bp,0,none⟩=some (.pointer (some ⟨B,0,none⟩))) (c1:W0.cell? ⟨Bo,0,none⟩=some (.slice (some ⟨g,0,none⟩) ls.length c)) (c2:W0.cell? ⟨B,1,none⟩=some (.slice A ls.length cl)) (hls:qaa S W0 ls [.slice A ls.length cl]) :
  qd6 247 #[.pointer (some ⟨Bp,0,none⟩),.pointer (some ⟨Bo,0,none⟩)] (ltIx ls) (fun x=>0<=x∧x<ls.length) base g ls.length c W0:=by
 intro W dk hb hr hs hp i j hi hj
 obtain ⟨u,ci,⟨e1,_⟩,_⟩:=hr.get1 i (by simpa using (by omega:i<dk.size))
 obtain ⟨u',cj,⟨e2,_⟩,_⟩:=hr.get1 j (by simpa using (by omega:j<dk.size))
 injection e1 with e1
 injection e2 with e2
 subst e1 e2
 have mi:=hp _ (List.getElem_mem (l:=dk.toList) (n:=i) (by simpa using (by omega:i<dk.size)))
 have mj:=hp _ (List.getElem_mem (l:=dk.toList) (n:=j) (by simpa using (by omega:j<dk.size)))
 have ei:dk.toList[i]'(by simpa using (by omega:i<dk.size))=dk[i]! := by rw [getElem!_pos dk i (by omega)];simp
 have ej:dk.toList[j]'(by simpa using (by omega:j<dk.size))=dk[j]! := by rw [getElem!_pos dk j (by omega)];simp
 rw [ei] at mi ci
 rw [ej] at mj cj
 obtain ⟨ix,hix⟩:∃ ix:Nat,dk[i]! = (ix:Int):=⟨dk[i]!.toNat,by omega⟩
 obtain ⟨jx,hjx⟩:∃ jx:Nat,dk[j]! = (jx:Int):=⟨dk[j]!.toNat,by omega⟩
 rw [hix] at ci mi
 rw [hjx] at cj mj
 have h:=lessIx_c S ls A cl Bp Bo B g ls.length c i j ix jx W hi hj (by omega) (by omega) hn (hb.cell c0 hB.1) (hb.cell c1 hB.2.1) (hb.cell c2 hB.2.2) ci cj (qaa.good.move hls (hb.kp (S:=S) fun q _ h h'=>hS q h h'))
 refine h.mono ?_
 rintro e w' ⟨rfl,hx⟩
 exact ⟨by rw [ltIx,hix,hjx,qea ls ix (by omega),qea ls jx (by omega)],hx⟩
def qh4 (n:Int) (ls:List Lb) (es:List Ed):Sy:=⟨n,qcs ls,qdp (qcu qbd (edR ls es))⟩
def qkr (ls:List Lb):Prop:=∀ (lb:Array Value) (base g:Nat) (w:World),qd6 247 lb (ltIx ls) (fun x=>0<=x∧x<ls.length) base g ls.length ls.length w->qbn base w (qcx ls.length ls.length).toArray g ls.length ls.length->g<w.heap.size ->
 Calls Tryz.prog 246 #[.iface 53 (.slice (some ⟨g,0,none⟩) ls.length ls.length),.func (.func 247) #[] lb] w (qjr base g ls.length ls.length (fun x=>0<=x∧x<ls.length) (qd5 ls) w)
theorem qke (n:Nat):∀ x∈(qcx n n).toArray.toList,0<=x∧x<n:=fun x hx=>by
 have hx:x∈qcx n n:=by simpa using hx
 obtain ⟨i,hi,rfl⟩:=List.mem_map.1 hx
 have:=List.mem_range.1 hi
 rw [if_pos this]
 omega
theorem sortOK12 {ls:List Lb} (h:ls.length<=12):qkr ls:=fun lb base g w hl hr hg =>
 slice_c 247 lb (ltIx ls) (fun x=>0<=x∧x<ls.length) base g ls.length ls.length (qcx ls.length ls.length).toArray w eg247 hl hr (by rw [List.size_toArray,qhb]) (qke _) h hg
theorem qmw {fn:Func} {p q:Tmp} (h:fn.results = #[.cell p 25,.tmp q]) (tmps:Array Value) (w:World) (g:Nat) (x y z u:Value) (hp:tmps.getD p undef = .pointer (some ⟨g,0,none⟩)) (hq:tmps.getD q undef=u) (h0:w.cell? ⟨g,0,none⟩=some x) (h1:w.cell? ⟨g,1,none⟩=some y) (h2:w.cell? ⟨g,2,none⟩=some z) :
  (results fn tmps).run Tryz.prog w = .ok (.tuple #[.agg #[x,y,z],u]) w:=by
 have hp':tmps[p]?.getD undef = .pointer (some ⟨g,0,none⟩):=by simpa using hp
 have hq':tmps[q]?.getD undef=u:=by simpa using hq
 simp [results,h,hp',hq',asAddr,go_sem,h0,h1,h2]
theorem qhn (ls:List Lb) (es:List Ed):(edR ls es).length=es.length:=by simp [edR]
def UsedPost (base:Nat) (n:Int) (ls:List Lb) (es:List Ed) (w:World) (e:Ending) (w':World):Prop:=∃ cs,e = .returned (.tuple #[.agg cs.toArray,.bool true])∧RSy (fun b=>base<=b) w' (qh4 n ls es) cs∧Ext w w'
set_option maxHeartbeats 1000000 in
set_option maxRecDepth 100000 in
theorem used_c (base B:Nat) (ls:List Lb) (es:List Ed) (ve:Value) (n:Int) (hn:I64 n) (w:World) (hbase:base<=w.heap.size) (hA:qcq base B ls es ve w) (hln:ls.length<=16) (hso:qkr ls) (hel:es.length<=100000) (hix:∀ e∈es,0<=e.l∧e.l<ls.length) (hco:qla (qcu qbd (edR ls es))) :
  Calls Tryz.prog 205 #[.pointer (some ⟨B,0,none⟩),.int .i64 n] w (UsedPost base n ls es w):=by
 obtain ⟨mo,vl,T,hbox,hlab,hed,hT,hap,hmo⟩:=hA.ex
 have hB:=hA.lt
 have hBl:=hbox.lt
 have hL:qaa (fun q=>base<=q∧q<w.heap.size) w ls [vl]:=qaa.good.mono (hlab.sl RLb.good (by decide)) fun b hb h=>⟨h.elim (fun h=>(hT b h).1) id,hb⟩
 have hE:qb5 (fun q=>q<w.heap.size) w es [ve]:=qb5.good.mono (hed.sl REd.good (by decide)) fun b hb _=>hb
 obtain ⟨Al,cl,rfl,hcl,hcl0⟩:=hL.val
 obtain ⟨Ae,ce,rfl,hce,hce0⟩:=hE.val
 have g1:=hbox.cell 1 _
 have g2:=hbox.cell 2 _
 have HL:=Hd hL
 have HE:=Hd hE
 have hmk:=fun W=>run_mints W ls.length (by omega)
 have HSO:=Hd hso
 have HCO:=Hd hco
 clear hso hco hA hmo hap hT hed hlab hbox hL hE
 go_enter Tryz.func205,Tryz.ntmps205
 go_wp2_with fail
 obtain ⟨W0,hW0,hp0,hr0,hg0,ho0,hX0,hs0⟩:=alloc4 w (.cells #[.pointer (some ⟨B,0,none⟩)] 268) (.cells #[.int .i64 0,.slice none 0 0,.slice none 0 0] 25) (.cells (Array.replicate ls.length (.int .i64 0)) 3) (.cells #[.slice (some ⟨w.heap.size+1+1,0,none⟩) ls.length ls.length] 53)
 rw [hW0]
 clear hW0
 obtain ⟨Bo,hBo⟩:∃ Bo,w.heap.size+1+1+1=Bo:=⟨_,rfl⟩
 obtain ⟨g,hg⟩:∃ g,w.heap.size+1+1=g:=⟨_,rfl⟩
 obtain ⟨Br,hBr⟩:∃ Br,w.heap.size+1=Br:=⟨_,rfl⟩
 obtain ⟨Bp,hBp⟩:∃ Bp,w.heap.size=Bp:=⟨_,rfl⟩
 rw [hBo,hg,hBr,hBp]
 rw [hBo,hg] at ho0
 rw [hg] at hg0
 rw [hBr] at hr0
 rw [hBp] at hp0
 have HP:Hid (qaf W0 Bp 268 [.pointer (some ⟨B,0,none⟩)]):=hp0
 have HBr:Hid (qaf W0 Br 25 [.int .i64 0,.slice none 0 0,.slice none 0 0]):=hr0
 have HBo:Hid (qaf W0 Bo 53 [.slice (some ⟨g,0,none⟩) ls.length ls.length]):=ho0
 have hrow:qab qac 1 3 Bp (fun _=>False) W0 (qcx ls.length 0) (.slice (some ⟨g,0,none⟩) ls.length ls.length):=by
  have hmI:∀ x∈List.replicate ls.length (0:Int),I64 x:=fun x hx=>by rw [List.eq_of_mem_replicate hx];unfold I64;omega
  rw [qt4]
  refine ⟨(List.replicate ls.length (0:Int)).map (Value.int .i64),⟨by simp,.inr ⟨g,ls.length,_,by simp,by omega,hg0,by simp,by unfold maxLen;omega,by simp,by simp⟩⟩,Flat.of_ints hmI⟩
 have HROW:=Hd hrow
 have HX0:=Hd hX0
 have HN:Hid (Br=Bp+1∧g=Bp+2∧Bo=Bp+3∧W0.heap.size=Bp+4∧w.heap.size=Bp):=by show _∧_;omega
 clear hp0 hr0 hg0 ho0 hrow hX0 hs0 hBo hg hBr hBp
 go_loopw [22] (fun vi wr=>∃ k:Nat,k<=ls.length∧vi = .int .i64 k∧Hid (Bt (fun q=>q=g) W0 wr)∧Hid (qab qac 1 3 Bp (fun _=>False) wr (qcx ls.length k) (.slice (some ⟨g,0,none⟩) ls.length ls.length))) (fun vi _=>ls.length-(intOf vi).toNat)
 case atStart=>exact ⟨0,Nat.zero_le _,rfl,Bt.refl _ _,HROW.out⟩
 case round =>
  obtain ⟨k,hk,rfl,hB0,hO⟩:=hrel
  have hBo:=HBo.out.bt hB0.out (by have:=HN.out;omega)
  have o0:=hBo.cell 0 _
  by_cases hlt:k<ls.length
  ·obtain ⟨u,a0,_,f0⟩:=hO.out.get1 k (by rw [qhb];exact hlt)
   have hst:=qab.put1 qac.good hO.out (by rw [qhb]) k (.int .i64 k) (k:Int) (by rw [qhb];exact hlt) ⟨rfl,by unfold I64;omega⟩
   rw [fillL_set] at hst
   have HST:=Hd hst
   have HBT:Hid (Bt (fun q=>q=g) W0 (wr.setCell ⟨g,k,none⟩ (.int .i64 k))):=Bt.set (Z:=fun q=>q=g) (p:=⟨g,k,none⟩) hB0.out (.inr rfl) _
   clear hst hO hB0 hBo
   go_wp2_with fail
   go_roundw
   case rel=>exact ⟨k+1,by omega,by go_num,HBT,HST⟩
   case measure=>simp [intOf];omega
  ·obtain rfl:k=ls.length:=by omega
   clear hBo
   go_wp2_with fail
   have hXw:Ext w wr:=Bt.new HX0.out hB0.out fun q _ h=>by have:=HN.out;omega
   have hBw:=hB0.out.size
   have hsl:=HSO.out #[.pointer (some ⟨Bp,0,none⟩),.pointer (some ⟨Bo,0,none⟩)] Bp g wr
    (qtm (fun q=>base<=q∧q<w.heap.size) ls Al cl Bp Bo B g ls.length Bp wr (by omega) (by have:=HN.out;omega) (fun q hq=>by have:=HN.out;omega) ((HP.out.bt hB0.out (by have:=HN.out;omega)).cell 0 _) o0 (Ext.keep hXw g1) (qaa.good.bel HL.out hXw))
    hO.out (by have:=HN.out;omega)
   refine hsl.mono ?_
   rintro e w5 ⟨rfl,⟨hO5,hm5,hs5⟩,hb5⟩
   have hB5:Bt (fun q=>q=g) W0 w5:=hB0.out.trans hb5
   have hX5:Ext w w5:=Bt.new HX0.out hB5 fun q _ h=>by have:=HN.out;omega
   obtain ⟨D,hD⟩:∃ D,(qd5 ls).toList=D:=⟨_,rfl⟩
   have hO6:Hid (qab qac 1 3 Bp (fun _=>False) w5 D (.slice (some ⟨g,0,none⟩) ls.length ls.length)):=by rw [<- hD];exact hO5
   have hDm:Hid (∀ x∈D,0<=x∧x<ls.length):=by rw [<- hD];exact hm5
   have hDl:D.length=ls.length:=by rw [<- hD,Array.length_toList];exact hs5
   have HD:=Hd hD
   have hP5:=HP.out.bt hB5 (by have:=HN.out;omega)
   have hBo5:=HBo.out.bt hB5 (by have:=HN.out;omega)
   have hBr5:=Hd (HBr.out.bt hB5 (by have:=HN.out;omega))
   have p0:=hP5.cell 0 _
   have o0':=hBo5.cell 0 _
   have k1:=Ext.keep hX5 g1
   have k2:=Ext.keep hX5 g2
   have hz1:=hBo5.lt
   have hz2:=hP5.lt
   have hz3:B<w5.heap.size:=Nat.lt_of_lt_of_le hBl hX5.size
   have HX5:=Hd hX5
   have hsz5:=hB5.size
   have HN5:Hid (W0.heap.size<=w5.heap.size):=hsz5
   clear hO5 hm5 hs5 hb5 hO hB0 hsl hXw hBw hB5 hX5 o0 g1 g2 hP5 hBo5 hsz5 hD hk
   go_wp2_with fail
   obtain ⟨W6,hW6,h60,h61,hX6,hs6⟩:=qlk w5 (.cells #[.int .i64 n,.slice none 0 0,.slice none 0 0] 25) (.cells (Array.replicate ls.length (.int .i64 0)) 3)
   rw [hW6]
   clear hW6
   obtain ⟨gr,hgr⟩:∃ gr,w5.heap.size+1=gr:=⟨_,rfl⟩
   obtain ⟨Bl,hBl⟩:∃ Bl,w5.heap.size=Bl:=⟨_,rfl⟩
   rw [hgr,hBl]
   rw [hgr] at h61
   rw [hBl] at h60
   have HBl:Hid (qaf W6 Bl 25 [.int .i64 n,.slice none 0 0,.slice none 0 0]):=h60
   have HPL:=Hd (row_zeros h61 (base:=gr) (Nat.le_refl _) (by omega))
   have HM:Hid (gr=Bl+1∧W6.heap.size=Bl+2∧w5.heap.size=Bl∧W0.heap.size<=Bl):=by show _∧_;have:=HN5.out;omega
   have HX6:=Hd hX6
   clear h60 h61 hgr hBl hX6 hs6
   go_loopw [41] (fun vi wr=>∃ (k:Nat) (Av:Option Addr) (cv:Nat),k<=ls.length∧vi = .int .i64 k∧Ext w5 wr∧Hid (qaf wr Bl 25 [.int .i64 n,.slice Av ((D.take k).map (qa4 ls)).length cv,.slice none 0 0]) ∧
    Hid (qab RLb 2 61 (gr+1) (fun q=>base<=q∧q<w.heap.size) wr ((D.take k).map (qa4 ls)) (.slice Av ((D.take k).map (qa4 ls)).length cv))∧Hid (qab qac 1 3 gr (fun _=>False) wr (qdt (D.take k) 0 (List.replicate ls.length 0)) (.slice (some ⟨gr,0,none⟩) ls.length ls.length))) (fun vi _=>ls.length-(intOf vi).toNat)
   case atStart=>exact ⟨0,none,0,Nat.zero_le _,rfl,HX6.out,HBl.out,qab.nil ..,HPL.out⟩
   case round =>
    obtain ⟨k,Av,cv,hk,rfl,hE,hBx,hLr,hPl⟩:=hrel
    have p0':=Ext.keep hE p0
    have k1':=Ext.keep hE k1
    by_cases hlt:k<ls.length
    ·obtain ⟨u,a0,⟨e1,_⟩,_⟩:=(hO6.out.ext qac.good hE).get1 k (by omega)
     injection e1 with e1
     subst e1
     have hmk2:=hDm.out _ (List.getElem_mem (l:=D) (n:=k) (by omega))
     obtain ⟨ix,hix⟩:∃ ix:Nat,D[k]'(by omega)=(ix:Int):=⟨(D[k]'(by omega)).toNat,by omega⟩
     rw [hix] at a0 hmk2
     have hixl:ix<ls.length:=by omega
     obtain ⟨u,b0,_,f0⟩:=hPl.out.get1 ix (by rw [qg5,List.length_replicate];exact hixl)
     have hpl:=qab.put1 qac.good hPl.out (by rw [qg5,List.length_replicate]) ix (.int .i64 k) (k:Int) (by rw [qg5,List.length_replicate];exact hixl) ⟨rfl,by unfold I64;omega⟩
     have htk:D.take (k+1)=D.take k++[(ix:Int)]:=by rw [List.take_succ_eq_append_getElem (by omega),hix]
     have hpg:qdt (D.take (k+1)) 0 (List.replicate ls.length 0)=(qdt (D.take k) 0 (List.replicate ls.length 0)).set ix (k:Int):=by
      rw [htk,qsk,List.length_take,Nat.min_eq_left (by omega),Nat.zero_add]
      rfl
     have hmp:(D.take (k+1)).map (qa4 ls)=(D.take k).map (qa4 ls)++[ls[ix]]:=by rw [htk,List.map_append,List.map_singleton,qea ls ix hixl]
     obtain ⟨ys,hys⟩:∃ ys,(D.take k).map (qa4 ls)=ys:=⟨_,rfl⟩
     rw [hys] at hmp hBx hLr
     have hyl:ys.length<=1000000:=by rw [<- hys,List.length_map,List.length_take];omega
     have hset:Bt (fun q=>q=gr) wr (wr.setCell ⟨gr,ix,none⟩ (.int .i64 k)):=Bt.set (Z:=fun q=>q=gr) (p:=⟨gr,ix,none⟩) (Bt.refl _ _) (.inr rfl) _
     obtain ⟨b,off,cs,rfl,hb,hSb,hl,hr,hcell⟩:=(qaa.good.bel HL.out (HX5.out.trans' hE)).get ix hixl
     have hr':=RLb.good.move hr (hset.kp (S:=fun q=>base<=q∧q<w.heap.size) fun q _ h h'=>by have:=HM.out;have:=HN.out;omega)
     obtain ⟨j1,v,rfl,hv⟩:=id hr'
     have d0:=hset.cell (hcell.get 0 _) (by have:=HM.out;have:=HN.out;show ¬ b=gr;omega)
     have d1:=hset.cell (hcell.get 1 _) (by have:=HM.out;have:=HN.out;show ¬ b=gr;omega)
     simp only [Nat.add_zero] at d0
     have e1:=hset.cell (hBx.out.cell 1 _) (by have:=HM.out;show ¬ Bl=gr;omega)
     have e2:=hset.cell p0' (by have:=HM.out;have:=HN.out;show ¬ Bp=gr;omega)
     have e3:=hset.cell k1' (by have:=HM.out;have:=HN.out;show ¬ B=gr;omega)
     have hLb:=fun q hq=>hLr.out.own_lt (b:=q) hq
     have hLr1:=hLr.out.bt RLb.good hset fun q _ hq=>⟨by have:=HM.out;have:=HN.out;omega,fun e=>by have:=(hLb q e).1;omega⟩
     have hbs:=(hBx.out.bt hset (by have:=HM.out;show ¬ Bl=gr;omega))
     have HLr1:=Hd hLr1
     have HBS:=Hd hbs
     have HPG:Hid (qab qac 1 3 gr (fun _=>False) (wr.setCell ⟨gr,ix,none⟩ (.int .i64 k)) (qdt (D.take (k+1)) 0 (List.replicate ls.length 0)) (.slice (some ⟨gr,0,none⟩) ls.length ls.length)):=by show qab _ _ _ _ _ _ _ _;rw [hpg];exact hpl
     have HMP:=Hd hmp
     have HSET:=Hd hset
     have HR:=Hd hr'
     have HV:=Hd hv
     have HJ:=Hd j1
     obtain ⟨x,hxe⟩:∃ x,ls[ix]=x:=⟨_,rfl⟩
     rw [hxe] at d0 HV HMP HJ HR
     obtain ⟨Ax,cx,rfl,_,_⟩:=HV.out.val
     have hn1:¬ (Value.slice Av ys.length cv).ownBlock=some Bl:=fun e=>by have:=(hLb _ e).1;have:=HM.out;omega
     have hn2:¬ (Value.slice Av ys.length cv).ownBlock=some Bp:=fun e=>by have:=(hLb _ e).1;have:=HM.out;have:=HN.out;omega
     have hn3:¬ (Value.slice Av ys.length cv).ownBlock=some B:=fun e=>by have:=(hLb _ e).1;have:=HM.out;have:=HN.out;omega
     have hn4:¬ (Value.slice Av ys.length cv).ownBlock=some b:=fun e=>by have:=(hLb _ e).1;have:=HM.out;have:=HN.out;omega
     clear hpl htk hpg hmp hys hset hr hr' hv hcell hLr1 hbs hSb hl j1 hxe hPl hLr hix p0' k1'
     go_wp2_with fail
     refine qg2 (fun W=>W.cell? ⟨Bl,1,none⟩=some (.slice Av ys.length cv)∧W.cell? ⟨Bp,0,none⟩=some (.pointer (some ⟨B,0,none⟩))∧W.cell? ⟨B,1,none⟩=some (.slice (some ⟨b,off,none⟩) ls.length cl)∧W.cell? ⟨b,off+ix*2,none⟩=some (.int .i64 x.g)∧W.cell? ⟨b,off+ix*2+1,none⟩=some (.slice Ax x.v.length cx)) (by kernel_rfl) (by rfl) (by kernel_rfl) ⟨e1,e2,e3,d0,d1⟩ (fun hHeld=>?_)
     dsimp only [List.dropLast,List.getLastD,List.getLast?,List.getLast]
     obtain ⟨Wd,hWd⟩:∃ Wd,(wr.setCell ⟨gr,ix,none⟩ (.int .i64 k)).drew=Wd:=⟨_,rfl⟩
     have hXd:Ext (wr.setCell ⟨gr,ix,none⟩ (.int .i64 k)) Wd:=hWd ▸ Below.drew (Ext.refl _)
     rw [hWd] at hHeld ⊢
     clear hWd e1 e2 e3 d0 d1
     obtain ⟨g8,c8,w8,hr8,ho8,hb8,ha8,hbA⟩:=qff RLb.good (by decide) (gr+1) 61 22 (.agg #[.int .i64 0,.slice none 0 0]) 32 Tryz.underlying22 qmf rfl (by decide) (fun q=>base<=q∧q<w.heap.size) Wd ys (.slice Av ys.length cv) x [.int .i64 x.g,.slice Ax x.v.length cx]
      (HLr1.out.ext RLb.good hXd) (RLb.good.mono (RLb.good.bel HR.out hXd) fun q _ hq=>⟨hq,fun e=>by have:=(hLb q e).1;have:=HM.out;have:=HN.out;omega⟩) (by have:=hE.size;have:=HSET.out.size;have:=hXd.size;have:=HM.out;have:=HX6.out.size;have:=hHeld.1;have:=HLr1.out;have:=HPG.out.own_lt (b:=gr) rfl;omega) hyl
     have hv8:(Value.slice (some ⟨g8,0,none⟩) (ys.length+1) c8).ownBlock≠some Bl:=fun e=>by
      have:=(ho8.own_lt e).1
      have:=HM.out
      omega
     have hp:=qix RLb.good 1 (HBS.out.ext hXd) ho8 hb8 hn1 hv8 (fun h=>by have:=HM.out;have:=HN.out;omega)
     have HP8:=Hd hp
     have k8:=hp.1.trans ((HBS.out.ext hXd).cell 1 _)
     have f8:=hp.2.1
     have HRUN:=Hd hr8
     clear hp hr8
     (refine tk 0 ?_;try simp only [qai])
     (refine tk 1 ?_;try simp only [qai])
     (refine tk 2 ?_;try simp only [qai])
     (refine tk 3 ?_;try simp only [qai])
     (refine tk 4 ?_;try simp only [qai])
     (refine tk 5 ?_;try simp only [qai])
     (refine tk 6 ?_;try simp only [qai])
     (refine tk 7 ?_;try simp only [qai])
     (refine tk 8 ?_;try simp only [qai])
     refine wpAnyH_ready (rs:=[9]) (by kernel_rfl) (by simp) ?_
     refine AllReadyH.cons rfl (fun K hK=>?_) AllReadyH.nil
     go_simp
     have hHeld6:=Ext.k5 ((Ext.refl Wd).alloc (.cells #[.int .i64 x.g,.slice Ax x.v.length cx] 61)) hHeld
     refine hK.out _ _ hHeld6 (fun _=>?_)
     clear hK K
     try simp only [qai]
     refine wpAnyH_ready (rs:=[10]) (by kernel_rfl) (by simp) ?_
     refine AllReadyH.cons rfl (fun K hK=>?_) AllReadyH.nil
     refine qfx rfl _ _ _ rfl _ _ _ rfl rfl HRUN.out ?_
     refine hK.out _ _ ⟨k8,hbA.cell hHeld6.2.1 hn2,hbA.cell hHeld6.2.2.1 hn3,hbA.cell hHeld6.2.2.2.1 hn4,hbA.cell hHeld6.2.2.2.2 hn4⟩ (fun hHeld8=>?_)
     clear hK K
     try simp only [qai]
     (refine tk 11 ?_;try simp only [qai])
     refine wpAnyH_done (by kernel_rfl) ?_ _
     show Oper.wp _ _ _ _ _ _
     go_simp
     have hlen:((D.take (k+1)).map (qa4 ls)).length=ys.length+1:=by rw [HMP.out,List.length_append];rfl
     have HLN:=Hd hlen
     clear hlen hHeld hHeld6 hHeld8 hbA
     go_wp2_with fail
     go_roundw
     case rel =>
      have hall:=HP8.out.2.2.2.2
      refine ⟨k+1,some ⟨g8,0,none⟩,c8,by omega,by go_num,?_,by show qaf _ _ _ _;rw [HLN.out];exact HP8.out.2.2.1,by show qab _ _ _ _ _ _ _ _;rw [HLN.out,HMP.out];exact HP8.out.2.2.2.1,?_⟩
      ·refine Bt.new hE ((HSET.out.ext hXd).mono (Z':=fun q=>q=gr∨(Value.slice Av ys.length cv).ownBlock=some q∨q=Bl) (fun q _ h=>.inl h) |>.trans (hall.mono fun q _ h=>.inr h)) fun q _ h=>?_
       have:=HM.out
       rcases h with h | h | h
       ·omega
       ·have:=(hLb q h).1;omega
       ·omega
      ·refine (HPG.out.ext qac.good hXd).bt qac.good hall fun q _ h=>⟨id,fun e=>?_⟩
       have hq:q=gr:=by injection e with e;exact e.symm
       have:=HM.out
       rcases h with h | h
       ·have:=(hLb q h).1;omega
       ·omega
     case measure=>simp [intOf];omega
    ·obtain rfl:k=ls.length:=by omega
     have htk:D.take ls.length=D:=List.take_of_length_le (by omega)
     have hlab:(D.map (qa4 ls))=qcs ls:=by rw [<- HD.out];rfl
     have hplc:qdt D 0 (List.replicate ls.length 0)=qei ls:=by rw [<- HD.out];rfl
     rw [htk,hlab] at hBx hLr
     rw [htk,hplc] at hPl
     have k2':=Ext.keep hE k2
     have e1:=hBx.out.cell 1 _
     clear htk hlab hplc k1'
     have hBxl:=hBx.out.lt
     have HE7:=Hd hE
     clear hE p0 k1 k2 o0' hz1 hz2
     go_wp2_with fail
     obtain ⟨W7,rfl⟩:∃ W7,W7=wr:=⟨_,rfl⟩
     have hsz7:=HE7.out.size
     have HZ7:Hid (w5.heap.size<=W7.heap.size):=hsz7
     have hgrl:=(hPl.out.own_lt (b:=gr) rfl).2
     have hlabl:(qcs ls).length<=16:=by
      have:(qcs ls).length=D.length:=by rw [<- HD.out,qcs,List.length_map]
      omega
     clear hsz7 e1
     go_loopw [68] (fun vi wr=>∃ (k:Nat) (Ax:Option Addr) (cx:Nat),k<=es.length∧vi = .int .i64 k∧Hid (Bt (fun q=>q=Bl) W7 wr)∧Hid (qaf wr Bl 25 [.int .i64 n,.slice Av (qcs ls).length cv,.slice Ax ((edR ls es).take k).length cx]) ∧
      Hid (qab REd 3 88 W7.heap.size (fun _=>False) wr ((edR ls es).take k) (.slice Ax ((edR ls es).take k).length cx))) (fun vi _=>es.length-(intOf vi).toNat)
     case atStart=>exact ⟨0,none,0,Nat.zero_le _,rfl,Bt.refl _ _,hBx,qab.nil ..⟩
     case round =>
      obtain ⟨k,Ax,cx,hk,rfl,hB7,hBy,hEr⟩:=hrel
      have hsz7:=hB7.out.size
      have e2:=hBy.out.cell 2 _
      have hBlt:=hBy.out.lt
      by_cases hlt:k<es.length
      ·obtain ⟨b,off,cs,rfl,hb,hSb,hl,hr,hcell⟩:=HE.out.get k hlt
       have hmem:=hix _ (List.getElem_mem hlt)
       have hKp:Kp (fun q=>q<w.heap.size) w wr:=(HX5.out.trans' HE7.out).kp.trans (hB7.out.kp fun q _ h h'=>by have:=HM.out;have:=HN.out;omega)
       obtain ⟨jf,jl,jt,rfl⟩:=id hr
       have d0:=hKp.cell (hcell.get 0 _) hSb
       have d1:=hKp.cell (hcell.get 1 _) hSb
       have d2:=hKp.cell (hcell.get 2 _) hSb
       simp only [Nat.add_zero] at d0
       have hEx:(edR ls es).take (k+1)=(edR ls es).take k++[⟨es[k].f,((qei ls)[es[k].l.toNat]?).getD 0,es[k].t⟩]:=by
        rw [List.take_succ_eq_append_getElem (by rw [qhn];exact hlt)]
        simp [edR]
       obtain ⟨⟨f,l,t⟩,hxe⟩:∃ x,es[k]=x:=⟨_,rfl⟩
       rw [hxe] at d0 d1 d2 hEx hmem jf jl jt
       simp only at d0 d1 d2 hEx hmem jf jl jt
       obtain ⟨lx,rfl⟩:∃ lx:Nat,l=(lx:Int):=⟨l.toNat,by omega⟩
       have hlx:lx<ls.length:=by omega
       obtain ⟨u,q0,⟨ee,ji⟩,_⟩:=(hPl.out.bt qac.good hB7.out fun q _ h=>⟨id,fun e=>by have hq:gr=q:=(by injection e);have:=HM.out;omega⟩).get1 lx (by rw [qei,qg5,List.length_replicate];exact hlx)
       injection ee with ee
       subst ee
       have hpx:((qei ls)[(lx:Int).toNat]?).getD 0=(qei ls)[lx]'(by rw [qei,qg5,List.length_replicate];exact hlx):=by
        rw [Int.toNat_natCast,List.getElem?_eq_getElem (by rw [qei,qg5,List.length_replicate];exact hlx)]
        rfl
       rw [hpx] at hEx
       obtain ⟨p,hpe⟩:∃ p,(qei ls)[lx]'(by rw [qei,qg5,List.length_replicate];exact hlx)=p:=⟨_,rfl⟩
       rw [hpe] at hEx q0 ji
       obtain ⟨ys,hys⟩:∃ ys,(edR ls es).take k=ys:=⟨_,rfl⟩
       rw [hys] at hEx hBy hEr e2
       have hyl:ys.length<=1000000:=by rw [<- hys,List.length_take,qhn];omega
       have hEb:=fun q hq=>hEr.out.own_lt (b:=q) hq
       have hn1:¬ (Value.slice Ax ys.length cx).ownBlock=some Bl:=fun e=>by have:=(hEb _ e).1;omega
       have hn2:¬ (Value.slice Ax ys.length cx).ownBlock=some gr:=fun e=>by have:=(hEb _ e).1;omega
       have hn3:¬ (Value.slice Ax ys.length cx).ownBlock=some wr.heap.size:=fun e=>by have:=(hEb _ e).2;omega
       have hgl:gr<wr.heap.size:=by omega
       have q0':=Lib.cell?_alloc_some (.cells #[.int .i64 f,.int .i64 (lx:Int),.int .i64 t] 88) q0
       have e2':=Lib.cell?_alloc_some (.cells #[.int .i64 f,.int .i64 (lx:Int),.int .i64 t] 88) e2
       have HEX:=Hd hEx
       have HJ:Hid (I64 f∧I64 p∧I64 t):=⟨jf,ji,jt⟩
       clear hpx hpe hEx hys hxe hr hcell hKp hl hSb
       go_wp2_with fail
       refine qg2 (fun W=>W.cell? ⟨Bl,2,none⟩=some (.slice Ax ys.length cx)∧W.cell? ⟨wr.heap.size,0,none⟩=some (.int .i64 f)∧W.cell? ⟨wr.heap.size,1,none⟩=some (.int .i64 (lx:Int))∧W.cell? ⟨wr.heap.size,2,none⟩=some (.int .i64 t)∧W.cell? ⟨gr,lx,none⟩=some (.int .i64 p)) (by kernel_rfl) (by rfl) (by kernel_rfl) ⟨e2',by go_simp,by go_simp,by go_simp,q0'⟩ (fun hHeld=>?_)
       dsimp only [List.dropLast,List.getLastD,List.getLast?,List.getLast]
       obtain ⟨Wd,hWd⟩:∃ Wd,(wr.alloc (.cells #[.int .i64 f,.int .i64 (lx:Int),.int .i64 t] 88)).drew=Wd:=⟨_,rfl⟩
       have hXd:Ext wr Wd:=hWd ▸ Below.drew ((Ext.refl _).alloc _)
       rw [hWd] at hHeld ⊢
       clear hWd d0 d1 d2 q0 q0' e2'
       obtain ⟨g8,c8,w8,hr8,ho8,hb8,ha8,hbA⟩:=qff REd.good (by decide) W7.heap.size 88 23 (.agg #[.int .i64 0,.int .i64 0,.int .i64 0]) 24 Tryz.underlying23 qno rfl (by decide) (fun _=>False) Wd ys (.slice Ax ys.length cx) ⟨f,p,t⟩ [.int .i64 f,.int .i64 p,.int .i64 t]
        (hEr.out.ext REd.good hXd) ⟨HJ.out.1,HJ.out.2.1,HJ.out.2.2,rfl⟩ (by have:=hXd.size;omega) hyl
       have hv8:(Value.slice (some ⟨g8,0,none⟩) (ys.length+1) c8).ownBlock≠some Bl:=fun e=>by
        have:=(ho8.own_lt e).1
        omega
       have hp:=qix REd.good 2 (hBy.out.ext hXd) ho8 hb8 hn1 hv8 (fun h=>h)
       have HP8:=Hd hp
       have k8:=hp.1.trans ((hBy.out.ext hXd).cell 2 _)
       have f8:=hp.2.1
       have HRUN:=Hd hr8
       clear hp hr8
       (refine tk 0 ?_;try simp only [qai])
       (refine tk 1 ?_;try simp only [qai])
       (refine tk 2 ?_;try simp only [qai])
       (refine tk 3 ?_;try simp only [qai])
       (refine tk 4 ?_;try simp only [qai])
       (refine tk 5 ?_;try simp only [qai])
       (refine tk 6 ?_;try simp only [qai])
       (refine tk 7 ?_;try simp only [qai])
       (refine tk 8 ?_;try simp only [qai])
       (refine tk 9 ?_;try simp only [qai])
       (refine tk 10 ?_;try simp only [qai])
       (refine tk 11 ?_;try simp only [qai])
       refine wpAnyH_ready (rs:=[12]) (by kernel_rfl) (by simp) ?_
       refine AllReadyH.cons rfl (fun K hK=>?_) AllReadyH.nil
       go_simp
       have hHeld6:=Ext.k5 ((Ext.refl Wd).alloc (.cells #[.int .i64 f,.int .i64 p,.int .i64 t] 88)) hHeld
       refine hK.out _ _ hHeld6 (fun _=>?_)
       clear hK K
       try simp only [qai]
       refine wpAnyH_ready (rs:=[13]) (by kernel_rfl) (by simp) ?_
       refine AllReadyH.cons rfl (fun K hK=>?_) AllReadyH.nil
       refine qfx rfl _ _ _ rfl _ _ _ rfl rfl HRUN.out ?_
       refine hK.out _ _ ⟨k8,hbA.cell hHeld6.2.1 hn3,hbA.cell hHeld6.2.2.1 hn3,hbA.cell hHeld6.2.2.2.1 hn3,hbA.cell hHeld6.2.2.2.2 hn2⟩ (fun hHeld8=>?_)
       clear hK K
       try simp only [qai]
       (refine tk 14 ?_;try simp only [qai])
       refine wpAnyH_done (by kernel_rfl) ?_ _
       show Oper.wp _ _ _ _ _ _
       go_simp
       have hlen:((edR ls es).take (k+1)).length=ys.length+1:=by rw [HEX.out,List.length_append];rfl
       have HLN:=Hd hlen
       clear hlen hHeld hHeld6 hHeld8 hbA
       go_wp2_with fail
       go_roundw
       case rel =>
        have hall:=HP8.out.2.2.2.2
        refine ⟨k+1,some ⟨g8,0,none⟩,c8,by omega,by go_num,?_,by show qaf _ _ _ _;rw [HLN.out];exact HP8.out.2.2.1,by show qab _ _ _ _ _ _ _ _;rw [HLN.out,HEX.out];exact HP8.out.2.2.2.1⟩
        have hb1:=(hB7.out.ext hXd).join (hall.mono (Z':=fun q=>q=Bl∨W7.heap.size<=q) fun q _ h=>by
         rcases h with h | h
         ·exact .inr (hEb q h).1
         ·exact .inl h)
        exact hb1
       case measure=>simp [intOf];omega
      ·obtain rfl:k=es.length:=by omega
       have htk:(edR ls es).take es.length=edR ls es:=List.take_of_length_le (by rw [qhn];omega)
       rw [htk] at hBy hEr e2
       have hso:=sortE_own W7.heap.size (fun _=>False) (edR ls es) _ wr hEr.out (by rw [qhn];omega)
       have hEb:=fun q hq=>hEr.out.own_lt (b:=q) hq
       have hnB:¬ (Value.slice Ax (edR ls es).length cx).ownBlock=some Bl:=fun e=>by have:=(hEb _ e).1;omega
       have hnR:¬ (Value.slice Ax (edR ls es).length cx).ownBlock=some Br:=fun e=>by have:=(hEb _ e).1;have:=HM.out;have:=HN.out;omega
       clear htk hk
       go_wp2_with fail
       refine hso.mono ?_
       rintro e w9 ⟨rfl,hE9,hb9⟩
       have hBz:=hBy.out.bt hb9 hnB
       have e9:=hBz.cell 2 _
       have z9:=hBz.lt
       have hcm:=HCO.out W7.heap.size _ w9 hE9
       have hEb9:=fun q hq=>hE9.own_lt (b:=q) hq
       have HBZ:=Hd hBz
       obtain ⟨es9,hes9⟩:∃ x,qdp (qcu qbd (edR ls es))=x:=⟨_,rfl⟩
       have hel9:es9.length<=100000:=by
        rw [<- hes9]
        refine Nat.le_trans (qly qbp _) ?_
        rw [qki,qhn]
        exact hel
       rw [hes9] at hcm
       have HES:=Hd hes9
       clear hso hEr hBy e2 hE9 hBz hes9
       go_wp2_with fail
       refine hcm.mono ?_
       rintro e w10 ⟨v10,rfl,hO10,hb10⟩
       have hE10s:=hO10.sl REd.good (by decide)
       obtain ⟨Ay,cy,rfl,_,_⟩:=hE10s.val
       have hBy10:=HBZ.out.bt hb10 hnB
       have c0:=hBy10.cell 0 _
       have c1:=hBy10.cell 1 _
       have c2:=hBy10.cell 2 _
       have fz2:=hBy10.frozen 2
       have hR10:qaf w10 Br 25 [.int .i64 0,.slice none 0 0,.slice none 0 0]:=(((hBr5.out.ext HE7.out).bt hB7.out (by have:=HM.out;have:=HN.out;omega)).bt hb9 hnR).bt hb10 hnR
       have r0:=hR10.cell 0 _
       have r1:=hR10.cell 1 _
       have r2:=hR10.cell 2 _
       have rz0:=hR10.frozen 0
       have rz1:=hR10.frozen 1
       have rz2:=hR10.frozen 2
       have hne:¬ Bl=Br:=by have:=HM.out;have:=HN.out;omega
       have hne':¬ Br=Bl:=by omega
       have HR10:=Hd hR10
       have HBY:=Hd hBy10
       have hZ7:Bt (fun q=>q=Bl∨q=Br∨W7.heap.size<=q) W7 w10:=((hB7.out.mono fun q _ h=>.inl h).trans (hb9.mono fun q _ h=>.inr (.inr (hEb q h).1))).trans (hb10.mono fun q _ h=>.inr (.inr (hEb9 q h).1))
       have HZ:=Hd hZ7
       have HE10:=Hd hE10s
       clear hBy10 hR10 hcm hZ7 hO10 hb10 hE10s
       go_wp2_with fail
       have s1:Bt (fun q=>q=Bl∨q=Br∨W7.heap.size<=q) w10 (w10.setCell ⟨Bl,2,none⟩ (.slice Ay es9.length cy)):=Bt.set (Z:=fun q=>q=Bl∨q=Br∨W7.heap.size<=q) (p:=⟨Bl,2,none⟩) (Bt.refl _ _) (.inr (.inl rfl)) _
       have s1':Bt (fun q=>q=Bl) w10 (w10.setCell ⟨Bl,2,none⟩ (.slice Ay es9.length cy)):=Bt.set (Z:=fun q=>q=Bl) (p:=⟨Bl,2,none⟩) (Bt.refl _ _) (.inr rfl) _
       have hB3:=(((HR10.out.bt s1' hne').set 0 (.int .i64 n)).set 1 (.slice Av (qcs ls).length cv)).set 2 (.slice Ay es9.length cy)
       obtain ⟨Wf,hWf⟩:∃ Wf,(((w10.setCell ⟨Bl,2,none⟩ (.slice Ay es9.length cy)).setCell ⟨Br,0,none⟩ (.int .i64 n)).setCell ⟨Br,1,none⟩ (.slice Av (qcs ls).length cv)).setCell ⟨Br,2,none⟩ (.slice Ay es9.length cy)=Wf:=⟨_,rfl⟩
       have sAll:Bt (fun q=>q=Bl∨q=Br) w10 Wf:=by
        rw [<- hWf]
        exact Bt.set (Z:=fun q=>q=Bl∨q=Br) (p:=⟨Br,2,none⟩) (Bt.set (Z:=fun q=>q=Bl∨q=Br) (p:=⟨Br,1,none⟩) (Bt.set (Z:=fun q=>q=Bl∨q=Br) (p:=⟨Br,0,none⟩) (Bt.set (Z:=fun q=>q=Bl∨q=Br) (p:=⟨Bl,2,none⟩) (Bt.refl _ _) (.inr (.inl rfl)) _) (.inr (.inr rfl)) _) (.inr (.inr rfl)) _) (.inr (.inr rfl)) _
       rw [hWf] at hB3 ⊢
       have hAll:=HZ.out.trans (sAll.mono (Z':=fun q=>q=Bl∨q=Br∨W7.heap.size<=q) fun q _ h=>h.imp id .inl)
       have hm:=HM.out
       have hn':=HN.out
       have hz7:=HZ7.out
       refine bodyPost_ret (qmw rfl _ _ Br _ _ _ (.bool true) rfl rfl (hB3.cell 0 _) (hB3.cell 1 _) (hB3.cell 2 _)) rfl ⟨[.int .i64 n,.slice Av (qcs ls).length cv,.slice Ay es9.length cy],rfl,⟨hn,_,_,rfl,?_,?_⟩,?_⟩
       ·have h1:=qaa.good.mono (S':=fun b=>((base<=b∧b<w.heap.size)∨gr+1<=b)∧b<W7.heap.size) (hLr.out.sl RLb.good (by decide)) fun b hb h=>⟨h,hb⟩
        exact qaa.good.mono (qaa.good.move h1 (hAll.kp (S:=fun b=>((base<=b∧b<w.heap.size)∨gr+1<=b)∧b<W7.heap.size) fun q _ h h'=>by omega)) fun b _ h=>by have h:=h.1;omega
       ·rw [show (qh4 n ls es).es=es9 from HES.out]
        exact qb5.good.mono (qb5.good.move HE10.out (sAll.kp (S:=fun b=>False∨W7.heap.size<=b) fun q _ h h'=>by rcases h with h | h;exact h;omega)) fun b _ h=>by rcases h with h | h;exact h.elim;omega
       ·exact Bt.new (HX5.out.trans' HE7.out) hAll fun q _ h=>by omega
end
end Go.Proofs.YtegenalcheooeaaGreat
