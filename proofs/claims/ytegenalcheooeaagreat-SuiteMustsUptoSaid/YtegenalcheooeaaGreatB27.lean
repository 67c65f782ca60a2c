/- Of the proof of a law of the suites: LSlice, LSlice2, LUsed1, Verdicts. -/
import Derived.Test.YtegenalcheooeaaGreatB07
import Derived.Test.YtegenalcheooeaaGreatB09
import Derived.Test.YtegenalcheooeaaGreatB16
import Derived.Test.YtegenalcheooeaaGreatB18
import Derived.Test.YtegenalcheooeaaGreatB26
import Derived.Test.YtegenalcheooeaaGreatLaid
import Derived.Sort.WalkA
import Derived.Sort.LotA
import Derived.Lib.ReflectliteSwap
import Derived.Laws.Externs
import Derived.Lib.ReflectliteSlice
import Derived.Shelf.Lay
import Derived.Shelf.Small.Bits
import Derived.Ground.Names2Prog
import Derived.Maps.RangeRun
set_option linter.unusedSectionVars false
set_option linter.unusedSimpArgs false
set_option linter.unusedVariables false
namespace Go.Proofs.YtegenalcheooeaaGreat
open Go.RowKit
attribute [local go_sem] cell?_exto
section
open Go.Shelf Go.Sort Go.Lib
abbrev qex (base:Nat) (W:World) (d:Array Int) (g n c:Nat):Prop:=qab qac 1 3 base (fun _=>False) W d.toList (.slice (some ⟨g,0,none⟩) n c)
theorem qsf (d:Array Int) (i j:Nat) (hi:i<d.size) (hj:j<d.size):(swp d i j).toList=(d.toList.set i d[j]!).set j d[i]! := by
 simp [swp,Array.toList_setIfInBounds]
theorem swp_all {p:Int→Prop} {d:Array Int} {i j:Nat} (h:∀ x∈d.toList,p x) (hi:i<d.size) (hj:j<d.size):∀ x∈(swp d i j).toList,p x:=fun x hx=>by
 rw [qsf d i j hi hj] at hx
 have mi:d[i]! ∈ d.toList:=by rw [getElem!_pos d i hi];exact Array.mem_toList_iff.2 (Array.getElem_mem hi)
 have mj:d[j]! ∈ d.toList:=by rw [getElem!_pos d j hj];exact Array.mem_toList_iff.2 (Array.getElem_mem hj)
 rcases List.mem_or_eq_of_mem_set hx with hx | rfl
 ·rcases List.mem_or_eq_of_mem_set hx with hx | rfl
  ·exact h x hx
  ·exact h _ mj
 ·exact h _ mi
def qhx (lf:Nat) (lb:Array Value) (lt:Int→Int→Bool) (p:Int→Prop) (base g n c:Nat) (W0:World):Prop:=∀ (W:World) (dk:Array Int),Bt (fun q=>q=g) W0 W→qex base W dk g n c→dk.size=n→(∀ x∈dk.toList,p x)→∀ i j:Nat,i<n→j<n →
 Calls Tryz.prog lf (#[.int .i64 i,.int .i64 j]++lb) W fun e w'=>e = .returned (.bool (lt dk[i]! dk[j]!))∧Ext W w'
def SwapC (sf:Nat) (sb:Array Value) (base g n c:Nat):Prop:=∀ (W:World) (dk:Array Int),qex base W dk g n c→dk.size=n→∀ i j:Nat,i<n→j<n→i≠j →
 (callFunc sf (#[.int .i64 i,.int .i64 j]++sb)).run Tryz.prog W = .ok (.value (.tuple #[])) ((W.setCell ⟨g,i,none⟩ (.int .i64 dk[j]!)).setCell ⟨g,j,none⟩ (.int .i64 dk[i]!))
theorem qhx.on {lf:Nat} {lb:Array Value} {lt:Int→Int→Bool} {p:Int→Prop} {base g n c:Nat} {W0 W1:World} (h:qhx lf lb lt p base g n c W0) (hb:Bt (fun q=>q=g) W0 W1):qhx lf lb lt p base g n c W1 :=
 fun W dk h1 h2 h3 h4=>h W dk (hb.trans h1) h2 h3 h4
theorem qex.swap {base:Nat} {W:World} {dk:Array Int} {g n c:Nat} (h:qex base W dk g n c) (hn:dk.size=n) {i j:Nat} (hi:i<n) (hj:j<n):qex base ((W.setCell ⟨g,i,none⟩ (.int .i64 dk[j]!)).setCell ⟨g,j,none⟩ (.int .i64 dk[i]!)) (swp dk i j) g n c ∧
  Bt (fun q=>q=g) W ((W.setCell ⟨g,i,none⟩ (.int .i64 dk[j]!)).setCell ⟨g,j,none⟩ (.int .i64 dk[i]!)):=by
 have hI:=h.i64
 have mi:I64 dk[i]! := hI _ (by rw [getElem!_pos dk i (by omega)];exact Array.mem_toList_iff.2 (Array.getElem_mem _))
 have mj:I64 dk[j]! := hI _ (by rw [getElem!_pos dk j (by omega)];exact Array.mem_toList_iff.2 (Array.getElem_mem _))
 have h1:=qab.put1 qac.good h (by simpa using hn.symm) i (.int .i64 dk[j]!) dk[j]! (by simpa using (by omega:i<dk.size)) ⟨rfl,mj⟩
 have h2:=qab.put1 qac.good h1 (by simpa using hn.symm) j (.int .i64 dk[i]!) dk[i]! (by simpa using (by omega:j<dk.size)) ⟨rfl,mi⟩
 rw [← qsf dk i j (by omega) (by omega)] at h2
 exact ⟨h2,Bt.set (Z:=fun q=>q=g) (p:=⟨g,j,none⟩) (Bt.set (Z:=fun q=>q=g) (p:=⟨g,i,none⟩) (Bt.refl _ _) (.inr rfl) _) (.inr rfl) _⟩
set_option maxHeartbeats 1000000 in
set_option maxRecDepth 100000 in
theorem qvl (lf:Nat) (lb:Array Value) (sf:Nat) (sb:Array Value) (lt:Int→Int→Bool) (p:Int→Prop) (base g n c:Nat) (d:Array Int) (w:World) (el:∀ args w,(callFunc lf args).run Tryz.prog w = .ok (.enter lf args) w)
  (hless:qhx lf lb lt p base g n c w) (hswap:SwapC sf sb base g n c) (hrow:qex base w d g n c) (hd:d.size=n) (hp:∀ x∈d.toList,p x) (hn:n≤1000) (hg:g<w.heap.size) :
  Calls Tryz.prog 298 #[.agg #[.func (.func lf) #[] lb,.func (.func sf) #[] sb],.int .i64 0,.int .i64 n] w fun e w'=>e = .returned (.tuple #[])∧(qex base w' (insertionSort lt d 0 n) g n c∧(∀ x∈(insertionSort lt d 0 n).toList,p x)∧(insertionSort lt d 0 n).size=n)∧Bt (fun q=>q=g) w w':=by
 have HR:=Hd hrow
 have HP:=Hd hp
 clear hrow hp
 go_enter Tryz.func298,Tryz.ntmps298
 go_wp2_with fail
 obtain ⟨W1,hW1⟩:∃ W1,w.alloc (.cells #[.func (.func lf) #[] lb,.func (.func sf) #[] sb] 299)=W1:=⟨_,rfl⟩
 have hX1:Ext w W1:=by rw [← hW1];exact (Ext.refl w).alloc _
 have b0:W1.cell? ⟨w.heap.size,0,none⟩=some (.func (.func lf) #[] lb):=by rw [← hW1];simp
 have b1:W1.cell? ⟨w.heap.size,1,none⟩=some (.func (.func sf) #[] sb):=by rw [← hW1];simp
 have HR1:=Hd (HR.out.ext qac.good hX1)
 have hl1:=hless.on hX1.bt
 rw [hW1]
 clear hW1 hless
 have hgw:¬ (w.heap.size=g):=by omega
 go_loopw [6] (fun vi wr=>∃ (i:Nat) (dk:Array Int),vi = .int .i64 i∧1≤i∧i≤n+1∧dk.size=n∧Hid (qex base wr dk g n c)∧Hid (∀ x∈dk.toList,p x)∧Hid (Bt (fun q=>q=g) W1 wr)∧Hid (insOuter lt 0 n i dk=insOuter lt 0 n 1 d)) (fun vi _=>n+1-(intOf vi).toNat)
 case atStart=>exact ⟨1,d,rfl,Nat.le_refl _,by omega,hd,HR1.out,HP.out,Bt.refl _ _,rfl⟩
 case round =>
  obtain ⟨i,dk,rfl,hi1,hin,hsk,hrk,hpk,hbk,hok⟩:=hrel
  by_cases hlt:i<n
  ·go_wp2_with fail
   go_loopw [7] (fun vj wr2=>∃ (j:Nat) (dj:Array Int),vj = .int .i64 j∧j≤i∧dj.size=n∧Hid (qex base wr2 dj g n c)∧Hid (∀ x∈dj.toList,p x)∧Hid (Bt (fun q=>q=g) W1 wr2)∧Hid (insInner lt 0 j dj=insInner lt 0 i dk)) (fun vj _=>(intOf vj).toNat)
   case atStart=>exact ⟨i,dk,rfl,Nat.le_refl _,hsk,hrk,hpk,hbk,rfl⟩
   case round =>
    obtain ⟨j,dj,rfl,hji,hsj,hrj,hpj,hbj,hij⟩:=hrel
    have c0:=hbj.out.cell b0 hgw
    have c1:=hbj.out.cell b1 hgw
    have out:(j≤0∨lt dj[j]! dj[j-1]! = false)→insOuter lt 0 n (i+1) dj=insOuter lt 0 n 1 d:=fun hs=>by
     rw [← hok.out,insOuter_go _ _ _ _ _ hlt,← hij.out,insInner_stop _ _ _ _ hs]
    by_cases hja:0<j
    ·have hl:=hl1 wr dj hbj.out hrj.out hsj hpj.out j (j-1) (by omega) (by omega)
     rw [show (((j-1:Nat):Int))=(j:Int)-1 by omega] at hl
     cases hlv:lt dj[j]! dj[j-1]! with
     | true =>
      rw [hlv] at hl
      have HIJ:Hid (insInner lt 0 (j-1) (swp dj j (j-1))=insInner lt 0 i dk):=by show _=_;rw [← hij.out];exact (insInner_go lt 0 j dj hja hlv).symm
      clear out hij
      have hs0:=fun w' (hx:Ext wr w')=>hswap w' dj (hrj.out.ext qac.good hx) hsj j (j-1) (by omega) (by omega) (by omega)
      rw [show (((j-1:Nat):Int))=(j:Int)-1 by omega] at hs0
      have HS0:=Hd hs0
      clear hs0
      go_wp2_with (go_at_fn lf;refine hl.mono ?_;rintro e w' ⟨rfl,hx⟩;have c1':=Ext.keep hx c1)
      rw [HS0.out w' hx,Oper.upon_value]
      have hro:=qex.swap (hrj.out.ext qac.good hx) hsj (i:=j) (j:=j-1) (by omega) (by omega)
      have HRO:=Hd hro
      have HPO:=Hd (swp_all hpj.out (i:=j) (j:=j-1) (by omega) (by omega))
      clear hro
      go_wp2_with fail
      go_roundw
      case rel=>exact ⟨j-1,swp dj j (j-1),by go_num,by omega,by rw [← hsj];simp [swp],HRO.out.1,HPO.out,(hbj.out.ext hx).trans HRO.out.2,HIJ.out⟩
      case measure=>simp [intOf];omega
     | false =>
      rw [hlv] at hl
      have HO:=Hd (out (.inr hlv))
      clear out hij
      go_wp2_with (go_at_fn lf;refine hl.mono ?_;rintro e w' ⟨rfl,hx⟩)
      go_roundw
      case rel=>exact ⟨i+1,dj,by go_num,by omega,by omega,hsj,hrj.out.ext qac.good hx,hpj,hbj.out.ext hx,HO.out⟩
      case measure=>simp [intOf];omega
    ·have HO:=Hd (out (.inl (by omega)))
     clear out hij
     go_wp2_with fail
     go_roundw
     case rel=>exact ⟨i+1,dj,by go_num,by omega,by omega,hsj,hrj,hpj,hbj,HO.out⟩
     case measure=>simp [intOf];omega
  ·have HF:Hid (insertionSort lt d 0 n=dk):=by
    show _=_
    unfold Sort.insertionSort
    rw [← hok.out,insOuter_stop _ _ _ _ _ hlt]
   clear hok
   go_wp2_with fail
   go_end0
   rw [HF.out]
   exact ⟨rfl,⟨hrk.out,hpk.out,hsk⟩,hX1.bt.trans hbk.out⟩
end
section
set_option maxHeartbeats 1000000
set_option maxRecDepth 100000
/- sort.Slice at no more than twelve whole numbers: walked. -/
open Go.Shelf Go.Sort Go.Lib
theorem pdq_c (lf:Nat) (lb:Array Value) (sf:Nat) (sb:Array Value) (lt:Int→Int→Bool) (p:Int→Prop) (base g n c:Nat) (lim:Int) (d:Array Int) (w:World) (el:∀ args w,(callFunc lf args).run Tryz.prog w = .ok (.enter lf args) w)
  (hless:qhx lf lb lt p base g n c w) (hswap:SwapC sf sb base g n c) (hrow:qex base w d g n c) (hd:d.size=n) (hp:∀ x∈d.toList,p x) (hn:n≤12) (hg:g<w.heap.size) :
  Calls Tryz.prog 277 #[.agg #[.func (.func lf) #[] lb,.func (.func sf) #[] sb],.int .i64 0,.int .i64 n,.int .i64 lim] w fun e w'=>e = .returned (.tuple #[])∧(qex base w' (insertionSort lt d 0 n) g n c∧(∀ x∈(insertionSort lt d 0 n).toList,p x)∧(insertionSort lt d 0 n).size=n)∧Bt (fun q=>q=g) w w':=by
 have hX:Ext w (w.alloc (.cells #[.func (.func lf) #[] lb,.func (.func sf) #[] sb] 299)):=(Ext.refl w).alloc _
 have hins:=qvl lf lb sf sb lt p base g n c d _ el (hless.on hX.bt) hswap (hrow.ext qac.good hX) hd hp (by omega) (Nat.lt_of_lt_of_le hg hX.size)
 have y1:IntKind.i64.wrap (n:Int)=n:=IntWalk.i64_in _ (by omega)
 clear hless hswap hrow hp
 go_enter Tryz.func277,Tryz.ntmps277
 go_wp2_with fail
 refine wp_loop_rounds 1 ?_
 rw [rounds_succ]
 go_wp2_with fail
 refine hins.mono ?_
 rintro e w' ⟨rfl,h1,h2⟩
 have H1:=Hd h1
 have H2:=Hd h2
 clear h1 h2 hins
 go_wp2_with fail
 exact bodyPost_ret (results_none rfl _ _ _) rfl ⟨rfl,H1.out,hX.bt.trans H2.out⟩
theorem info53:∃ i,Tryz.prog.info? 53=some i∧i.desc = .slice 3:=by
 have h:(Tryz.prog.info? 53).map (fun i=>i.desc)=some (.slice 3):=by kernel_rfl
 obtain ⟨i,h1,h2⟩:=Option.map_eq_some_iff.1 h
 exact ⟨i,h1,h2⟩
theorem info3s:∃ i,Tryz.prog.info? 3=some i∧i.desc = .int .i64∧i.str = "int" ∧ i.size=1∧∀ n,2≤n→swapperK n i 2=5:=by
 have h:(Tryz.prog.info? 3).map (fun i=>(i.desc,i.str,i.size,i.hasPointers,i.bytes))=some (.int .i64,"int",1,false,8):=by kernel_rfl
 obtain ⟨i,h1,h2⟩:=Option.map_eq_some_iff.1 h
 simp only [Prod.mk.injEq] at h2
 refine ⟨i,h1,h2.1,h2.2.1,h2.2.2.1,fun n hn=>?_⟩
 have h0:(n == 0)=false:=by simp;omega
 have h1:(n == 1)=false:=by simp;omega
 simp [swapperK,h0,h1,h2.2.2.2.1,h2.2.2.2.2]
theorem slice_c (lf:Nat) (lb:Array Value) (lt:Int→Int→Bool) (p:Int→Prop) (base g n c:Nat) (d:Array Int) (w:World) (el:∀ args w,(callFunc lf args).run Tryz.prog w = .ok (.enter lf args) w)
  (hless:qhx lf lb lt p base g n c w) (hrow:qex base w d g n c) (hd:d.size=n) (hp:∀ x∈d.toList,p x) (hn:n≤12) (hg:g<w.heap.size) :
  Calls Tryz.prog 246 #[.iface 53 (.slice (some ⟨g,0,none⟩) n c),.func (.func lf) #[] lb] w fun e w'=>e = .returned (.tuple #[])∧(qex base w' (insertionSort lt d 0 n) g n c∧(∀ x∈(insertionSort lt d 0 n).toList,p x)∧(insertionSort lt d 0 n).size=n)∧Bt (fun q=>q=g) w w':=by
 obtain ⟨i,hi,hdesc⟩:=info53
 obtain ⟨ie,hie,hde,hstr,hsz,hsk⟩:=info3s
 have hke:∀ w,(Extern.Rtype.kind 3).run Tryz.prog w = .ok 2 w:=fun w=>by
  simp [Extern.Rtype.kind,Extern.Rtype.under,rl_info 3 ie hie,hde,hstr,Result.andThen]
 have hagg:∀ w,(isAgg 3).run Tryz.prog w = .ok false w:=fun w=>by
  simp [isAgg,underlying,Tryz.underlying3,Result.andThen]
 have hfk:∃ f,Tryz.prog.funcs.findIdx? (·.name == "internal/reflectlite" ++ ".Swapper$" ++ toString (swapperK n ie 2))=some f∧SwapC f (if swapperK n ie 2≤2 then #[] else #[.slice (some ⟨g,0,none⟩) n c,typeHandle Tryz.prog 3]) base g n c:=by
  by_cases h2:2≤n
  ·rw [hsk n h2]
   refine ⟨293,by kernel_rfl,?_⟩
   intro W dk hr hk i' j' hi' hj' hij
   obtain ⟨u,hu,⟨e1,_⟩,fu⟩:=hr.get1 i' (by simpa using (by omega:i'<dk.size))
   obtain ⟨u',hu',⟨e2,_⟩,fu'⟩:=hr.get1 j' (by simpa using (by omega:j'<dk.size))
   injection e1 with e1
   injection e2 with e2
   subst e1 e2
   rw [run_callFunc_extern Tryz.func293 (by kernel_rfl) (by kernel_rfl) (by kernel_rfl) (e:=Extern.ReflectliteSwapper.swap true) (by kernel_rfl)]
   have hsw:=run_swap_one (P:=Tryz.prog) true 3 ie hie hsz hagg g 0 n c i' j' hi' hj' _ _ rfl rfl W (by rw [Nat.zero_add];exact hu) (by rw [Nat.zero_add];exact hu') (by rw [Nat.zero_add];exact fu) (by rw [Nat.zero_add];exact fu')
   have hi2:dk.toList[i']'(by simpa using (by omega:i'<dk.size))=dk[i']! := by rw [getElem!_pos dk i' (by omega)];simp
   have hj2:dk.toList[j']'(by simpa using (by omega:j'<dk.size))=dk[j']! := by rw [getElem!_pos dk j' (by omega)];simp
   rw [hi2,hj2,Nat.zero_add,Nat.zero_add] at hsw
   simp only [show ¬ (5≤2) by omega,if_false]
   show Result.andThen (Sem.run Tryz.prog (Extern.ReflectliteSwapper.swap true #[.int .i64 i',.int .i64 j',.slice (some ⟨g,0,none⟩) n c,typeHandle Tryz.prog 3]) W) _=_
   rw [hsw]
   rfl
  ·have:n=0∨n=1:=by omega
   rcases this with rfl | rfl
   ·exact ⟨289,by kernel_rfl,fun W dk _ _ i j hi=>absurd hi (by omega)⟩
   ·exact ⟨290,by kernel_rfl,fun W dk _ _ i j hi hj hij=>absurd hij (by omega)⟩
 obtain ⟨f,hf,hsw⟩:=hfk
 have hv:=run_valueOf_slice (P:=Tryz.prog) 53 3 i hi hdesc (some ⟨g,0,none⟩) n c w
 have hs:=fun w=>run_swapper_slice (P:=Tryz.prog) 53 3 i ie hi hdesc hie 2 hke (some ⟨g,0,none⟩) n c f hf w
 have hl:=fun a w ha=>run_valueLen_slice (P:=Tryz.prog) 53 3 i hi hdesc (by kernel_rfl) a (some ⟨g,0,none⟩) n c w ha
 have hb:=fun w=>Any.bits_Len Tryz.laysBits (n:Int) w (by omega) (by omega)
 change ∀ w,Calls Tryz.prog 118 _ w _ at hb
 obtain ⟨B,hB⟩:∃ B:Array Value,(if swapperK n ie 2≤2 then #[] else #[.slice (some ⟨g,0,none⟩) n c,typeHandle Tryz.prog 3])=B:=⟨_,rfl⟩
 rw [hB] at hsw hs
 clear hB
 have hgl:Tryz.prog.globals.size=0:=by kernel_rfl
 simp only [typeHandle,hgl] at hv hl
 have wr:IntKind.u64.wrap (n:Int)=n:=by simp [IntKind.wrap,IntKind.bits,IntKind.signed];omega
 have hX:Ext w ((w.alloc (.cells #[.slice (some ⟨g,0,none⟩) n c] 53)).alloc (.cells #[.pointer (some ⟨0,53,none⟩),.pointer (some ⟨w.heap.size,0,none⟩),.int .u64 151] 292)):=((Ext.refl w).alloc _).alloc _
 have hpd:=pdq_c lf lb f B lt p base g n c (Lib.bitLen n) d _ el (hless.on hX.bt) hsw (hrow.ext qac.good hX) hd hp hn (Nat.lt_of_lt_of_le hg hX.size)
 have HX:=Hd hX
 clear hless hrow hp hX
 go_enter Tryz.func246,Tryz.ntmps246
 go_wp2_with fail
 rw [run_callFunc_extern Tryz.func274 (by kernel_rfl) (by kernel_rfl) (by kernel_rfl) (e:=fun args=>Extern.ReflectliteValue.unpack (args.getD 0 (.tuple #[]))) (by kernel_rfl),
  show Sem.run Tryz.prog ((fun args:Array Value=>Extern.ReflectliteValue.unpack (args.getD 0 (.tuple #[]))) #[.iface 53 (.slice (some ⟨g,0,none⟩) n c)]) w=_ from hv]
 simp only [Result.andThen]
 rw [Oper.upon_value]
 go_wp2_with fail
 rw [run_callFunc_extern Tryz.func275 (by kernel_rfl) (by kernel_rfl) (by kernel_rfl) (e:=Extern.ReflectliteSwapper.swapper "internal/reflectlite" (Extern.ReflectliteValue.valueError "Swapper")) (by kernel_rfl),hs]
 simp only [Result.andThen]
 rw [Oper.upon_value]
 go_wp2_with fail
 rw [run_callFunc_extern Tryz.func276 (by kernel_rfl) (by kernel_rfl) (by kernel_rfl) (e:=Extern.ReflectliteValue.method (Extern.ReflectliteValue.valueError "reflectlite.Value.Len" 0) Extern.ReflectliteValue.len) (by kernel_rfl),
  hl _ _ (by simp)]
 simp only [Result.andThen]
 rw [Oper.upon_value]
 go_wp2_with fail
 refine (hb _).mono ?_
 rintro e w' ⟨rfl,rfl⟩
 go_wp2_with fail
 refine hpd.mono ?_
 rintro e w' ⟨rfl,h1,h2⟩
 have H1:=Hd h1
 have H2:=Hd h2
 clear h1 h2 hpd
 go_wp2_with fail
 go_end0
 exact ⟨rfl,H1.out,HX.out.bt.trans H2.out⟩
end
section
open Go.Shelf
def qe7 (ls:List Lb) (x:Int):Lb:=(ls[x.toNat]?).getD ⟨0,[]⟩
theorem qnm (ls:List Lb) (i:Nat) (h:i<ls.length):qe7 ls (i:Int)=ls[i]:=by simp [qe7,h]
def ltIx (ls:List Lb) (x y:Int):Bool:=decide (qao (qe7 ls x) (qe7 ls y)<0)
set_option maxHeartbeats 1000000 in
set_option maxRecDepth 100000 in
theorem lessIx_c (S:Nat→Prop) (ls:List Lb) (A:Option Addr) (cl Bp Bo B g n c i j ix jx:Nat) (W:World) (hi:i<n) (hj:j<n) (hix:ix<ls.length) (hjx:jx<ls.length) (hn:n≤1000000)
  (c0:W.cell? ⟨Bp,0,none⟩=some (.pointer (some ⟨B,0,none⟩))) (c1:W.cell? ⟨Bo,0,none⟩=some (.slice (some ⟨g,0,none⟩) n c)) (c2:W.cell? ⟨B,1,none⟩=some (.slice A ls.length cl))
  (ci:W.cell? ⟨g,i,none⟩=some (.int .i64 ix)) (cj:W.cell? ⟨g,j,none⟩=some (.int .i64 jx)) (hls:qaa S W ls [.slice A ls.length cl]) :
  Calls Tryz.prog 247 #[.int .i64 i,.int .i64 j,.pointer (some ⟨Bp,0,none⟩),.pointer (some ⟨Bo,0,none⟩)] W fun e w'=>e = .returned (.bool (decide (qao ls[ix] ls[jx]<0)))∧Ext W w':=by
 obtain ⟨A',c',e,hlc,hc0⟩:=hls.val
 injection e with e1 e2 e3
 obtain ⟨b,off,cs,rfl,hb,hS,hl,hr,hcell⟩:=hls.get ix hix
 obtain ⟨_,v1,rfl,hv1⟩:=id hr
 obtain ⟨b',off',cs',he,hb',hS',hl',hr',hcell'⟩:=hls.get jx hjx
 injection he with he
 injection he with he1 he2
 subst he1 he2
 obtain ⟨_,v2,rfl,hv2⟩:=id hr'
 have g0:=hcell.get 0 _
 have g1:=hcell.get 1 _
 have g0':=hcell'.get 0 _
 have g1':=hcell'.get 1 _
 simp only [Nat.add_zero] at g0 g0'
 have hcmp:=fun W' (hW:Ext W W')=>qop S _ _ _ _ W' (RLb.good.bel hr hW) (RLb.good.bel hr' hW)
 have hL:(ls.length:Int)≤9223372036854775807:=by omega
 obtain ⟨x,hx⟩:∃ x,ls[ix]=x:=⟨_,rfl⟩
 obtain ⟨y,hy⟩:∃ y,ls[jx]=y:=⟨_,rfl⟩
 rw [hx,hy] at hcmp ⊢
 rw [hx] at g0
 rw [hy] at g0'
 clear hcell hcell' hl hl' hr hr' hv1 hv2 hS hS' hls hx hy e1 e2 e3
 go_enter Tryz.func247,Tryz.ntmps247
 go_wp2_with fail
 (refine qaw (by kernel_rfl) (by kernel_rfl) ?_;(repeat (first | go_big_quiet_step ((go_at_call 57;exact qav (hcmp _ (qa8 _ _)))) | quiet_step ((go_at_call 57;exact qav (hcmp _ (qa8 _ _))))));refine wpQuiet_nil ?_)
 intro w1 hx1
 go_wp2_with fail
 go_ret
 exact ⟨rfl,bel⟩
end
section
open Go.Shelf
def qfr (s:Sy) (t:Te) (n:Int):Bool:=if n=1 then passB s t else if n=2 then qcq s t else qhc s t
def qe8 (s:Sy) (t:Te):List Int:=[1,2,3].filter (qfr s t)
def qdk (s:Sy) (t:Te) (seen:List Nat):List Int:=(seen.map fun i:Nat=>(i:Int)+1).filter (qfr s t)
theorem sortI_of {xs l:List Int} (hp:xs.Perm l) (hs:Srt qag l):qeb xs=l:=by
 refine qm3 ordI ((qiq xs).trans hp) ?_ hs
 have h:=qkg xs
 exact h.imp fun {a b} h=>by
  have h':a≤b:=h
  unfold qag
  split
  ·omega
  ·split <;> omega
theorem outV_all (s:Sy) (t:Te) (seen:List Nat) (hn:seen.Nodup) (h3:∀ x∈seen,x<3) (ha:∀ i,i<3→i∈seen):qeb (qdk s t seen)=qe8 s t:=by
 refine sortI_of ?_ ?_
 ·have hp:seen.Perm [0,1,2]:=by
   rw [List.perm_ext_iff_of_nodup hn (by decide)]
   intro x
   constructor
   ·intro hx
    have:=h3 x hx
    simp
    omega
   ·intro hx
    refine ha x ?_
    simp at hx
    omega
  exact (hp.map _).filter _
 ·exact List.Pairwise.filter _ (show Srt qag [1,2,3] from by unfold Srt;decide)
theorem seen_len {seen:List Nat} (hn:seen.Nodup) (h3:∀ x∈seen,x<3):seen.length≤3:=by
 have hp:seen.Perm ([0,1,2].filter fun x=>decide (x∈seen)):=by
  rw [List.perm_ext_iff_of_nodup hn (List.Pairwise.filter _ (by decide))]
  intro x
  constructor
  ·intro hx
   have:=h3 x hx
   simp [hx]
   omega
  ·intro hx
   simpa using (List.mem_filter.1 hx).2
 rw [hp.length_eq]
 exact List.length_filter_le _ _
theorem VM_left {seen:List Nat} (h:(leftOf VM seen.toArray).size=0):∀ i,i<3→i∈seen:=by
 intro i hi
 have h':leftOf VM seen.toArray = #[]:=Array.eq_empty_of_size_eq_zero h
 unfold leftOf at h'
 rw [Array.filter_eq_empty_iff] at h'
 match i,hi with
 | 0,_=>simpa using h' { key:=.int .i64 1,val:=.func (.func 168) #[] #[],born:=0 } (by simp [VM])
 | 1,_=>simpa using h' { key:=.int .i64 2,val:=.func (.func 170) #[] #[],born:=1 } (by simp [VM])
 | 2,_=>simpa using h' { key:=.int .i64 3,val:=.func (.func 171) #[] #[],born:=2 } (by simp [VM])
theorem VM_at (s:Sy) (hok:qai s) (g:Nat) (t:Te) (v u:Value) (hn:NTe t) (seen:List Nat) (e:MapEntry) (he:e∈(leftOf VM seen.toArray).toList) :
  ∃ i f:Nat,i<3∧i∉seen∧e={ key:=.int .i64 ((i:Int)+1),val:=.func (.func f) #[] #[],born:=i }∧(∀ args w,(callFunc f args).run Tryz.prog w = .ok (.enter f args) w) ∧
   ∀ w,qau (fun _=>True) w g s→qaa (fun _=>True) w t.tr [v]→qaa (fun _=>True) w t.mu [u]→Calls Tryz.prog f #[.pointer (some ⟨g,0,none⟩),.agg #[v,u]] w fun e w'=>e = .returned (.bool (qfr s t ((i:Int)+1)))∧Ext w w':=by
 simp only [leftOf,Array.mem_toList_iff,Array.mem_filter] at he
 obtain ⟨h1,h2⟩:=he
 simp only [VM,List.mem_toArray,List.mem_cons,List.not_mem_nil,or_false] at h1
 rcases h1 with rfl | rfl | rfl
 ·exact ⟨0,168,by decide,by simpa using h2,rfl,enters_of Tryz.func168 (by kernel_rfl) rfl,fun w hS h1 h2=>pass_c _ s hok g t v u w hS h1 h2 hn.1 hn.2⟩
 ·exact ⟨1,170,by decide,by simpa using h2,rfl,enters_of Tryz.func170 (by kernel_rfl) rfl,fun w hS h1 h2=>fail_c _ s hok g t v u w hS h1 h2 hn.1 hn.2⟩
 ·exact ⟨2,171,by decide,by simpa using h2,rfl,enters_of Tryz.func171 (by kernel_rfl) rfl,fun w hS h1 h2=>open_c _ s hok g t v u w hS h1 h2 hn.1⟩
theorem VM_next (s:Sy) (hok:qai s) (g:Nat) (t:Te) (v u:Value) (hn:NTe t) (w W:World) (r m:Nat) (seen:List Nat) (ty:TypeId) (hE:Ext w W) (hr:w.heap.size≤r) (hi:W.heap[r]? = some (.mapIter (some m) 3 seen.toArray 3)) (hm:W.heap[m]? = some (.map VM 3)) :
  ((∀ i,i<3→i∈seen)∧(Instr.next (.pointer (some ⟨r,0,none⟩)) false ty).run Tryz.prog W = .ok (.tuple #[.bool false]) W) ∨
  ∃ (i f:Nat) (W':World),i<3∧i∉seen∧(∀ args w,(callFunc f args).run Tryz.prog w = .ok (.enter f args) w) ∧
   (Instr.next (.pointer (some ⟨r,0,none⟩)) false ty).run Tryz.prog W = .ok (.tuple #[.bool true,.int .i64 ((i:Int)+1),.func (.func f) #[] #[]]) W' ∧
   (Instr.entry (.pointer (some ⟨r,0,none⟩))).run Tryz.prog W' = .ok (.tuple #[.int .i64 ((i:Int)+1),.func (.func f) #[] #[]]) W' ∧
   (∀ w,qau (fun _=>True) w g s→qaa (fun _=>True) w t.tr [v]→qaa (fun _=>True) w t.mu [u]→Calls Tryz.prog f #[.pointer (some ⟨g,0,none⟩),.agg #[v,u]] w fun e w'=>e = .returned (.bool (qfr s t ((i:Int)+1)))∧Ext w w') ∧
   Bt (fun q=>q=r) W W'∧W'.heap.size=W.heap.size∧W'.heap[r]? = some (.mapIter (some m) 3 (seen++[i]).toArray 3):=by
 rcases run_next_at (P:=Tryz.prog) W ty r m 3 3 seen.toArray VM 3 hi hm (by decide) (Nat.le_refl _) with ⟨h0,h1⟩ | ⟨e,he,w1,hw1,hrun⟩
 ·exact .inl ⟨VM_left h0,h1⟩
 ·right
  obtain ⟨i,f,hi3,hs,rfl,eg,hc⟩:=VM_at s hok g t v u hn seen e he
  have hsz:r<W.heap.size:=(Array.getElem?_eq_some_iff.1 hi).1
  have hw1h:w1.heap=W.heap:=by rcases hw1 with rfl | rfl <;> rfl
  have hw1o:w1.os=W.os∧w1.tape=W.tape∧w1.output=W.output:=by rcases hw1 with rfl | rfl <;> exact ⟨rfl,rfl,rfl⟩
  have hne:m≠r:=by
   rintro rfl
   rw [hi] at hm
   cases hm
  have hrr:(ChangeMaps.setBlock w1 r (.mapIter (some m) 3 (seen.toArray.push i) 3)).heap[r]? = some (.mapIter (some m) 3 (seen.toArray.push i) 3):=by
   simp [ChangeMaps.setBlock,hw1h,hsz]
  have hmm:(ChangeMaps.setBlock w1 r (.mapIter (some m) 3 (seen.toArray.push i) 3)).heap[m]? = some (.map VM 3):=by
   rw [← hm]
   simp [ChangeMaps.setBlock,hw1h,Array.getElem?_setIfInBounds,Ne.symm hne]
  refine ⟨i,f,_,hi3,hs,eg,hrun,run_entry_at _ r m 3 seen.toArray VM 3 { key:=.int .i64 ((i:Int)+1),val:=.func (.func f) #[] #[],born:=i } hrr hmm ?_ (by decide),hc,⟨hw1o.1,hw1o.2.1,hw1o.2.2,by simp [ChangeMaps.setBlock,hw1h],fun k hk hkr=>?_⟩,by simp [ChangeMaps.setBlock,hw1h],?_⟩
  ·simp only [leftOf,Array.mem_toList_iff,Array.mem_filter] at he
   simpa using he.1
  ·have:r≠k:=fun e=>hkr e.symm
   simp [ChangeMaps.setBlock,hw1h,Array.getElem?_setIfInBounds,this]
  ·rw [hrr]
   simp
theorem rsl_oneTe {S:Nat→Prop} {w:World} {t:Te} {v u:Value} (ht:RTe S w t [v,u]) {n:Nat} (hn:n=w.heap.size) (hS:S w.heap.size):RSl RTe 2 S (w.alloc (.cells #[v,u] 40)) [t] [.slice (some ⟨n,0,none⟩) 1 1]:=by
 subst hn
 exact ⟨_,1,rfl,by simp,by decide,.inr ⟨w.heap.size,0,rfl,by simp,hS,⟨[v,u],rfl,RTe.good.bel ht ((Ext.refl w).alloc _),fun i x h=>by have:=qei w #[v,u] 40 i x h;rwa [Addr.add_lit] at this⟩,trivial⟩⟩
open Classical in
noncomputable def qem (s:Sy) (t:Te):List Int:=if qa3 s [t]=0 then qe8 s t else []
def qor (r:List Int) (err:Int) (w:World) (e:Ending) (w':World):Prop:=∃ A c,e = .returned (.tuple #[.slice A r.length c,.int .i64 err])∧qab qac 1 3 w.heap.size (fun _=>False) w' r (.slice A r.length c)∧Ext w w'
set_option maxHeartbeats 1000000 in
set_option maxRecDepth 100000 in
theorem qu3 (S:Nat→Prop) (s:Sy) (cs cst:List Value) (t:Te) (w:World) (hx:RSy S w s cs) (ht:RTe S w t cst) :
  Calls Tryz.prog 31 #[.agg cst.toArray,.agg cs.toArray] w (qor (qem s t) (qa3 s [t]) w):=by
 obtain ⟨vt,vu,rfl,hvt,hvu⟩:=id ht
 have hak:=fun W (hW:Ext w W) v (hv:RSl RTe 2 (fun _=>True) W [t] [v])=>qki (fun _=>True) s cs [t] v W (RSy.good.bel (RSy.good.mono hx fun _ _ _=>trivial) hW) hv
 have hte:=fun W (hW:Ext w W) n (hn:n=W.heap.size)=>rsl_oneTe (S:=fun _=>True) (RTe.good.bel (RTe.good.mono ht fun _ _ _=>trivial) hW) hn trivial
 obtain ⟨_,vl,ve,rfl,hvl,hve⟩:=id hx
 obtain ⟨Al,cl,rfl,_,_⟩:=hvl.val
 obtain ⟨Ae,ce,rfl,_,_⟩:=hve.val
 obtain ⟨A,c,rfl,hc,hc0⟩:=hvt.val
 obtain ⟨A',c',rfl,hc',hc0'⟩:=hvu.val
 have HTR:=Hd hvt
 have HMU:=Hd hvu
 clear hx ht hvl hve hvt hvu
 by_cases hE:qa3 s [t]=0
 case neg =>
  have hv:qem s t=[]:=if_neg hE
  rw [hv]
  obtain ⟨er,her⟩:∃ er,qa3 s [t]=er:=⟨_,rfl⟩
  rw [her] at hak hE ⊢
  have hE':(er == 0)=false:=beq_eq_false_iff_ne.2 hE
  clear her hv
  go_enter Tryz.func31,Tryz.ntmps31
  go_wp2_with fail
  refine (hak _ bel _ (hte _ bel _ (by simp))).mono ?_
  rintro e w1 ⟨_,h1⟩
  obtain ⟨rfl,hx1⟩:=h1 hE
  have hX1:Ext w w1:=bel
  clear h1 hx1
  go_wp2_with fail
  go_ret2
  exact ⟨none,0,rfl,qab.nil ..,hX1⟩
 have hv:qem s t=qe8 s t:=if_pos hE
 have hok:=(qf1 hE).1
 have hn:NTe t:=NTe.of_test ((qf1 hE).2.2 t (by simp))
 rw [hv,hE]
 rw [hE] at hak
 obtain ⟨i3,hi3,hzz⟩:=Option.map_eq_some_iff.1 qlh
 simp only [Prod.mk.injEq] at hzz
 obtain ⟨hz0,hz1,hz2⟩:=hzz
 clear hE hv
 go_enter Tryz.func31,Tryz.ntmps31
 go_wp2_with fail
 refine (hak _ bel _ (hte _ bel _ (by simp))).mono ?_
 rintro e w1 ⟨h1,_⟩
 obtain ⟨g,rfl,hx1,hg,hS⟩:=h1 rfl
 have hX1:Ext w w1:=bel
 have b1:w1.cell? ⟨w.heap.size,0,none⟩=some (.slice A t.tr.length c):=Ext.keep hx1 (by go_simp)
 have b2:w1.cell? ⟨w.heap.size,1,none⟩=some (.slice A' t.mu.length c'):=Ext.keep hx1 (by go_simp)
 have HS:=Hd (hS.mono (S':=fun _=>True) fun _ _ _=>trivial)
 clear h1 hx1 hg hS hak
 go_wp2_with fail
 refine (qp5 _).mono ?_
 rintro e w2 ⟨m,rfl,hm,hm',h2⟩
 have hrange:=run_range_map (P:=Tryz.prog) w2 136 3 138 m VM 3 Tryz.underlying136 hm
 have hX2:Ext w w2:=hX1.trans' h2
 have b1:=Ext.keep h2 b1
 have b2:=Ext.keep h2 b2
 have HS:=Hd (HS.out.bel h2)
 have hmlt:m<w2.heap.size:=(Array.getElem?_eq_some_iff.1 hm).1
 go_wp2_with fail
 have hit:(w2.alloc (.mapIter (some m) 3 #[] 3)).heap[w2.heap.size]? = some (.mapIter (some m) 3 #[] 3):=World.alloc_heap_new w2 _
 have hXa:Ext w2 (w2.alloc (.mapIter (some m) 3 #[] 3)):=(Ext.refl _).alloc _
 have hsa:(w2.alloc (.mapIter (some m) 3 #[] 3)).heap.size=w2.heap.size+1:=World.size_alloc ..
 have HM:=Hd hm
 obtain ⟨wa,hwa⟩:∃ wa,w2.alloc (.mapIter (some m) 3 #[] 3)=wa:=⟨_,rfl⟩
 rw [hwa] at hit hXa hsa ⊢
 clear hwa hrange hm
 go_loopw [8] (fun vo wr=>∃ (seen:List Nat) (A:Option Addr) (c:Nat),vo = .slice A (qdk s t seen).length c∧qab qac 1 3 wa.heap.size (fun _=>False) wr (qdk s t seen) (.slice A (qdk s t seen).length c)∧Hid (seen.Nodup∧(∀ x∈seen,x<3)∧wr.heap[w2.heap.size]? = some (.mapIter (some m) 3 seen.toArray 3))∧Ext w2 wr∧wa.heap.size≤wr.heap.size) (fun _ wr=>match wr.heap[w2.heap.size]? with | some (.mapIter _ _ seen _)=>([0,1,2].filter fun i=>decide (i∉seen.toList)).length | _=>0)
 case atStart=>exact ⟨[],none,0,rfl,qab.nil ..,⟨List.nodup_nil,by simp,hit⟩,hXa,Nat.le_refl _⟩
 case round =>
  obtain ⟨seen,Ar,cr,rfl,hown,hseen,hE,hsz⟩:=hrel
  have HO:=Hd hown
  clear hown
  rcases VM_next s hok g t (.slice A t.tr.length c) (.slice A' t.mu.length c') hn w2 wr w2.heap.size m seen 0 hE (Nat.le_refl _) hseen.out.2.2 ((hE.block _ hmlt).trans HM.out) with ⟨hall,hnx⟩ | ⟨i,f,W3,hi3',hns,eg,hnx,hen,hcon,hb3,hsz3,hr3⟩
  ·have hfin:Hid (qeb (qdk s t seen)=qe8 s t):=outV_all s t seen hseen.out.1 hseen.out.2.1 hall
   clear hall
   have hl3:(qdk s t seen).length<4611686018427387904:=by rw [← qlo,hfin.out];have:=List.length_filter_le (qfr s t) [1,2,3];simp only [List.length_cons,List.length_nil] at this;show ([1,2,3].filter (qfr s t)).length<_;omega
   go_wp2_with fail
   refine (qmg _ _ _ _ wr HO.out hl3).mono ?_
   rintro e w4 ⟨rfl,ho4,hb4⟩
   have HO4:=Hd ho4
   clear ho4
   go_wp2_with fail
   go_ret2
   have hlen:(qdk s t seen).length=(qe8 s t).length:=by rw [← hfin.out,qlo]
   refine ⟨Ar,cr,by rw [← hlen];rfl,?_,?_⟩
   ·rw [← hlen,← hfin.out]
    exact HO4.out.base (by have:=hX2.size;omega)
   ·exact Bt.new (hX2.trans' hE) hb4 fun k _ hk=>by
     obtain ⟨news,h2,_⟩:=HO.out
     have:=(qbt h2 k hk).1
     have:=hX2.size
     omega
  ·have hEX:Ext w2 W3:=Bt.new hE hb3 fun k _ hk=>by have hk':k=w2.heap.size:=hk;omega
   have hO3:qab qac 1 3 wa.heap.size (fun _=>False) W3 (qdk s t seen) (.slice Ar (qdk s t seen).length cr):=HO.out.keep qac.good (fun k hk h=>hb3.block k hk (by have:=h.resolve_left id;omega)) hb3.size
   have HO3:=Hd hO3
   have hc2:=hcon
   have x1:=Ext.keep hEX b1
   have x2:=Ext.keep hEX b2
   have hXW:Ext w W3:=hX2.trans' hEX
   have hcon2:=fun X (hX:Ext W3 X)=>hcon X (HS.out.bel (hEX.trans' hX)) (qaa.good.bel (qaa.good.mono HTR.out fun _ _ _=>trivial) (hXW.trans' hX)) (qaa.good.bel (qaa.good.mono HMU.out fun _ _ _=>trivial) (hXW.trans' hX))
   have hst:qdk s t (seen++[i])=if qfr s t ((i:Int)+1) then qdk s t seen++[(i:Int)+1] else qdk s t seen:=by
    unfold qdk
    rw [List.map_append,List.filter_append]
    simp only [List.map_cons,List.map_nil,List.filter_cons,List.filter_nil]
    split <;> simp
   have hr3':=Hd hr3
   have hms:Hid ((([0,1,2].filter fun j=>decide (j∉(seen++[i]).toArray.toList)).length<([0,1,2].filter fun j=>decide (j∉seen.toArray.toList)).length)) :=
    qk4 (fun j=>decide (j∉(seen++[i]).toArray.toList)) (fun j=>decide (j∉seen.toArray.toList)) (fun x hx=>by
     simp at hx ⊢;exact hx.1) [0,1,2] i (by simp;omega) (by simp) (by simpa using hns)
   have hsn:=Hd (show (seen++[i]).Nodup∧∀ x∈seen++[i],x<3 from ⟨by
    rw [List.nodup_append]
    exact ⟨hseen.out.1,by simp,by intro x hx y hy;simp at hy;subst hy;exact fun e=>hns (e ▸ hx)⟩,fun x hx=>by
    rcases List.mem_append.1 hx with h | h
    ·exact hseen.out.2.1 x h
    ·rw [List.mem_singleton.1 h];exact hi3'⟩)
   have hI:I64 ((i:Int)+1):=⟨by omega,by omega⟩
   have hlo:(qdk s t seen).length≤3:=by have:=seen_len hseen.out.1 hseen.out.2.1;unfold qdk;exact Nat.le_trans (List.length_filter_le _ _) (by simpa using this)
   have hsO:=Hd hseen.out.2.2
   clear hc2 hcon hseen hb3 hr3 hO3
   cases hv:qfr s t ((i:Int)+1) with
   | false =>
    rw [hv] at hcon2 hst
    have hst2:Hid (qdk s t (seen++[i])=qdk s t seen):=by show _=_;rw [hst];rfl
    clear hst hv
    go_wp2_with fail
    refine (hcon2 _ bel).mono ?_
    rintro e w4 ⟨rfl,h4⟩
    have hz4:=h4.size
    go_wp2_with fail
    go_roundw
    case rel=>exact ⟨seen++[i],Ar,cr,by rw [hst2.out],by rw [hst2.out];exact HO3.out.ext qac.good h4,⟨hsn.out.1,hsn.out.2,(h4.block _ (by omega)).trans hr3'.out⟩,hEX.trans' h4,by omega⟩
    case measure =>
     rw [(h4.block _ (by omega)).trans hr3'.out,hsO.out]
     exact hms.out
   | true =>
    rw [hv] at hcon2 hst
    have hst2:Hid (qdk s t (seen++[i])=qdk s t seen++[(i:Int)+1]):=by show _=_;rw [hst];rfl
    clear hst hv
    go_wp2_with fail
    refine (hcon2 _ bel).mono ?_
    rintro e w4 ⟨rfl,h4⟩
    have hz4:=h4.size
    obtain ⟨news4,hrow4,hF4⟩:=HO3.out.ext qac.good (h4.alloc (.cells #[.int .i64 ((i:Int)+1)] 3))
    have HF:=Hd hF4
    clear hF4
    go_wp2_with (at_builtin;refine wpList_append_own_at _ rfl _ _ 53 rfl wa.heap.size 3 i3 (.int .i64 0) 1 8 Tryz.underlying53 hi3 hz0 hz1 hz2 rfl (by decide) _ _ _ rfl hrow4 ⟨w4.heap.size,0,none⟩ 1 1 [.int .i64 ((i:Int)+1)] rfl rfl (cell_one_new _ _ _) (by simp [Value.oneCell']) (by unfold maxLen;omega) (by omega) (by simp;omega) ?_;intro v5 w5 hown5 hgrow5 hnil5 hat5;obtain ⟨g5,c5,rfl⟩:=ownsRow_succ hown5)
    have hp5:=Hd (qab.push qac.good HF.out (Flat.single (⟨rfl,hI⟩:qac _ _ ((i:Int)+1) _) rfl) hown5 hgrow5 hat5)
    have hX5:Ext w2 w5:=Below.grown ((hEX.trans' h4).alloc _) hgrow5 (by simp;omega) fun q hq=>by have:=(qbt hrow4 q hq).1;omega
    have hr5:w5.heap[w2.heap.size]? = some (.mapIter (some m) 3 (seen++[i]).toArray 3):=(hgrow5.block _ (by simp;omega) (fun e=>by have:=(qbt hrow4 _ e.symm).1;omega)).trans ((Below.heap_alloc _ _ _ (by omega)).trans ((h4.block _ (by omega)).trans hr3'.out))
    have hz5:=hgrow5.size
    have HR5:=Hd hr5
    clear hown5 hgrow5 hat5 hnil5 hrow4 hr5
    go_wp2_with fail
    go_roundw
    case rel=>exact ⟨seen++[i],some ⟨g5,0,none⟩,c5,by rw [hst2.out,List.length_append];rfl,by rw [hst2.out,List.length_append];exact hp5.out,⟨hsn.out.1,hsn.out.2,HR5.out⟩,hX5,by simp at hz5;omega⟩
    case measure =>
     rw [HR5.out,hsO.out]
     exact hms.out
end
end Go.Proofs.YtegenalcheooeaaGreat
