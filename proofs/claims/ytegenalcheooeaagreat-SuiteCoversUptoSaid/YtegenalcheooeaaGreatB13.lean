/- Of the proof of a law of the suites: LSlice, LSlice2, LUsed1, LSortE, LCompE, LUsed2. -/
import Derived.Test.YtegenalcheooeaaGreatB03
import Derived.Test.YtegenalcheooeaaGreatB08
import Derived.Test.YtegenalcheooeaaGreatB10
import Derived.Test.YtegenalcheooeaaGreatB12
import Derived.Test.YtegenalcheooeaaGreatLaid
import Derived.Sort.WalkA
import Derived.Sort.LotA
import Derived.Lib.ReflectliteSwap
import Derived.Laws.Externs
import Derived.Lib.ReflectliteSlice
import Derived.Shelf.Lay
import Derived.Shelf.Small.Bits
import Derived.Ground.Names2Prog
import Derived.Shelf.SlSortCmp.WholeK
import Derived.Shelf.SlSortCmp.NoneTotal
import Derived.Lib.OwnBridge
import Derived.Laws.StructEq
set_option linter.unusedSectionVars false
set_option linter.unusedSimpArgs false
set_option linter.unusedVariables false
namespace Go.Proofs.YtegenalcheooeaaGreat
open Go.RowKit
attribute [local go_sem] cell?_exto
set_option maxHeartbeats 16000000
set_option maxRecDepth 100000
section
open Go.Shelf Go.Sort Go.Lib
abbrev qbv (base:Nat) (W:World) (d:Array Int) (g n c:Nat):Prop:=qab qad 1 3 base (λ_=>False) W d.toList (.slice (some ⟨g,0,none⟩) n c)
theorem qwk (d:Array Int) (i j:Nat) (hi:i<d.size) (c:j<d.size):(swp d i j).toList=(d.toList.set i d[j]!).set j d[i]! := by
 simp[swp,Array.toList_setIfInBounds]
theorem qpm {p:Int->Prop} {d:Array Int} {i j:Nat} (h:∀x∈d.toList,p x) (hi:i<d.size) (m:j<d.size):∀x∈(swp d i j).toList,p x:=λx c=>by
 rw[qwk d i j hi m]at c;have u:d[i]! ∈ d.toList:=by rw[getElem!_pos d i hi];exact Array.mem_toList_iff.2 (Array.getElem_mem hi)
 have A:d[j]! ∈ d.toList:=by rw[getElem!_pos d j m];exact Array.mem_toList_iff.2 (Array.getElem_mem m)
 rcases List.mem_or_eq_of_mem_set c with c | rfl
 .rcases List.mem_or_eq_of_mem_set c with c | rfl
  .exact h x c
  exact h _ A
 exact h _ u
def qey (lf:Nat) (lb:Array Value) (lt:Int->Int->Bool) (p:Int->Prop) (base g n c:Nat) (W0:World):Prop:=∀(W:World) (dk:Array Int),Bt (λq=>q=g) W0 W->qbv base W dk g n c->dk.size=n->(∀x∈dk.toList,p x)->∀i j:Nat,i<n->j<n ->
 Calls Tryz.prog lf (#[.int .i64 i,.int .i64 j]++lb) W λe w'=>e = .returned (.bool (lt dk[i]! dk[j]!))/\Ext W w'
def qhv (sf:Nat) (sb:Array Value) (base g n c:Nat):Prop:=∀(W:World) (dk:Array Int),qbv base W dk g n c->dk.size=n->∀i j:Nat,i<n->j<n->2<=n ->
 (callFunc sf (#[.int .i64 i,.int .i64 j]++sb)).run Tryz.prog W = .ok (.value (.tuple #[])) ((W.setCell ⟨g,i,none⟩ (.int .i64 dk[j]!)).setCell ⟨g,j,none⟩ (.int .i64 dk[i]!))
theorem qey.on {d:Nat} {lb:Array Value} {lt:Int->Int->Bool} {p:Int->Prop} {base g n c:Nat} {W0 m:World} (h:qey d lb lt p base g n c W0) (u:Bt (λq=>q=g) W0 m):qey d lb lt p base g n c m :=
 λW D G A E F=>h W D (u.trans G) A E F
theorem qbv.swap {base:Nat} {W:World} {d:Array Int} {g n c:Nat} (h:qbv base W d g n c) (hn:d.size=n) {i j:Nat} (hi:i<n) (F:j<n):qbv base ((W.setCell ⟨g,i,none⟩ (.int .i64 d[j]!)).setCell ⟨g,j,none⟩ (.int .i64 d[i]!)) (swp d i j) g n c /\
  Bt (λq=>q=g) W ((W.setCell ⟨g,i,none⟩ (.int .i64 d[j]!)).setCell ⟨g,j,none⟩ (.int .i64 d[i]!)):=by
 have u:=h.i64;have A:I64 d[i]! := u _ (by rw[getElem!_pos d i (by omega)];exact Array.mem_toList_iff.2 (Array.getElem_mem _));have E:I64 d[j]! := u _ (by rw[getElem!_pos d j (by omega)];exact Array.mem_toList_iff.2 (Array.getElem_mem _));have D:=qab.put1 qad.good h (by simpa using hn.symm) i (.int .i64 d[j]!) d[j]! (by simpa using (by omega:i<d.size)) ⟨rfl,E⟩;have m:=qab.put1 qad.good D (by simpa using hn.symm) j (.int .i64 d[i]!) d[i]! (by simpa using (by omega:j<d.size)) ⟨rfl,A⟩;rw[<- qwk d i j (by omega) (by omega)]at m;exact⟨m,Bt.set (Z:=λq=>q=g) (p:=⟨g,j,none⟩) (Bt.set (Z:=λq=>q=g) (p:=⟨g,i,none⟩) (Bt.refl _ _) (.inr rfl) _) (.inr rfl) _⟩
theorem qrw (U:Nat) (lb:Array Value) (sf:Nat) (sb:Array Value) (lt:Int->Int->Bool) (p:Int->Prop) (base g n c a b:Nat) (d:Array Int) (w:World) (el:∀args w,(callFunc U args).run Tryz.prog w = .ok (.enter U args) w)
  (F:qey U lb lt p base g n c w) (X:qhv sf sb base g n c) (O:qbv base w d g n c) (hd:d.size=n) (hp:∀x∈d.toList,p x) (hn:n<=1000) (av:a<=b) (ap:b<=n) (hg:g<w.heap.size) :
  Calls Tryz.prog 298 #[.agg #[.func (.func U) #[] lb,.func (.func sf) #[] sb],.int .i64 a,.int .i64 b] w λe w'=>e = .returned (.tuple #[])/\(qbv base w' (insertionSort lt d a b) g n c/\(∀x∈(insertionSort lt d a b).toList,p x)/\(insertionSort lt d a b).size=n)/\Bt (λq=>q=g) w w':=by
 have HR:=Hd O;have HP:=Hd hp;clear O hp
 go_enter Tryz.func298,Tryz.ntmps298
 go_wp2_with fail
 obtain⟨W1,E⟩:=nm (w.alloc (.cells #[.func (.func U) #[] lb,.func (.func sf) #[] sb] 299));have Y:Ext w W1:=by rw[<- E];exact(Ext.refl w).alloc _
 have b0:W1.cell? ⟨w.heap.size,0,none⟩=some (.func (.func U) #[] lb):=by rw[<- E];simp
 have b1:W1.cell? ⟨w.heap.size,1,none⟩=some (.func (.func sf) #[] sb):=by rw[<- E];simp
 have al:=Hd (HR.out.ext qad.good Y);have ao:=F.on Y.bt;rw[E];clear E F;have af:¬ (w.heap.size=g):=by omega
 go_loopw [6] (λvi wr=>∃(i:Nat) (L:Array Int),vi = .int .i64 i/\a+1<=i/\i<=b+1/\L.size=n/\Hid (qbv base wr L g n c)/\Hid (∀x∈L.toList,p x)/\Hid (Bt (λq=>q=g) W1 wr)/\Hid (insOuter lt a b i L=insOuter lt a b (a+1) d)) (λvi _=>b+1-(intOf vi).toNat)
 case atStart=>exact⟨a+1,d,by go_num,Nat.le_refl _,by omega,hd,al.out,HP.out,Bt.refl _ _,rfl⟩
 obtain⟨i,L,rfl,aq,aw,ag,ah,ae,ab,aa⟩:=hrel
 by_cases ai:i<b
 .go_wp2_with fail
  go_loopw [7] (λvj ac=>∃(j:Nat) (m:Array Int),vj = .int .i64 j/\j<=i/\m.size=n/\Hid (qbv base ac m g n c)/\Hid (∀x∈m.toList,p x)/\Hid (Bt (λq=>q=g) W1 ac)/\Hid (insInner lt a j m=insInner lt a i L)) (λvj _=>(intOf vj).toNat)
  case atStart=>exact⟨i,L,rfl,Nat.le_refl _,ag,ah,ae,ab,rfl⟩
  obtain⟨j,m,rfl,ax,u,I,J,A,D⟩:=hrel;have c0:=A.out.cell b0 af;have c1:=A.out.cell b1 af
  have G:(j<=a\/lt m[j]! m[j-1]! = false)->insOuter lt a b (i+1) m=insOuter lt a b (a+1) d:=λhs=>by
   rw[<- aa.out,insOuter_go _ _ _ _ _ ai,<- D.out,insInner_stop _ _ _ _ hs]
  by_cases aj:a<j
  .have hl:=ao wr m A.out I.out u J.out j (j-1) (by omega) (by omega);rw[show(((j-1:Nat):Int))=(j:Int)-1 by omega]at hl
   cases N:lt m[j]! m[j-1]! with
   | true =>
    rw[N]at hl;have an:Hid (insInner lt a (j-1) (swp m j (j-1))=insInner lt a i L):=by show _=_;rw[<- D.out];exact(insInner_go lt a j m aj N).symm
    clear G D;have V:=λw' (M:Ext wr w')=>X w' m (I.out.ext qad.good M) u j (j-1) (by omega) (by omega) (by omega)
    rw[show(((j-1:Nat):Int))=(j:Int)-1 by omega]at V;have am:=Hd V;clear V
    go_wp2_with (go_at_fn U;refine hl.mono ?_;rintro e w' ⟨rfl,M⟩;have au:=Ext.keep M c1)
    rw[am.out w' M,Oper.upon_value];have ad:=Hd (qbv.swap (I.out.ext qad.good M) u (i:=j) (j:=j-1) (by omega) (by omega));have ak:=Hd (qpm J.out (i:=j) (j:=j-1) (by omega) (by omega))
    go_wp2_with fail
    go_roundw
    case rel=>exact⟨j-1,swp m j (j-1),by go_num,by omega,by rw[<- u];simp[swp],ad.out.1,ak.out,(A.out.ext M).trans ad.out.2,an.out⟩
    simp[intOf];omega
   | false =>
    rw[N]at hl;have HO:=Hd (G (.inr N));clear G D
    go_wp2_with (go_at_fn U;refine hl.mono ?_;rintro e w' ⟨rfl,M⟩)
    go_roundw
    case rel=>exact⟨i+1,m,by go_num,by omega,by omega,u,I.out.ext qad.good M,J,A.out.ext M,HO.out⟩
    simp[intOf];omega
  have HO:=Hd (G (.inl (by omega)));clear G D
  go_wp2_with fail
  go_roundw
  case rel=>exact⟨i+1,m,by go_num,by omega,by omega,u,I,J,A,HO.out⟩
  simp[intOf];omega
 have HF:Hid (insertionSort lt d a b=L):=by
  show _=_;unfold Sort.insertionSort;rw[<- aa.out,insOuter_stop _ _ _ _ _ ai]
 clear aa
 go_wp2_with fail
 go_end0
 rw[HF.out];exact⟨rfl,⟨ah.out,ae.out,ag⟩,Y.bt.trans ab.out⟩
end
section
/- sort.Slice at whole numbers,by what its quick sort does;at no more than twelve: walked. -/
open Go.Shelf Go.Sort Go.Lib
theorem pdq_c (E:Nat) (lb:Array Value) (I:Nat) (G:Array Value) (lt:Int->Int->Bool) (p:Int->Prop) (base g n c a b:Nat) (J:Int) (d:Array Int) (w:World) (Y:∀args w,(callFunc E args).run Tryz.prog w = .ok (.enter E args) w)
  (u:qey E lb lt p base g n c w) (m:qhv I G base g n c) (D:qbv base w d g n c) (hd:d.size=n) (O:∀x∈d.toList,p x) (hn:n<=1000) (M:a<=b) (L:b<=n) (N:b<=a+12) (hg:g<w.heap.size) :
  Calls Tryz.prog 277 #[.agg #[.func (.func E) #[] lb,.func (.func I) #[] G],.int .i64 a,.int .i64 b,.int .i64 J] w λe w'=>e = .returned (.tuple #[])/\(qbv base w' (insertionSort lt d a b) g n c/\(∀x∈(insertionSort lt d a b).toList,p x)/\(insertionSort lt d a b).size=n)/\Bt (λq=>q=g) w w':=by
 have F:Ext w (w.alloc (.cells #[.func (.func E) #[] lb,.func (.func I) #[] G] 299)):=(Ext.refl w).alloc _;have A:=qrw E lb I G lt p base g n c a b d _ Y (u.on F.bt) m (D.ext qad.good F) hd O hn M L (Nat.lt_of_lt_of_le hg F.size);have y1:((b:Int)-(a:Int)<=12):=by omega
 have HX:=Hd F;clear u m D O F
 go_enter Tryz.func277,Tryz.ntmps277
 go_wp2_with fail
 refine wp_loop_rounds 1 ?_;rw[rounds_succ]
 go_wp2_with fail
 refine A.mono ?_;rintro e w' ⟨rfl,V,U⟩;have X:=Hd V;have H2:=Hd U;clear V U A
 go_wp2_with fail
 exact bodyPost_ret (results_none rfl _ _ _) rfl ⟨rfl,X.out,HX.out.bt.trans H2.out⟩
theorem info53:∃i,Tryz.prog.info? 53=some i/\i.desc = .slice 3:=by
 have h:(Tryz.prog.info? 53).map (λi=>i.desc)=some (.slice 3):=by kernel_rfl
 obtain⟨i,d,c⟩:=Option.map_eq_some_iff.1 h;exact⟨i,d,c⟩
theorem info3s:∃i,Tryz.prog.info? 3=some i/\i.desc = .int .i64/\i.str = "int" /\ i.size=1/\∀n,2<=n->swapperK n i 2=5:=by
 have h:(Tryz.prog.info? 3).map (λi=>(i.desc,i.str,i.size,i.hasPointers,i.bytes))=some (.int .i64,"int",1,false,8):=by kernel_rfl
 obtain⟨i,d,c⟩:=Option.map_eq_some_iff.1 h;simp only[Prod.mk.injEq]at c;refine⟨i,d,c.1,c.2.1,c.2.2.1,λn hn=>?_⟩;have m:(n == 0)=false:=by simp;omega
 have d:(n == 1)=false:=by simp;omega
 simp[swapperK,m,d,c.2.2.2.1,c.2.2.2.2]
def qks (base g n c:Nat) (p:Int->Prop) (d':Array Int) (w:World) (e:Ending) (w':World):Prop:=e = .returned (.tuple #[])/\(qbv base w' d' g n c/\(∀x∈d'.toList,p x)/\d'.size=n)/\Bt (λq=>q=g) w w'
theorem qsn (lf:Nat) (lb:Array Value) (p:Int->Prop) (base g n c:Nat) (d d':Array Int) (w:World)
  (hq:∀(f:Nat) (B:Array Value),qhv f B base g n c->∀W,Ext w W->Calls Tryz.prog 277 #[.agg #[.func (.func lf) #[] lb,.func (.func f) #[] B],.int .i64 0,.int .i64 n,.int .i64 (Lib.bitLen n)] W (qks base g n c p d' W))
  (J:qbv base w d g n c) (hd:d.size=n) (hn:n<=16) (hg:g<w.heap.size) :
  Calls Tryz.prog 246 #[.iface 53 (.slice (some ⟨g,0,none⟩) n c),.func (.func lf) #[] lb] w (qks base g n c p d' w):=by
 obtain⟨i,hi,m⟩:=info53;obtain⟨I,G,aj,M,V,af⟩:=info3s
 have ac:∀w,(Extern.Rtype.kind 3).run Tryz.prog w = .ok 2 w:=λw=>by
  simp[Extern.Rtype.kind,Extern.Rtype.under,rl_info 3 I G,aj,M,Result.andThen]
 have N:∀w,(isAgg 3).run Tryz.prog w = .ok false w:=λw=>by
  simp[isAgg,underlying,Tryz.underlying3,Result.andThen]
 have ad:∃f,Tryz.prog.funcs.findIdx? (·.name == "internal/reflectlite" ++ ".Swapper$" ++ toString (swapperK n I 2))=some f/\qhv f (if swapperK n I 2<=2 then #[] else #[.slice (some ⟨g,0,none⟩) n c,typeHandle Tryz.prog 3]) base g n c:=by
  by_cases O:2<=n
  .rw [af n O];refine⟨293,by kernel_rfl,?_⟩;intro W A hr hk E F ai ab _;obtain⟨u,hu,⟨e1,_⟩,fu⟩:=hr.get1 E (by simpa using (by omega:E<A.size));obtain⟨u',U,⟨e2,_⟩,ae⟩:=hr.get1 F (by simpa using (by omega:F<A.size));injection e1 with e1
   injection e2 with e2
   subst e1 e2;rw[run_callFunc_extern Tryz.func293 (by kernel_rfl) (by kernel_rfl) (by kernel_rfl) (e:=Extern.ReflectliteSwapper.swap true) (by kernel_rfl)];have D:=run_swap_one (P:=Tryz.prog) true 3 I G V N g 0 n c E F ai ab _ _ rfl rfl W (by rw[Nat.zero_add];exact hu) (by rw[Nat.zero_add];exact U) (by rw[Nat.zero_add];exact fu) (by rw[Nat.zero_add];exact ae);have ah:A.toList[E]'(by simpa using (by omega:E<A.size))=A[E]! := by rw[getElem!_pos A E (by omega)];simp
   have aa:A.toList[F]'(by simpa using (by omega:F<A.size))=A[F]! := by rw[getElem!_pos A F (by omega)];simp
   rw[ah,aa,Nat.zero_add,Nat.zero_add]at D;simp only[show ¬ (5<=2) by omega,if_false];show Result.andThen (Sem.run Tryz.prog (Extern.ReflectliteSwapper.swap true #[.int .i64 E,.int .i64 F,.slice (some ⟨g,0,none⟩) n c,typeHandle Tryz.prog 3]) W) _=_;rw[D];rfl
  have:n=0\/n=1:=by omega
  rcases this with rfl | rfl
  .exact ⟨289,by kernel_rfl,λW A _ _ i j hi=>absurd hi (by omega)⟩
  exact⟨290,by kernel_rfl,λW A _ _ i j hi hj Y=>absurd Y (by omega)⟩
 obtain⟨f,hf,D⟩:=ad;have hv:=run_valueOf_slice (P:=Tryz.prog) 53 3 i hi m (some ⟨g,0,none⟩) n c w;have hs:=λw=>run_swapper_slice (P:=Tryz.prog) 53 3 i I hi m G 2 ac (some ⟨g,0,none⟩) n c f hf w
 have hl:=λa w ha=>run_valueLen_slice (P:=Tryz.prog) 53 3 i hi m (by kernel_rfl) a (some ⟨g,0,none⟩) n c w ha
 have hb:=λw=>Any.bits_Len Tryz.laysBits (n:Int) w (by omega) (by omega)
 change ∀w,Calls Tryz.prog 118 _ w _ at hb;obtain⟨B,hB⟩:∃B:Array Value,(if swapperK n I 2<=2 then #[] else #[.slice (some ⟨g,0,none⟩) n c,typeHandle Tryz.prog 3])=B:=⟨_,rfl⟩
 rw[hB]at D hs;clear hB;have ag:Tryz.prog.globals.size=0:=by kernel_rfl
 simp only[typeHandle,ag]at hv hl;have wr:IntKind.u64.wrap (n:Int)=n:=by simp[IntKind.wrap,IntKind.bits,IntKind.signed];omega
 have X:Ext w ((w.alloc (.cells #[.slice (some ⟨g,0,none⟩) n c] 53)).alloc (.cells #[.pointer (some ⟨0,53,none⟩),.pointer (some ⟨w.heap.size,0,none⟩),.int .u64 151] 292)):=((Ext.refl w).alloc _).alloc _;have L:=hq f B D _ X;have HX:=Hd X;clear hq J X
 go_enter Tryz.func246,Tryz.ntmps246
 go_wp2_with fail
 rw[run_callFunc_extern Tryz.func274 (by kernel_rfl) (by kernel_rfl) (by kernel_rfl) (e:=λargs=>Extern.ReflectliteValue.unpack (args.getD 0 (.tuple #[]))) (by kernel_rfl),
  show Sem.run Tryz.prog ((λargs:Array Value=>Extern.ReflectliteValue.unpack (args.getD 0 (.tuple #[]))) #[.iface 53 (.slice (some ⟨g,0,none⟩) n c)]) w=_ from hv]
 simp only[Result.andThen];rw[Oper.upon_value]
 go_wp2_with fail
 rw[run_callFunc_extern Tryz.func275 (by kernel_rfl) (by kernel_rfl) (by kernel_rfl) (e:=Extern.ReflectliteSwapper.swapper "internal/reflectlite" (Extern.ReflectliteValue.valueError "Swapper")) (by kernel_rfl),hs];simp only[Result.andThen];rw[Oper.upon_value]
 go_wp2_with fail
 rw[run_callFunc_extern Tryz.func276 (by kernel_rfl) (by kernel_rfl) (by kernel_rfl) (e:=Extern.ReflectliteValue.method (Extern.ReflectliteValue.valueError "reflectlite.Value.Len" 0) Extern.ReflectliteValue.len) (by kernel_rfl),
  hl _ _ (by simp)]
 simp only[Result.andThen];rw[Oper.upon_value]
 go_wp2_with fail
 refine(hb _).mono ?_;rintro e w' ⟨rfl,rfl⟩
 go_wp2_with fail
 refine L.mono ?_;rintro e w' ⟨rfl,h1,O⟩;have H1:=Hd h1;have H2:=Hd O;clear h1 O L
 go_wp2_with fail
 go_end0
 exact⟨rfl,H1.out,HX.out.bt.trans H2.out⟩
theorem slice_c (A:Nat) (lb:Array Value) (lt:Int->Int->Bool) (p:Int->Prop) (base g n c:Nat) (d:Array Int) (w:World) (J:∀args w,(callFunc A args).run Tryz.prog w = .ok (.enter A args) w)
  (u:qey A lb lt p base g n c w) (m:qbv base w d g n c) (G:d.size=n) (I:∀x∈d.toList,p x) (hn:n<=12) (F:g<w.heap.size) :
  Calls Tryz.prog 246 #[.iface 53 (.slice (some ⟨g,0,none⟩) n c),.func (.func A) #[] lb] w (qks base g n c p (insertionSort lt d 0 n) w) :=
 qsn A lb p base g n c d _ w (λf B E W D=>pdq_c A lb f B lt p base g n c 0 n (Lib.bitLen n) d W J (u.on D.bt) E (m.ext qad.good D) G I (by omega) (Nat.zero_le _) (Nat.le_refl _) (by omega) (Nat.lt_of_lt_of_le F D.size)) m G (by omega) F
end
section
open Go.Shelf
def qbg (ls:List Lb) (x:Int):Lb:=(ls[x.toNat]?).getD ⟨0,[]⟩
theorem qfd (c:List Lb) (i:Nat) (h:i<c.length):qbg c (i:Int)=c[i]:=by simp[qbg,h]
def ltIx (ls:List Lb) (x y:Int):Bool:=decide (qak (qbg ls x) (qbg ls y)<0)
theorem lessIx_c (S:Nat->Prop) (D:List Lb) (A:Option Addr) (cl Bp Bo B g n c i j I G:Nat) (W:World) (hi:i<n) (hj:j<n) (L:I<D.length) (O:G<D.length) (hn:n<=1000000)
  (c0:W.cell? ⟨Bp,0,none⟩=some (.pointer (some ⟨B,0,none⟩))) (c1:W.cell? ⟨Bo,0,none⟩=some (.slice (some ⟨g,0,none⟩) n c)) (c2:W.cell? ⟨B,1,none⟩=some (.slice A D.length cl))
  (ci:W.cell? ⟨g,i,none⟩=some (.int .i64 I)) (cj:W.cell? ⟨g,j,none⟩=some (.int .i64 G)) (E:qaa S W D [.slice A D.length cl]) :
  Calls Tryz.prog 247 #[.int .i64 i,.int .i64 j,.pointer (some ⟨Bp,0,none⟩),.pointer (some ⟨Bo,0,none⟩)] W λe w'=>e = .returned (.bool (decide (qak D[I] D[G]<0)))/\Ext W w':=by
 obtain⟨A',c',e,ah,ag⟩:=E.val;injection e with e1 e2 e3
 obtain⟨b,ac,cs,rfl,hb,hS,hl,hr,m⟩:=E.get I L;obtain⟨_,v1,rfl,Y⟩:=id hr;obtain⟨b',aa,ae,U,ab,X,V,F,d⟩:=E.get G O;injection U with U
 injection U with he1 he2
 subst he1 he2;obtain⟨_,v2,rfl,N⟩:=id F;have g0:=m.get 0 _;have g1:=m.get 1 _;have J:=d.get 0 _;have ad:=d.get 1 _;simp only[Nat.add_zero]at g0 J;have u:=λW' (hW:Ext W W')=>qoh S _ _ _ _ W' (RLb.good.bel hr hW) (RLb.good.bel F hW)
 have hL:(D.length:Int)<=9223372036854775807:=by omega
 obtain⟨x,M⟩:=nm (D[I]);obtain⟨y,hy⟩:=nm (D[G]);rw[M,hy]at u ⊢;rw[M]at g0;rw[hy]at J;clear m d hl V hr F Y N hS X E M hy e1 e2 e3
 go_enter Tryz.func247,Tryz.ntmps247
 go_wp2_with fail
 (refine qap ?_;(repeat (first | go_big_quiet_step ((go_at_call 57;exact qaq (u _ (qa7 _ _)))) | quiet_step ((go_at_call 57;exact qaq (u _ (qa7 _ _))))));refine wpQuiet_nil ?_)
 intro w1 af
 go_wp2_with fail
 go_ret;exact⟨rfl,bel⟩
end
section
open Go.Shelf Go.Sort Go.Lib
theorem qk8 (x y:Ed):qbf x y<0↔x.f<y.f\/(x.f=y.f/\(x.l<y.l\/(x.l=y.l/\x.t<y.t))):=by
 unfold qbf;simp only[orI];unfold qai
 repeat' split
 all_goals omega
theorem quv (x y:Ed):qbf x y=0↔x.f=y.f/\x.l=y.l/\x.t=y.t:=by
 unfold qbf;simp only[orI];unfold qai
 repeat' split
 all_goals omega
theorem qfc:qda qbf:={
 sgn x y:=by
  have d:=qk8 x y;have c:=qk8 y x;have m:=quv y x;omega
 eq x y h:=by
  have:=(quv x y).1 h;obtain⟨f,l,t⟩:=x;obtain⟨A,u,D⟩:=y;simp only at this;rw[this.1,this.2.1,this.2.2]
 trans x y z d c:=by
  rw[qk8]at *
  omega }
abbrev EI:={ e:Ed // I64 e.f/\I64 e.l/\I64 e.t }
instance (n:Int):Decidable (I64 n):=by unfold I64;infer_instance
instance:Inhabited EI:=⟨⟨⟨0,0,0⟩,by decide,by decide,by decide⟩⟩
def qc5 (x:EI):List Value:=[.int .i64 x.1.f,.int .i64 x.1.l,.int .i64 x.1.t]
theorem eg98:∀args w,(callFunc 98 args).run Tryz.prog w = .ok (.enter 98 args) w:=enters_of Tryz.func98 (by kernel_rfl) rfl
theorem aE88:∀w,(isAgg 88).run Tryz.prog w = .ok true w:=λw=>by simp[isAgg,underlying,Tryz.underlying88,Result.andThen]
theorem zE88:∀w,(Go.sizeOf 88).run Tryz.prog w = .ok 3 w:=λw=>by
 obtain⟨i,hi,c⟩:=Option.map_eq_some_iff.1 qrj;simp only[Prod.mk.injEq]at c;simp[sizeOf,rl_info 88 i hi,c.2.1,Result.andThen]
theorem toEI:∀{l:List Ed},(∀x∈l,I64 x.f/\I64 x.l/\I64 x.t)->∃c:List EI,c.map (·.1)=l
 | [],_=>⟨[],rfl⟩
 | x :: l,h=>by
  obtain⟨c,e⟩:=toEI (l:=l) λy hy=>h y (List.mem_cons_of_mem _ hy)
  exact⟨⟨x,h x (List.mem_cons_self ..)⟩ :: c,by rw[List.map_cons,e]⟩
theorem qru (x:EI):(qc5 x).length=3:=rfl
theorem qwi:∀(d:List EI) (t:Nat),t<d.length*3->(d.flatMap qc5)[t]? = some ((qc5 d[t / 3]!)[t % 3]!)
 | [],t,h=>by simp at h
 | x :: d,t,h=>by
  rw[List.flatMap_cons,List.getElem?_append,qru]
  by_cases c:t<3
  .rw [if_pos c];have:t / 3=0:=by omega
   rw[this];have m:t % 3=t:=by omega
   rw[m];have:t=0\/t=1\/t=2:=by omega
   rcases this with rfl | rfl | rfl <;> rfl
  rw[if_neg c,qwi d (t-3) (by rw[List.length_cons]at h;omega)];have e1:t / 3=(t-3) / 3+1:=by omega
  have e2:t % 3=(t-3) % 3:=by omega
  rw[e1,e2];rfl
theorem qwv (d:List EI):(d.flatMap qc5).length=d.length*3:=by
 induction d with
 | nil=>rfl
 | cons x d ih=>rw[List.flatMap_cons,List.length_append,ih,qru,List.length_cons];omega
theorem qy3 (d:Array EI):(flatK qc5 3 d).toList=d.toList.flatMap qc5:=by
 apply List.ext_getElem
 .rw [qwv];simp
 intro t A u;have c:t<d.size*3:=by simpa using A
 have e1:=get_flatK qc5 3 d t c;rw[getElem!_pos _ t (by simpa using c)]at e1;have e2:=qwi d.toList t (by simpa using c);rw[List.getElem?_eq_getElem u]at e2;injection e2 with e2
 rw[e2,Array.getElem_toList,e1];have m:t / 3<d.size:=by omega
 rw[getElem!_pos d (t / 3) m,getElem!_pos d.toList (t / 3) (by simpa using m),Array.getElem_toList]
theorem flatE (S:Nat->Prop) (w:World):∀d:List EI,Flat REd 3 S w (d.map (·.1)) (d.flatMap qc5)
 | []=>rfl
 | x :: d=>⟨qc5 x,d.flatMap qc5,rfl,rfl,⟨x.2.1,x.2.2.1,x.2.2.2,rfl⟩,flatE S w d⟩
theorem REd.i64 {S:Nat->Prop} {w:World}:∀{l:List Ed} {cs:List Value},Flat REd 3 S w l cs->∀x∈l,I64 x.f/\I64 x.l/\I64 x.t
 | [],_,_=>by simp
 | x :: l,cs,⟨c1,c2,h1,h2,h3,h4⟩=>λy hy=>by
  rcases List.mem_cons.1 hy with rfl | hy
  .exact ⟨h3.1,h3.2.1,h3.2.2.1⟩
  exact REd.i64 h4 y hy
theorem sortE_own (base:Nat) (T:Nat->Prop) (l:List Ed) (v:Value) (w:World) (E:qab REd 3 88 base T w l v) (X:l.length<4611686018427387904) :
  Calls Tryz.prog 248 #[v,.func (.func 98) #[] #[]] w λe w'=>e = .returned (.tuple #[])/\qab REd 3 88 base T w' (qdi qbf l) v/\Bt (λb=>v.ownBlock=some b) w w':=by
 have af:=E.sl REd.good (by decide);obtain⟨news,O,hF⟩:=E
 rcases O.2 with⟨rfl,h⟩ | ⟨g,G,I,rfl,hb,hg,hn,hm,hs,ht⟩
 .have aa:l=[]:=List.length_eq_zero_iff.1 h;subst aa;refine(AnyF.slices_SortFunc_none Tryz.lays248 none 0 _ w).mono ?_;rintro e w' ⟨rfl,rfl⟩;exact⟨rfl,qab.nil ..,Bt.refl _ _⟩
 obtain⟨c,rfl⟩:=toEI (REd.i64 hF);have ah:g<w.heap.size:=(Array.getElem?_eq_some_iff.1 hg).1;have A:(c.map (·.1)).length=c.length:=List.length_map ..
 have hH:HoldsK qc5 3 w g 0 c.toArray:=by
  intro j F;have ag:j<c.length*3:=by simpa using F
  refine⟨?_,by simp[World.frozen?,hg]⟩;have e1:=get_flatK qc5 3 c.toArray j (by simpa using ag);rw[id,e1];obtain⟨i,r,al,rfl⟩:∃i r,r<3/\j=i*3+r:=⟨j / 3,j % 3,by omega,by omega⟩
  rw[show(i*3+r) / 3=i by omega,show(i*3+r) % 3=r by omega];have ad:i<c.length:=by omega
  have hi:i<(c.map (·.1)).length:=by rw[A];omega
  obtain⟨b,ai,cs,he,_,_,_,hr,d⟩:=af.get i hi;injection he with he
  injection he with he1 he2
  subst he1 he2;obtain⟨_,_,_,rfl⟩:=hr
  have hx:(c.map (·.1))[i]=(c.toArray[i]!).1:=by
   rw[getElem!_pos c.toArray i (by simpa using ad)]
   simp
  rw[hx]at d;have:r=0\/r=1\/r=2:=by omega
  rcases this with rfl | rfl | rfl
  .have:=d 0 (.int .i64 (c.toArray[i]!).1.f) rfl;rw[Nat.zero_add]at this ⊢;exact this
  .have:=d 1 (.int .i64 (c.toArray[i]!).1.l) rfl;rw[Nat.zero_add]at this ⊢;exact this
  have:=d 2 (.int .i64 (c.toArray[i]!).1.t) rfl;rw[Nat.zero_add]at this ⊢;exact this
 have D:c.toArray.size=c.length:=by simp
 have U:CmpLays Tryz.prog 98 #[] qc5 3 (λx y:EI=>qbf x.1 y.1) g 0 c.toArray.size w:=λm os dk _ x y=>by
  refine(qv3 (λ_=>True) x.1 y.1 (qc5 x) (qc5 y) _ ⟨x.2.1,x.2.2.1,x.2.2.2,rfl⟩ ⟨y.2.1,y.2.2.1,y.2.2.2,rfl⟩).mono ?_;rintro e w' ⟨rfl,h⟩;exact⟨rfl,qtc h⟩
 have h:=AnyQ.slices_SortFunc Tryz.lays248 3 aE88 zE88 qc5 (λ_=>rfl) (λx v hv=>by simp[qc5]at hv;rcases hv with rfl | rfl | rfl <;> rfl) (λx y:EI=>qbf x.1 y.1) (swo_of qfc _) 98 #[] g 0 G c.toArray w eg98 U hH ah (by rw[D,<- A];exact X);rw[D]at h;rw[A];refine h.mono ?_;rintro e w' ⟨rfl,u,n,os,hp,ab,rfl⟩;have M:u.size=c.length:=by rw[hp.1,D]
 have L:(u.toList.map (·.1)).Perm (c.map (·.1)):=by
  have h3:=hp.2.2;rw[<- M,Array.extract_size]at h3;have h4:(c.toArray.extract 0 u.size).toList=c:=by rw[M,<- D,Array.extract_size]
  rw[h4]at h3;exact h3.map _
 have V:Srt qbf (u.toList.map (·.1)):=by
  rw[Srt,List.pairwise_map,List.pairwise_iff_getElem];intro i j hi F ac;have h5:=ab i j (Nat.zero_le _) ac (by rw[<- M];simpa using F);simp only[ltOf,decide_eq_false_iff_not,Int.not_lt]at h5;rw[getElem!_pos u i (by simpa using hi),getElem!_pos u j (by simpa using F)]at h5;have h6:=qfc.sgn u[i].1 u[j].1;have h7:=qfc.sgn u[j].1 u[i].1;simp only[Array.getElem_toList];omega
 have ae:qdi qbf (c.map (·.1))=u.toList.map (·.1):=(qrt qfc L V).symm;rw[ae]
 have N:w.grownBy (sortWorldK qc5 3 w g 0 n u os) (some g):=by
  have:=qme (α:=Value) id w g n (flatK qc5 3 u) os;exact this
 have aj:(flatK qc5 3 u).size=c.length*3:=by rw[size_flatK,M]
 have ak:c.length*3<=I.size:=by rw[hs,<- A];exact Nat.mul_le_mul_right 3 hn
 have J:(putRow id (Sort.ahead w n) g 0 (flatK qc5 3 u)).ownsRow base 88 3 (.slice (some ⟨g,0,none⟩) c.length G) c.length (u.toList.flatMap qc5):=by
  refine⟨by rw[qwv];simp[M],.inr ⟨g,G,putCells id 0 (flatK qc5 3 u) I,rfl,hb,?_,by rw[<- A];exact hn,hm,by simpa[putCells]using hs,?_⟩⟩
  .simp [putRow,mapBlock,Sort.ahead,Array.getElem?_modify,hg,onCells]
  rw[<- qy3]
  apply List.ext_getElem?
  intro j;rw[List.getElem?_take,Array.getElem?_toList,Array.getElem?_toList]
  by_cases F:j<c.length*3
  .have Y:j<I.size:=by omega
   rw[if_pos F];simp only[putCells,Array.getElem?_mapIdx,Array.getElem?_eq_getElem Y,Option.map_some];rw[if_pos (by omega),Array.getElem?_eq_getElem (by omega)];rw[getElem!_pos _ _ (by show j-0<_;omega)];rfl
  rw[if_neg F,Array.getElem?_eq_none (by omega)]
 refine⟨rfl,⟨u.toList.flatMap qc5,?_,flatE _ _ _⟩,(Bt.of_grown N).mono λk _ hk=>by injection hk with hk;rw[hk];rfl⟩;rw[List.length_map,show u.toList.length=c.length from by simpa using M];exact J.kept (qwe _ os) (.inr (by simp[Value.ownBlock]))
end
section
open Go.Shelf
theorem qxf (W:World) (x y:Ed) (h:x≠y):(binOp .eql 88 (.agg #[.int .i64 x.f,.int .i64 x.l,.int .i64 x.t]) (.agg #[.int .i64 y.f,.int .i64 y.l,.int .i64 y.t])).run Tryz.prog W = .ok (.bool false) W:=by
 have hS:Tryz.prog.underlying 88=some (.struct (Tryz.prog.fieldsOf 88)):=by kernel_rfl
 have c:Tryz.prog.stoodInHeld 88=false:=by kernel_rfl
 have u3:=Tryz.underlying3;rw[run_eql_struct,show(10000:Nat)=9999+1 from rfl,run_equalIn_agg W 9999 88 _ _ hS c];simp only[Program.fieldsOf,Tryz.underlying88];go_simp
 have d:¬ (x.f=y.f/\x.l=y.l/\x.t=y.t):=λe=>h (by
  obtain⟨f,l,t⟩:=x;obtain⟨D,A,F⟩:=y;simp only at e
  rw[e.1,e.2.1,e.2.2])
 by_cases E:x.f=y.f <;> by_cases m:x.l=y.l <;> by_cases u:x.t=y.t <;> simp_all
def qic (l:List Ed):Prop:=∀k,(h:k+1<l.length)->l[k+1]≠l[k]
theorem qyi (S:Nat->Prop) (l:List Ed) (v:Value) (w:World) (I:qa3 S w l [v]) (Y:qic l) :
  Calls Tryz.prog 249 #[v] w λe w'=>e = .returned v/\Ext w w':=by
 obtain⟨A,c,rfl,hc,ag⟩:=I.val;have HX:=Hd I
 have HD:Hid (∀k,(h:k<l.length)->1<=k->l[k]≠l[k-1]):=λk h h1=>by
  obtain⟨j,rfl⟩:∃j,k=j+1:=⟨k-1,by omega⟩
  exact Y j h
 clear I Y
 by_cases h2:l.length<2
 .go_enter Tryz.func249,Tryz.ntmps249
  go_wp2_with fail
  go_ret;exact⟨rfl,Ext.refl _⟩
 go_enter Tryz.func249,Tryz.ntmps249
 go_wp2_with fail
 go_loopw [3] (λi wr=>∃k:Nat,1<=k/\k<=l.length/\i = .int .i64 k/\Ext w wr) (λi _=>l.length-(intOf i).toNat)
 case atStart=>exact⟨1,Nat.le_refl _,by omega,rfl,Ext.refl _⟩
 obtain⟨k,L,hk,rfl,X⟩:=hrel
 by_cases F:k<l.length
 .have G:=qa3.good.bel HX.out X;obtain⟨b,ab,cs,rfl,hb,O,hl,hr,m⟩:=G.get k F;obtain⟨b',V,af,J,aa,E,M,N,d⟩:=G.get (k-1) (by omega);injection J with J
  injection J with he1 he2
  subst he1 he2;obtain⟨_,_,_,rfl⟩:=hr;obtain⟨_,_,_,rfl⟩:=N;have U:=m.get 0 _;have a1:=m.get 1 _;have a2:=m.get 2 _;have b0:=d.get 0 _;have b1:=d.get 1 _;have b2:=d.get 2 _;simp only[Nat.add_zero]at U b0;have hq:=λW=>qxf W l[k] l[k-1] (HD.out k F L)
  have ac:(0:Int)<=(k:Int)-1:=by omega
  have ad:((k:Int)-1).toNat=k-1:=by omega
  have ah:(k:Int)-1<(l.length:Int):=by omega
  obtain⟨x,u⟩:=nm (l[k]);obtain⟨y,D⟩:=nm (l[k-1]);rw[u]at U a1 a2;rw[D]at b0 b1 b2;rw[u,D]at hq;clear m d G O E hl M u D
  go_wp2_with fail
  (refine qap ?_;(repeat (first | go_big_quiet_step (fail) | quiet_step (fail)));refine wpQuiet_nil ?_)
  intro w2 ae
  go_wp2_with fail
  go_roundw
  case rel=>exact⟨k+1,by omega,by omega,by go_num,bel⟩
  simp[intOf];omega
 go_wp2_with fail
 go_ret;exact⟨rfl,X⟩
def qbw (a b:Ed):Bool:=decide (a.f=b.f) && decide (a.l=b.l) && decide (a.t=b.t)
theorem qk2 (a b:Ed):qbw a b=true↔a=b:=by
 obtain⟨f,l,t⟩:=a;obtain⟨d,c,m⟩:=b;simp[qbw,and_assoc]
def qef (l:List Ed):List Ed:=qa2 qbw l
theorem qv8:∀(l:List Ed) (p:Ed),qic (p :: l)->qc6 qbw p l=l
 | [],_,_=>rfl
 | x :: l,p,h=>by
  have c:=h 0 (by simp);simp only[List.getElem_cons_succ,List.getElem_cons_zero]at c
  have d:qbw x p=false:=by
   cases hs:qbw x p with
   | false=>rfl
   | true=>exact absurd ((qk2 x p).1 hs) c
  have ih:=qv8 l x λk m=>by
   have:=h (k+1) (by simpa using m);simpa using this
  rw[qc6,d,ih];rfl
theorem cmpE_nd {l:List Ed} (h:qic l):qef l=l:=by
 cases l with
 | nil=>rfl
 | cons x l=>rw[qef,qa2,qv8 l x h]
def qmk (l:List Ed):Prop:=∀(base:Nat) (v:Value) (w:World),qab REd 3 88 base (λ_=>False) w l v->Calls Tryz.prog 249 #[v] w λe w'=>∃v',e = .returned v'/\qab REd 3 88 base (λ_=>False) w' (qef l) v'/\Bt (λq=>v.ownBlock=some q) w w'
theorem compOK_nd {l:List Ed} (h:qic l):qmk l:=λbase v w d=>(qyi (λb=>False\/base<=b) l v w (d.sl REd.good (by decide)) h).mono λe w' ⟨m,c⟩=>⟨v,m,by rw[cmpE_nd h];exact d.ext REd.good c,c.bt⟩
end
section
open Go.Shelf Go.Sort Go.Lib
theorem info3i:(Tryz.prog.info? 3).map (λi=>(i.zero,i.size,i.bytes))=some (some (.int .i64 0),1,8):=by kernel_rfl
theorem made_ints (n:Nat):madeCells (Value.int .i64 0).cells (n*1)=Array.replicate n (.int .i64 0):=by
 rw[Nat.mul_one]
 apply Array.ext
 .simp [size_madeCells]
 intro i d c;have:i % 1=0:=Nat.mod_one i;simp[madeCells,Value.cells,this]
theorem run_mints (W:World) (n:Nat) (hn:n<=1000000) :
  (Instr.makeSlice 53 (.int .i64 (n:Int)) (.int .i64 (n:Int))).run Tryz.prog W = .ok (.slice (some ⟨W.heap.size,0,none⟩) n n) (W.alloc (.cells (Array.replicate n (.int .i64 0)) 3)):=by
 obtain⟨i,hi,c⟩:=Option.map_eq_some_iff.1 info3i;simp only[Prod.mk.injEq]at c;obtain⟨m,d,u⟩:=c;have h:=run_makeSlice (P:=Tryz.prog) (w:=W) 53 3 i (.int .i64 0) Tryz.underlying53 hi m .i64 .i64 n n (by omega) (Int.le_refl _) (by rw[d];simp;omega) (by rw[u];omega) (by omega);rw[d]at h;simp only[Int.toNat_natCast,made_ints]at h;exact h
def qdq (n k:Nat):List Int:=(List.range n).map λi=>if i<k then (i:Int) else 0
theorem qif (n k:Nat):(qdq n k).length=n:=by simp[qdq]
theorem qzc (n:Nat):qdq n 0=List.replicate n 0:=by
 apply List.ext_getElem
 .simp [qdq]
 intro i d c;simp[qdq]
theorem fillL_set (n k:Nat):(qdq n k).set k (k:Int)=qdq n (k+1):=by
 apply List.ext_getElem
 .simp [qdq]
 intro i m d;rw[List.getElem_set];simp only[qdq,List.getElem_map,List.getElem_range]
 by_cases h:k=i
 .subst h;simp
 rw[if_neg h]
 by_cases c:i<k
 .rw [if_pos c,if_pos (by omega)]
 rw[if_neg c,if_neg (by omega)]
def qe3 (ls:List Lb):Array Int:=insertionSort (ltIx ls) (qdq ls.length ls.length).toArray 0 ls.length
def qem:List Int->Nat->List Int->List Int
 | [],_,p=>p
 | o :: os,i,p=>qem os (i+1) (p.set o.toNat (i:Int))
theorem qil:∀(os:List Int) (i:Nat) (p:List Int),(qem os i p).length=p.length
 | [],_,_=>rfl
 | o :: os,i,p=>by rw[qem,qil os,List.length_set]
theorem qr1 (o:Int):∀(os:List Int) (i:Nat) (p:List Int),qem (os++[o]) i p=(qem os i p).set o.toNat ((i+os.length:Nat):Int)
 | [],i,p=>rfl
 | x :: os,i,p=>by rw[List.cons_append,qem,qr1 o os,qem,List.length_cons];congr 2;omega
theorem qnb (w:World) (a b:Obj):∃W0,(w.alloc a).alloc b=W0/\W0.heap[w.heap.size]? = some a/\W0.heap[w.heap.size+1]? = some b/\Ext w W0/\W0.heap.size=w.heap.size+2:=by
 refine⟨_,rfl,?_,?_,((Ext.refl w).alloc a).alloc b,by simp⟩
 .rw [Below.heap_alloc _ _ _ (by simp)];exact World.alloc_heap_new _ _
 have:=World.alloc_heap_new (w.alloc a) b
 rwa [World.size_alloc]at this
theorem row_zeros {W:World} {g base n:Nat} (h:W.heap[g]? = some (.cells (Array.replicate n (.int .i64 0)) 3)) (d:base<=g) (hn:n<=1000000):qab qad 1 3 base (λ_=>False) W (List.replicate n (0:Int)) (.slice (some ⟨g,0,none⟩) n n):=by
 have c:∀x∈List.replicate n (0:Int),I64 x:=λx m=>by rw[List.eq_of_mem_replicate m];unfold I64;omega
 exact⟨(List.replicate n (0:Int)).map (Value.int .i64),⟨by simp,.inr ⟨g,n,_,by simp,d,h,by simp,by unfold maxLen;omega,by simp,by simp⟩⟩,Flat.of_ints c⟩
def qff (ls:List Lb):List Int:=qem (qe3 ls).toList 0 (List.replicate ls.length 0)
def edR (ls:List Lb) (es:List Ed):List Ed:=es.map λe=>⟨e.f,((qff ls)[e.l.toNat]?).getD 0,e.t⟩
def qc7 (ls:List Lb):List Lb:=(qe3 ls).toList.map (qbg ls)
theorem alloc4 (w:World) (a b c d:Obj):∃W0,(((w.alloc a).alloc b).alloc c).alloc d=W0/\W0.heap[w.heap.size]? = some a/\W0.heap[w.heap.size+1]? = some b/\W0.heap[w.heap.size+1+1]? = some c/\W0.heap[w.heap.size+1+1+1]? = some d/\Ext w W0/\W0.heap.size=w.heap.size+4:=by
 refine⟨_,rfl,?_,?_,?_,?_,(((((Ext.refl w).alloc a).alloc b).alloc c).alloc d),by simp⟩
 .rw [Below.heap_alloc _ _ _ (by simp;omega),Below.heap_alloc _ _ _ (by simp;omega),Below.heap_alloc _ _ _ (by simp)];exact World.alloc_heap_new _ _
 .rw [Below.heap_alloc _ _ _ (by simp)];exact qg3 ..
 .rw [Below.heap_alloc _ _ _ (by simp)];exact qgy ..
 have:=World.alloc_heap_new (((w.alloc a).alloc b).alloc c) d
 rwa [World.size_alloc,World.size_alloc,World.size_alloc]at this
theorem eg247:∀args w,(callFunc 247 args).run Tryz.prog w = .ok (.enter 247 args) w:=enters_of Tryz.func247 (by kernel_rfl) rfl
theorem qyd (S:Nat->Prop) (m:List Lb) (A:Option Addr) (U F I B g c base:Nat) (W0:World) (hn:m.length<=1000000) (N:F≠g/\I≠g/\B≠g) (hS:∀q,S q->q≠g)
  (c0:W0.cell? ⟨F,0,none⟩=some (.pointer (some ⟨B,0,none⟩))) (c1:W0.cell? ⟨I,0,none⟩=some (.slice (some ⟨g,0,none⟩) m.length c)) (c2:W0.cell? ⟨B,1,none⟩=some (.slice A m.length U)) (V:qaa S W0 m [.slice A m.length U]) :
  qey 247 #[.pointer (some ⟨F,0,none⟩),.pointer (some ⟨I,0,none⟩)] (ltIx m) (λx=>0<=x/\x<m.length) base g m.length c W0:=by
 intro W d J hr hs Y i j hi hj;obtain⟨u,M,⟨e1,_⟩,_⟩:=hr.get1 i (by simpa using (by omega:i<d.size));obtain⟨u',O,⟨e2,_⟩,_⟩:=hr.get1 j (by simpa using (by omega:j<d.size));injection e1 with e1
 injection e2 with e2
 subst e1 e2;have mi:=Y _ (List.getElem_mem (l:=d.toList) (n:=i) (by simpa using (by omega:i<d.size)));have X:=Y _ (List.getElem_mem (l:=d.toList) (n:=j) (by simpa using (by omega:j<d.size)));have ei:d.toList[i]'(by simpa using (by omega:i<d.size))=d[i]! := by rw[getElem!_pos d i (by omega)];simp
 have ej:d.toList[j]'(by simpa using (by omega:j<d.size))=d[j]! := by rw[getElem!_pos d j (by omega)];simp
 rw[ei]at mi M;rw[ej]at X O;obtain⟨L,D⟩:∃L:Nat,d[i]! = (L:Int):=⟨d[i]!.toNat,by omega⟩
 obtain⟨G,E⟩:∃G:Nat,d[j]! = (G:Int):=⟨d[j]!.toNat,by omega⟩
 rw[D]at M mi;rw[E]at O X;have h:=lessIx_c S m A U F I B g m.length c i j L G W hi hj (by omega) (by omega) hn (J.cell c0 N.1) (J.cell c1 N.2.1) (J.cell c2 N.2.2) M O (qaa.good.move V (J.kp (S:=S) λq _ h h'=>hS q h h'));refine h.mono ?_;rintro e w' ⟨rfl,hx⟩;exact⟨by rw[ltIx,D,E,qfd m L (by omega),qfd m G (by omega)],hx⟩
def qj8 (n:Int) (ls:List Lb) (es:List Ed):Sy:=⟨n,qc7 ls,qef (qdi qbf (edR ls es))⟩
def qm2 (ls:List Lb):Prop:=∀(lb:Array Value) (base g:Nat) (w:World),qey 247 lb (ltIx ls) (λx=>0<=x/\x<ls.length) base g ls.length ls.length w->qbv base w (qdq ls.length ls.length).toArray g ls.length ls.length->g<w.heap.size ->
 Calls Tryz.prog 246 #[.iface 53 (.slice (some ⟨g,0,none⟩) ls.length ls.length),.func (.func 247) #[] lb] w (qks base g ls.length ls.length (λx=>0<=x/\x<ls.length) (qe3 ls) w)
theorem qmy (n:Nat):∀x∈(qdq n n).toArray.toList,0<=x/\x<n:=λx c=>by
 have c:x∈qdq n n:=by simpa using c
 obtain⟨i,hi,rfl⟩:=List.mem_map.1 c;have:=List.mem_range.1 hi;rw[if_pos this];omega
theorem sortOK12 {c:List Lb} (h:c.length<=12):qm2 c:=λlb base g w m hr d =>
 slice_c 247 lb (ltIx c) (λx=>0<=x/\x<c.length) base g c.length c.length (qdq c.length c.length).toArray w eg247 m hr (by rw[List.size_toArray,qif]) (qmy _) h d
theorem qg8 {m:Func} {p q:Tmp} (h:m.results = #[.cell p 25,.tmp q]) (tmps:Array Value) (w:World) (g:Nat) (x y z u:Value) (D:tmps.getD p undef = .pointer (some ⟨g,0,none⟩)) (E:tmps.getD q undef=u) (G:w.cell? ⟨g,0,none⟩=some x) (F:w.cell? ⟨g,1,none⟩=some y) (A:w.cell? ⟨g,2,none⟩=some z) :
  (results m tmps).run Tryz.prog w = .ok (.tuple #[.agg #[x,y,z],u]) w:=by
 have d:tmps[p]?.getD undef = .pointer (some ⟨g,0,none⟩):=by simpa using D
 have c:tmps[q]?.getD undef=u:=by simpa using E
 simp[results,h,d,c,asAddr,go_sem,G,F,A]
theorem qiw (d:List Lb) (c:List Ed):(edR d c).length=c.length:=by simp[edR]
def UsedPost (base:Nat) (n:Int) (ls:List Lb) (es:List Ed) (w:World) (e:Ending) (w':World):Prop:=∃cs,e = .returned (.tuple #[.agg cs.toArray,.bool true])/\RSy (λb=>base<=b) w' (qj8 n ls es) cs/\Ext w w'
theorem used_c (base B:Nat) (c:List Lb) (G:List Ed) (ve:Value) (n:Int) (hn:I64 n) (w:World) (ch:base<=w.heap.size) (hA:qdg base B c G ve w) (cR:c.length<=16) (aK:qm2 c) (cm:G.length<=100000) (aM:∀e∈G,0<=e.l/\e.l<c.length) (bG:qmk (qdi qbf (edR c G))) :
  Calls Tryz.prog 205 #[.pointer (some ⟨B,0,none⟩),.int .i64 n] w (UsedPost base n c G w):=by
 obtain⟨mo,vl,T,au,ad,b2,hT,ct,cz⟩:=hA.ex;have hB:=hA.lt;have aE:=au.lt;have hL:qaa (λq=>base<=q/\q<w.heap.size) w c [vl]:=qaa.good.mono (ad.sl RLb.good (by decide)) λb hb h=>⟨h.elim (λh=>(hT b h).1) id,hb⟩
 have hE:qa3 (λq=>q<w.heap.size) w G [ve]:=qa3.good.mono (b2.sl REd.good (by decide)) λb hb _=>hb
 obtain⟨Al,cl,rfl,c4,cL⟩:=hL.val;obtain⟨Ae,ce,rfl,cP,cH⟩:=hE.val;have g1:=au.cell 1 _;have g2:=au.cell 2 _;have HL:=Hd hL;have HE:=Hd hE;have cZ:=λW=>run_mints W c.length (by omega)
 have b7:=Hd aK;have co:=Hd bG;clear aK bG hA cz ct hT b2 ad au hL hE
 go_enter Tryz.func205,Tryz.ntmps205
 go_wp2_with fail
 obtain⟨W0,bx,bn,bk,bl,bp,bM,cC⟩:=alloc4 w (.cells #[.pointer (some ⟨B,0,none⟩)] 268) (.cells #[.int .i64 0,.slice none 0 0,.slice none 0 0] 25) (.cells (Array.replicate c.length (.int .i64 0)) 3) (.cells #[.slice (some ⟨w.heap.size+1+1,0,none⟩) c.length c.length] 53);rw[bx];clear bx;obtain⟨Bo,aj⟩:=nm (w.heap.size+1+1+1);obtain⟨g,hg⟩:=nm (w.heap.size+1+1);obtain⟨N,bd⟩:=nm (w.heap.size+1);obtain⟨Y,br⟩:=nm (w.heap.size);rw[aj,hg,bd,br];rw[aj,hg]at bp;rw[hg]at bl;rw[bd]at bk;rw[br]at bn;have HP:Hid (qaf W0 Y 268 [.pointer (some ⟨B,0,none⟩)]):=bn;have cg:Hid (qaf W0 N 25 [.int .i64 0,.slice none 0 0,.slice none 0 0]):=bk;have bB:Hid (qaf W0 Bo 53 [.slice (some ⟨g,0,none⟩) c.length c.length]):=bp
 have a3:qab qad 1 3 Y (λ_=>False) W0 (qdq c.length 0) (.slice (some ⟨g,0,none⟩) c.length c.length):=by
  have cj:∀x∈List.replicate c.length (0:Int),I64 x:=λx hx=>by rw[List.eq_of_mem_replicate hx];unfold I64;omega
  rw[qzc];refine⟨(List.replicate c.length (0:Int)).map (Value.int .i64),⟨by simp,.inr ⟨g,c.length,_,by simp,by omega,bl,by simp,by unfold maxLen;omega,by simp,by simp⟩⟩,Flat.of_ints cj⟩
 have bZ:=Hd a3;have bT:=Hd bM;have L:Hid (N=Y+1/\g=Y+2/\Bo=Y+3/\W0.heap.size=Y+4/\w.heap.size=Y):=by show _/\_;omega
 clear bn bk bl bp a3 bM cC aj hg bd br
 go_loopw [22] (λvi wr=>∃k:Nat,k<=c.length/\vi = .int .i64 k/\Hid (Bt (λq=>q=g) W0 wr)/\Hid (qab qad 1 3 Y (λ_=>False) wr (qdq c.length k) (.slice (some ⟨g,0,none⟩) c.length c.length))) (λvi _=>c.length-(intOf vi).toNat)
 case atStart=>exact⟨0,Nat.zero_le _,rfl,Bt.refl _ _,bZ.out⟩
 obtain⟨k,hk,rfl,ac,hO⟩:=hrel;have aj:=bB.out.bt ac.out (by have:=L.out;omega);have o0:=aj.cell 0 _
 by_cases al:k<c.length
 .obtain ⟨u,a0,_,f0⟩:=hO.out.get1 k (by rw[qif];exact al);have a5:=qab.put1 qad.good hO.out (by rw[qif]) k (.int .i64 k) (k:Int) (by rw[qif];exact al) ⟨rfl,by unfold I64;omega⟩;rw[fillL_set]at a5;have cD:=Hd a5;have cc:Hid (Bt (λq=>q=g) W0 (wr.setCell ⟨g,k,none⟩ (.int .i64 k))):=Bt.set (Z:=λq=>q=g) (p:=⟨g,k,none⟩) ac.out (.inr rfl) _;clear a5 hO ac aj
  go_wp2_with fail
  go_roundw
  case rel=>exact⟨k+1,by omega,by go_num,cc,cD⟩
  simp[intOf];omega
 obtain rfl:k=c.length:=by omega
 clear aj
 go_wp2_with fail
 have bj:Ext w wr:=Bt.new bT.out ac.out λq _ h=>by have:=L.out;omega
 have cB:=ac.out.size
 have bH:=b7.out #[.pointer (some ⟨Y,0,none⟩),.pointer (some ⟨Bo,0,none⟩)] Y g wr
  (qyd (λq=>base<=q/\q<w.heap.size) c Al cl Y Bo B g c.length Y wr (by omega) (by have:=L.out;omega) (λq hq=>by have:=L.out;omega) ((HP.out.bt ac.out (by have:=L.out;omega)).cell 0 _) o0 (Ext.keep bj g1) (qaa.good.bel HL.out bj))
  hO.out (by have:=L.out;omega)
 refine bH.mono ?_;rintro e w5 ⟨rfl,⟨bE,bw,bJ⟩,bW⟩;have aA:Bt (λq=>q=g) W0 w5:=ac.out.trans bW;have aN:Ext w w5:=Bt.new bT.out aA λq _ h=>by have:=L.out;omega
 obtain⟨D,hD⟩:=nm ((qe3 c).toList);have cF:Hid (qab qad 1 3 Y (λ_=>False) w5 D (.slice (some ⟨g,0,none⟩) c.length c.length)):=by rw[<- hD];exact bE
 have ca:Hid (∀x∈D,0<=x/\x<c.length):=by rw[<- hD];exact bw
 have cO:D.length=c.length:=by rw[<- hD,Array.length_toList];exact bJ
 have HD:=Hd hD;have bc:=HP.out.bt aA (by have:=L.out;omega);have aP:=bB.out.bt aA (by have:=L.out;omega);have bv:=Hd (cg.out.bt aA (by have:=L.out;omega));have p0:=bc.cell 0 _;have b8:=aP.cell 0 _;have k1:=Ext.keep aN g1;have k2:=Ext.keep aN g2;have ci:=aP.lt;have cu:=bc.lt;have cW:B<w5.heap.size:=Nat.lt_of_lt_of_le aE aN.size;have bi:=Hd aN;have a4:=aA.size;have cq:Hid (W0.heap.size<=w5.heap.size):=a4;clear bE bw bJ bW hO ac bH bj cB aA aN o0 g1 g2 bc aP a4 hD hk
 go_wp2_with fail
 obtain⟨W6,bN,bf,bq,bA,cp⟩:=qnb w5 (.cells #[.int .i64 n,.slice none 0 0,.slice none 0 0] 25) (.cells (Array.replicate c.length (.int .i64 0)) 3);rw[bN];clear bN;obtain⟨E,a9⟩:=nm (w5.heap.size+1);obtain⟨m,aE⟩:=nm (w5.heap.size);rw[a9,aE];rw[a9]at bq;rw[aE]at bf;have cn:Hid (qaf W6 m 25 [.int .i64 n,.slice none 0 0,.slice none 0 0]):=bf;have cA:=Hd (row_zeros bq (base:=E) (Nat.le_refl _) (by omega));have O:Hid (E=m+1/\W6.heap.size=m+2/\w5.heap.size=m/\W0.heap.size<=m):=by show _/\_;have:=cq.out;omega
 have bz:=Hd bA;clear bf bq a9 aE bA cp
 go_loopw [41] (λvi wr=>∃(k:Nat) (Av:Option Addr) (cv:Nat),k<=c.length/\vi = .int .i64 k/\Ext w5 wr/\Hid (qaf wr m 25 [.int .i64 n,.slice Av ((D.take k).map (qbg c)).length cv,.slice none 0 0]) /\
  Hid (qab RLb 2 61 (E+1) (λq=>base<=q/\q<w.heap.size) wr ((D.take k).map (qbg c)) (.slice Av ((D.take k).map (qbg c)).length cv))/\Hid (qab qad 1 3 E (λ_=>False) wr (qem (D.take k) 0 (List.replicate c.length 0)) (.slice (some ⟨E,0,none⟩) c.length c.length))) (λvi _=>c.length-(intOf vi).toNat)
 case atStart=>exact⟨0,none,0,Nat.zero_le _,rfl,bz.out,cn.out,qab.nil ..,cA.out⟩
 obtain⟨k,Av,cv,hk,rfl,hE,ai,aD,aC⟩:=hrel;have bP:=Ext.keep hE p0;have be:=Ext.keep hE k1
 by_cases al:k<c.length
 .obtain ⟨u,a0,⟨e1,_⟩,_⟩:=(cF.out.ext qad.good hE).get1 k (by omega);injection e1 with e1
  subst e1;have b4:=ca.out _ (List.getElem_mem (l:=D) (n:=k) (by omega));obtain⟨ix,aM⟩:∃ix:Nat,D[k]'(by omega)=(ix:Int):=⟨(D[k]'(by omega)).toNat,by omega⟩
  rw[aM]at a0 b4;have ay:ix<c.length:=by omega
  obtain⟨u,b0,_,f0⟩:=aC.out.get1 ix (by rw[qil,List.length_replicate];exact ay);have b3:=qab.put1 qad.good aC.out (by rw[qil,List.length_replicate]) ix (.int .i64 k) (k:Int) (by rw[qil,List.length_replicate];exact ay) ⟨rfl,by unfold I64;omega⟩;have V:D.take (k+1)=D.take k++[(ix:Int)]:=by rw[List.take_succ_eq_append_getElem (by omega),aM]
  have bS:qem (D.take (k+1)) 0 (List.replicate c.length 0)=(qem (D.take k) 0 (List.replicate c.length 0)).set ix (k:Int):=by
   rw[V,qr1,List.length_take,Nat.min_eq_left (by omega),Nat.zero_add];rfl
  have bo:(D.take (k+1)).map (qbg c)=(D.take k).map (qbg c)++[c[ix]]:=by rw[V,List.map_append,List.map_singleton,qfd c ix ay]
  obtain⟨ys,aq⟩:=nm ((D.take k).map (qbg c));rw[aq]at bo ai aD;have bm:ys.length<=1000000:=by rw[<- aq,List.length_map,List.length_take];omega
  have F:Bt (λq=>q=E) wr (wr.setCell ⟨E,ix,none⟩ (.int .i64 k)):=Bt.set (Z:=λq=>q=E) (p:=⟨E,ix,none⟩) (Bt.refl _ _) (.inr rfl) _;obtain⟨b,aR,cs,rfl,hb,az,hl,hr,A⟩:=(qaa.good.bel HL.out (bi.out.trans' hE)).get ix ay;have bg:=RLb.good.move hr (F.kp (S:=λq=>base<=q/\q<w.heap.size) λq _ h h'=>by have:=O.out;have:=L.out;omega);obtain⟨j1,v,rfl,hv⟩:=id bg;have d0:=F.cell (A.get 0 _) (by have:=O.out;have:=L.out;show ¬ b=E;omega);have d1:=F.cell (A.get 1 _) (by have:=O.out;have:=L.out;show ¬ b=E;omega);simp only[Nat.add_zero]at d0;have e1:=F.cell (ai.out.cell 1 _) (by have:=O.out;show ¬ m=E;omega);have e2:=F.cell bP (by have:=O.out;have:=L.out;show ¬ Y=E;omega);have e3:=F.cell be (by have:=O.out;have:=L.out;show ¬ B=E;omega);have af:=λq hq=>aD.out.own_lt (b:=q) hq
  have HLr1:=Hd (aD.out.bt RLb.good F λq _ hq=>⟨by have:=O.out;have:=L.out;omega,λe=>by have:=(af q e).1;omega⟩);have bC:=Hd ((ai.out.bt F (by have:=O.out;show ¬ m=E;omega)));have bQ:Hid (qab qad 1 3 E (λ_=>False) (wr.setCell ⟨E,ix,none⟩ (.int .i64 k)) (qem (D.take (k+1)) 0 (List.replicate c.length 0)) (.slice (some ⟨E,0,none⟩) c.length c.length)):=by show qab _ _ _ _ _ _ _ _;rw[bS];exact b3
  have bb:=Hd bo;have a1:=Hd F;have HR:=Hd bg;have HV:=Hd hv;have HJ:=Hd j1;obtain⟨x,aJ⟩:=nm (c[ix]);rw[aJ]at d0 HV bb HJ HR;obtain⟨Ax,cx,rfl,_,_⟩:=HV.out.val;have bh:¬ (Value.slice Av ys.length cv).ownBlock=some m:=λe=>by have:=(af _ e).1;have:=O.out;omega
  have bu:¬ (Value.slice Av ys.length cv).ownBlock=some Y:=λe=>by have:=(af _ e).1;have:=O.out;have:=L.out;omega
  have aG:¬ (Value.slice Av ys.length cv).ownBlock=some B:=λe=>by have:=(af _ e).1;have:=O.out;have:=L.out;omega
  have bY:¬ (Value.slice Av ys.length cv).ownBlock=some b:=λe=>by have:=(af _ e).1;have:=O.out;have:=L.out;omega
  clear b3 V bS bo aq F hr bg hv A az hl j1 aJ aC aD aM bP be
  go_wp2_with fail
  refine qek (λW=>W.cell? ⟨m,1,none⟩=some (.slice Av ys.length cv)/\W.cell? ⟨Y,0,none⟩=some (.pointer (some ⟨B,0,none⟩))/\W.cell? ⟨B,1,none⟩=some (.slice (some ⟨b,aR,none⟩) c.length cl)/\W.cell? ⟨b,aR+ix*2,none⟩=some (.int .i64 x.g)/\W.cell? ⟨b,aR+ix*2+1,none⟩=some (.slice Ax x.v.length cx)) (by kernel_rfl) (by rfl) (by kernel_rfl) ⟨e1,e2,e3,d0,d1⟩ (λhHeld=>?_);dsimp only[List.dropLast,List.getLastD,List.getLast?,List.getLast];obtain⟨Wd,ao⟩:=nm ((wr.setCell ⟨E,ix,none⟩ (.int .i64 k)).drew);have I:Ext (wr.setCell ⟨E,ix,none⟩ (.int .i64 k)) Wd:=ao ▸ Below.drew (Ext.refl _);rw[ao]at hHeld ⊢;clear ao e1 e2 e3 d0 d1
  obtain⟨g8,c8,w8,aI,aH,a7,ck,U⟩:=qcw RLb.good (by decide) (E+1) 61 22 (.agg #[.int .i64 0,.slice none 0 0]) 32 Tryz.underlying22 qn2 rfl (by decide) (λq=>base<=q/\q<w.heap.size) Wd ys (.slice Av ys.length cv) x [.int .i64 x.g,.slice Ax x.v.length cx]
   (HLr1.out.ext RLb.good I) (RLb.good.mono (RLb.good.bel HR.out I) λq _ hq=>⟨hq,λe=>by have:=(af q e).1;have:=O.out;have:=L.out;omega⟩) (by have:=hE.size;have:=a1.out.size;have:=I.size;have:=O.out;have:=bz.out.size;have:=hHeld.1;have:=HLr1.out;have:=bQ.out.own_lt (b:=E) rfl;omega) bm
  have a8:(Value.slice (some ⟨g8,0,none⟩) (ys.length+1) c8).ownBlock≠some m:=λe=>by
   have:=(aH.own_lt e).1;have:=O.out;omega
  have hp:=qi6 RLb.good 1 (bC.out.ext I) aH a7 bh a8 (λh=>by have:=O.out;have:=L.out;omega);have ap:=Hd hp;have k8:=hp.1.trans ((bC.out.ext I).cell 1 _);have f8:=hp.2.1;have aL:=Hd aI;clear hp aI
  (refine tk 0 ?_;try simp only[qae])
  (refine tk 1 ?_;try simp only[qae])
  (refine tk 2 ?_;try simp only[qae])
  (refine tk 3 ?_;try simp only[qae])
  (refine tk 4 ?_;try simp only[qae])
  (refine tk 5 ?_;try simp only[qae])
  (refine tk 6 ?_;try simp only[qae])
  (refine tk 7 ?_;try simp only[qae])
  (refine tk 8 ?_;try simp only[qae])
  refine wpAnyH_ready (rs:=[9]) (by kernel_rfl) (by simp) ?_;refine AllReadyH.cons rfl (λK hK=>?_) AllReadyH.nil;go_simp;have d:=Ext.k5 ((Ext.refl Wd).alloc (.cells #[.int .i64 x.g,.slice Ax x.v.length cx] 61)) hHeld;refine hK.out _ _ d (λ_=>?_);clear hK K
  try simp only[qae]
  refine wpAnyH_ready (rs:=[10]) (by kernel_rfl) (by simp) ?_;refine AllReadyH.cons rfl (λK hK=>?_) AllReadyH.nil;refine qf8 rfl _ _ _ rfl _ _ _ rfl rfl aL.out ?_;refine hK.out _ _ ⟨k8,U.cell d.2.1 bu,U.cell d.2.2.1 aG,U.cell d.2.2.2.1 bY,U.cell d.2.2.2.2 bY⟩ (λX=>?_);clear hK K
  try simp only[qae]
  (refine tk 11 ?_;try simp only[qae])
  refine wpAnyH_done (by kernel_rfl) ?_ _;show Oper.wp _ _ _ _ _ _;go_simp;have ae:((D.take (k+1)).map (qbg c)).length=ys.length+1:=by rw[bb.out,List.length_append];rfl
  have aO:=Hd ae;clear ae hHeld d X U
  go_wp2_with fail
  go_roundw
  case rel =>
   have aw:=ap.out.2.2.2.2;refine⟨k+1,some ⟨g8,0,none⟩,c8,by omega,by go_num,?_,by show qaf _ _ _ _;rw[aO.out];exact ap.out.2.2.1,by show qab _ _ _ _ _ _ _ _;rw[aO.out,bb.out];exact ap.out.2.2.2.1,?_⟩
   .refine Bt.new hE ((a1.out.ext I).mono (Z':=λq=>q=E\/(Value.slice Av ys.length cv).ownBlock=some q\/q=m) (λq _ h=>.inl h) |>.trans (aw.mono λq _ h=>.inr h)) λq _ h=>?_
    have:=O.out
    rcases h with h | h | h
    .omega
    .have:=(af q h).1;omega
    omega
   refine(bQ.out.ext qad.good I).bt qad.good aw λq _ h=>⟨id,λe=>?_⟩
   have hq:q=E:=by injection e with e;exact e.symm
   have:=O.out
   rcases h with h | h
   .have:=(af q h).1;omega
   omega
  simp[intOf];omega
 obtain rfl:k=c.length:=by omega
 have V:D.take c.length=D:=List.take_of_length_le (by omega);have ad:(D.map (qbg c))=qc7 c:=by rw[<- HD.out];rfl
 have aX:qem D 0 (List.replicate c.length 0)=qff c:=by rw[<- HD.out];rfl
 rw[V,ad]at ai aD;rw[V,aX]at aC;have cT:=Ext.keep hE k2;have e1:=ai.out.cell 1 _;clear V ad aX be;have cJ:=ai.out.lt;have aT:=Hd hE;clear hE p0 k1 k2 b8 ci cu
 go_wp2_with fail
 obtain⟨W7,rfl⟩:∃W7,W7=wr:=⟨_,rfl⟩
 have aF:=aT.out.size;have cd:Hid (w5.heap.size<=W7.heap.size):=aF;have cG:=(aC.out.own_lt (b:=E) rfl).2
 have b9:(qc7 c).length<=16:=by
  have:(qc7 c).length=D.length:=by rw[<- HD.out,qc7,List.length_map]
  omega
 clear aF e1
 go_loopw [68] (λvi wr=>∃(k:Nat) (Ax:Option Addr) (cx:Nat),k<=G.length/\vi = .int .i64 k/\Hid (Bt (λq=>q=m) W7 wr)/\Hid (qaf wr m 25 [.int .i64 n,.slice Av (qc7 c).length cv,.slice Ax ((edR c G).take k).length cx]) /\
  Hid (qab REd 3 88 W7.heap.size (λ_=>False) wr ((edR c G).take k) (.slice Ax ((edR c G).take k).length cx))) (λvi _=>G.length-(intOf vi).toNat)
 case atStart=>exact⟨0,none,0,Nat.zero_le _,rfl,Bt.refl _ _,ai,qab.nil ..⟩
 obtain⟨k,Ax,cx,hk,rfl,aB,ag,an⟩:=hrel;have aF:=aB.out.size;have e2:=ag.out.cell 2 _;have cK:=ag.out.lt
 by_cases al:k<G.length
 .obtain ⟨b,aR,cs,rfl,hb,az,hl,hr,A⟩:=HE.out.get k al;have aW:=aM _ (List.getElem_mem al);have aU:Kp (λq=>q<w.heap.size) w wr:=(bi.out.trans' aT.out).kp.trans (aB.out.kp λq _ h h'=>by have:=O.out;have:=L.out;omega);obtain⟨jf,jl,jt,rfl⟩:=id hr;have d0:=aU.cell (A.get 0 _) az;have d1:=aU.cell (A.get 1 _) az;have d2:=aU.cell (A.get 2 _) az;simp only[Nat.add_zero]at d0
  have ak:(edR c G).take (k+1)=(edR c G).take k++[⟨G[k].f,((qff c)[G[k].l.toNat]?).getD 0,G[k].t⟩]:=by
   rw[List.take_succ_eq_append_getElem (by rw[qiw];exact al)];simp[edR]
  obtain⟨⟨f,l,t⟩,aJ⟩:∃x,G[k]=x:=⟨_,rfl⟩
  rw[aJ]at d0 d1 d2 ak aW jf jl jt;simp only at d0 d1 d2 ak aW jf jl jt;obtain⟨lx,rfl⟩:∃lx:Nat,l=(lx:Int):=⟨l.toNat,by omega⟩
  have aV:lx<c.length:=by omega
  obtain⟨u,q0,⟨ee,ji⟩,_⟩:=(aC.out.bt qad.good aB.out λq _ h=>⟨id,λe=>by have hq:E=q:=(by injection e);have:=O.out;omega⟩).get1 lx (by rw[qff,qil,List.length_replicate];exact aV);injection ee with ee
  subst ee
  have bR:((qff c)[(lx:Int).toNat]?).getD 0=(qff c)[lx]'(by rw[qff,qil,List.length_replicate];exact aV):=by
   rw[Int.toNat_natCast,List.getElem?_eq_getElem (by rw[qff,qil,List.length_replicate];exact aV)];rfl
  rw[bR]at ak;obtain⟨p,bL⟩:=nm ((qff c)[lx]'(by rw[qff,qil,List.length_replicate];exact aV));rw[bL]at ak q0 ji;obtain⟨ys,aq⟩:=nm ((edR c G).take k);rw[aq]at ak ag an e2;have bm:ys.length<=1000000:=by rw[<- aq,List.length_take,qiw];omega
  have ah:=λq hq=>an.out.own_lt (b:=q) hq
  have bh:¬ (Value.slice Ax ys.length cx).ownBlock=some m:=λe=>by have:=(ah _ e).1;omega
  have bu:¬ (Value.slice Ax ys.length cx).ownBlock=some E:=λe=>by have:=(ah _ e).1;omega
  have aG:¬ (Value.slice Ax ys.length cx).ownBlock=some wr.heap.size:=λe=>by have:=(ah _ e).2;omega
  have cS:E<wr.heap.size:=by omega
  have bF:=Lib.cell?_alloc_some (.cells #[.int .i64 f,.int .i64 (lx:Int),.int .i64 t] 88) q0;have b6:=Lib.cell?_alloc_some (.cells #[.int .i64 f,.int .i64 (lx:Int),.int .i64 t] 88) e2;have bX:=Hd ak;have HJ:Hid (I64 f/\I64 p/\I64 t):=⟨jf,ji,jt⟩
  clear bR bL ak aq aJ hr A aU hl az
  go_wp2_with fail
  refine qek (λW=>W.cell? ⟨m,2,none⟩=some (.slice Ax ys.length cx)/\W.cell? ⟨wr.heap.size,0,none⟩=some (.int .i64 f)/\W.cell? ⟨wr.heap.size,1,none⟩=some (.int .i64 (lx:Int))/\W.cell? ⟨wr.heap.size,2,none⟩=some (.int .i64 t)/\W.cell? ⟨E,lx,none⟩=some (.int .i64 p)) (by kernel_rfl) (by rfl) (by kernel_rfl) ⟨b6,by go_simp,by go_simp,by go_simp,bF⟩ (λhHeld=>?_);dsimp only[List.dropLast,List.getLastD,List.getLast?,List.getLast];obtain⟨Wd,ao⟩:=nm ((wr.alloc (.cells #[.int .i64 f,.int .i64 (lx:Int),.int .i64 t] 88)).drew);have I:Ext wr Wd:=ao ▸ Below.drew ((Ext.refl _).alloc _);rw[ao]at hHeld ⊢;clear ao d0 d1 d2 q0 bF b6
  obtain⟨g8,c8,w8,aI,aH,a7,ck,U⟩:=qcw REd.good (by decide) W7.heap.size 88 23 (.agg #[.int .i64 0,.int .i64 0,.int .i64 0]) 24 Tryz.underlying23 qrj rfl (by decide) (λ_=>False) Wd ys (.slice Ax ys.length cx) ⟨f,p,t⟩ [.int .i64 f,.int .i64 p,.int .i64 t]
   (an.out.ext REd.good I) ⟨HJ.out.1,HJ.out.2.1,HJ.out.2.2,rfl⟩ (by have:=I.size;omega) bm
  have a8:(Value.slice (some ⟨g8,0,none⟩) (ys.length+1) c8).ownBlock≠some m:=λe=>by
   have:=(aH.own_lt e).1;omega
  have hp:=qi6 REd.good 2 (ag.out.ext I) aH a7 bh a8 (λh=>h);have ap:=Hd hp;have k8:=hp.1.trans ((ag.out.ext I).cell 2 _);have f8:=hp.2.1;have aL:=Hd aI;clear hp aI
  (refine tk 0 ?_;try simp only[qae])
  (refine tk 1 ?_;try simp only[qae])
  (refine tk 2 ?_;try simp only[qae])
  (refine tk 3 ?_;try simp only[qae])
  (refine tk 4 ?_;try simp only[qae])
  (refine tk 5 ?_;try simp only[qae])
  (refine tk 6 ?_;try simp only[qae])
  (refine tk 7 ?_;try simp only[qae])
  (refine tk 8 ?_;try simp only[qae])
  (refine tk 9 ?_;try simp only[qae])
  (refine tk 10 ?_;try simp only[qae])
  (refine tk 11 ?_;try simp only[qae])
  refine wpAnyH_ready (rs:=[12]) (by kernel_rfl) (by simp) ?_;refine AllReadyH.cons rfl (λK hK=>?_) AllReadyH.nil;go_simp;have d:=Ext.k5 ((Ext.refl Wd).alloc (.cells #[.int .i64 f,.int .i64 p,.int .i64 t] 88)) hHeld;refine hK.out _ _ d (λ_=>?_);clear hK K
  try simp only[qae]
  refine wpAnyH_ready (rs:=[13]) (by kernel_rfl) (by simp) ?_;refine AllReadyH.cons rfl (λK hK=>?_) AllReadyH.nil;refine qf8 rfl _ _ _ rfl _ _ _ rfl rfl aL.out ?_;refine hK.out _ _ ⟨k8,U.cell d.2.1 aG,U.cell d.2.2.1 aG,U.cell d.2.2.2.1 aG,U.cell d.2.2.2.2 bu⟩ (λX=>?_);clear hK K
  try simp only[qae]
  (refine tk 14 ?_;try simp only[qae])
  refine wpAnyH_done (by kernel_rfl) ?_ _;show Oper.wp _ _ _ _ _ _;go_simp;have ae:((edR c G).take (k+1)).length=ys.length+1:=by rw[bX.out,List.length_append];rfl
  have aO:=Hd ae;clear ae hHeld d X U
  go_wp2_with fail
  go_roundw
  case rel =>
   have aw:=ap.out.2.2.2.2;refine⟨k+1,some ⟨g8,0,none⟩,c8,by omega,by go_num,?_,by show qaf _ _ _ _;rw[aO.out];exact ap.out.2.2.1,by show qab _ _ _ _ _ _ _ _;rw[aO.out,bX.out];exact ap.out.2.2.2.1⟩
   have cE:=(aB.out.ext I).join (aw.mono (Z':=λq=>q=m\/W7.heap.size<=q) λq _ h=>by
    rcases h with h | h
    .exact .inr (ah q h).1
    exact .inl h)
   exact cE
  simp[intOf];omega
 obtain rfl:k=G.length:=by omega
 have V:(edR c G).take G.length=edR c G:=List.take_of_length_le (by rw[qiw];omega);rw[V]at ag an e2;have aK:=sortE_own W7.heap.size (λ_=>False) (edR c G) _ wr an.out (by rw[qiw];omega);have ah:=λq hq=>an.out.own_lt (b:=q) hq
 have bU:¬ (Value.slice Ax (edR c G).length cx).ownBlock=some m:=λe=>by have:=(ah _ e).1;omega
 have bK:¬ (Value.slice Ax (edR c G).length cx).ownBlock=some N:=λe=>by have:=(ah _ e).1;have:=O.out;have:=L.out;omega
 clear V hk
 go_wp2_with fail
 refine aK.mono ?_;rintro e w9 ⟨rfl,ba,bs⟩;have aS:=ag.out.bt bs bU;have e9:=aS.cell 2 _;have z9:=aS.lt;have a6:=co.out W7.heap.size _ w9 ba;have b5:=λq hq=>ba.own_lt (b:=q) hq
 have cr:=Hd aS;obtain⟨ab,av⟩:=nm (qef (qdi qbf (edR c G)))
 have cI:ab.length<=100000:=by
  rw[<- av];refine Nat.le_trans (ql6 qbw _) ?_;rw[qnu,qiw];exact cm
 rw[av]at a6;have cw:=Hd av;clear aK an ag e2 ba aS av
 go_wp2_with fail
 refine a6.mono ?_;rintro e aa ⟨v10,rfl,a2,ax⟩;have am:=a2.sl REd.good (by decide);obtain⟨Ay,cy,rfl,_,_⟩:=am.val;have J:=cr.out.bt ax bU;have c0:=J.cell 0 _;have c1:=J.cell 1 _;have c2:=J.cell 2 _;have c5:=J.frozen 2;have M:qaf aa N 25 [.int .i64 0,.slice none 0 0,.slice none 0 0]:=(((bv.out.ext aT.out).bt aB.out (by have:=O.out;have:=L.out;omega)).bt bs bK).bt ax bK;have r0:=M.cell 0 _;have r1:=M.cell 1 _;have r2:=M.cell 2 _;have cM:=M.frozen 0;have cX:=M.frozen 1;have cQ:=M.frozen 2;have cU:¬ m=N:=by have:=O.out;have:=L.out;omega
 have b1:¬ N=m:=by omega
 have bI:=Hd M;have cY:=Hd J;have bD:Bt (λq=>q=m\/q=N\/W7.heap.size<=q) W7 aa:=((aB.out.mono λq _ h=>.inl h).trans (bs.mono λq _ h=>.inr (.inr (ah q h).1))).trans (ax.mono λq _ h=>.inr (.inr (b5 q h).1));have HZ:=Hd bD;have bV:=Hd am;clear J M a6 bD a2 ax am
 go_wp2_with fail
 have s1:Bt (λq=>q=m\/q=N\/W7.heap.size<=q) aa (aa.setCell ⟨m,2,none⟩ (.slice Ay ab.length cy)):=Bt.set (Z:=λq=>q=m\/q=N\/W7.heap.size<=q) (p:=⟨m,2,none⟩) (Bt.refl _ _) (.inr (.inl rfl)) _;have cb:Bt (λq=>q=m) aa (aa.setCell ⟨m,2,none⟩ (.slice Ay ab.length cy)):=Bt.set (Z:=λq=>q=m) (p:=⟨m,2,none⟩) (Bt.refl _ _) (.inr rfl) _;have aQ:=(((bI.out.bt cb b1).set 0 (.int .i64 n)).set 1 (.slice Av (qc7 c).length cv)).set 2 (.slice Ay ab.length cy);obtain⟨Wf,bO⟩:=nm ((((aa.setCell ⟨m,2,none⟩ (.slice Ay ab.length cy)).setCell ⟨N,0,none⟩ (.int .i64 n)).setCell ⟨N,1,none⟩ (.slice Av (qc7 c).length cv)).setCell ⟨N,2,none⟩ (.slice Ay ab.length cy))
 have aZ:Bt (λq=>q=m\/q=N) aa Wf:=by
  rw[<- bO];exact Bt.set (Z:=λq=>q=m\/q=N) (p:=⟨N,2,none⟩) (Bt.set (Z:=λq=>q=m\/q=N) (p:=⟨N,1,none⟩) (Bt.set (Z:=λq=>q=m\/q=N) (p:=⟨N,0,none⟩) (Bt.set (Z:=λq=>q=m\/q=N) (p:=⟨m,2,none⟩) (Bt.refl _ _) (.inr (.inl rfl)) _) (.inr (.inr rfl)) _) (.inr (.inr rfl)) _) (.inr (.inr rfl)) _
 rw[bO]at aQ ⊢;have aY:=HZ.out.trans (aZ.mono (Z':=λq=>q=m\/q=N\/W7.heap.size<=q) λq _ h=>h.imp id .inl);have hm:=O.out;have cV:=L.out;have cN:=cd.out;refine bodyPost_ret (qg8 rfl _ _ N _ _ _ (.bool true) rfl rfl (aQ.cell 0 _) (aQ.cell 1 _) (aQ.cell 2 _)) rfl ⟨[.int .i64 n,.slice Av (qc7 c).length cv,.slice Ay ab.length cy],rfl,⟨hn,_,_,rfl,?_,?_⟩,?_⟩
 .have h1:=qaa.good.mono (S':=λb=>((base<=b/\b<w.heap.size)\/E+1<=b)/\b<W7.heap.size) (aD.out.sl RLb.good (by decide)) λb hb h=>⟨h,hb⟩
  exact qaa.good.mono (qaa.good.move h1 (aY.kp (S:=λb=>((base<=b/\b<w.heap.size)\/E+1<=b)/\b<W7.heap.size) λq _ h h'=>by omega)) λb _ h=>by have h:=h.1;omega
 .rw [show(qj8 n c G).es=ab from cw.out];exact qa3.good.mono (qa3.good.move bV.out (aZ.kp (S:=λb=>False\/W7.heap.size<=b) λq _ h h'=>by rcases h with h | h;exact h;omega)) λb _ h=>by rcases h with h | h;exact h.elim;omega
 exact Bt.new (bi.out.trans' aT.out) aY λq _ h=>by omega
end
end Go.Proofs.YtegenalcheooeaaGreat
