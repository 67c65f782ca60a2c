/- Of the proof of a law of the suites: LKey, LArcs1, LArcs2, LArcs3. -/
import Derived.Test.YtegenalcheooeaaGreatB02
import Derived.Test.YtegenalcheooeaaGreatB09
import Derived.Test.YtegenalcheooeaaGreatB15
import Derived.Test.YtegenalcheooeaaGreatB18
import Derived.Laws.Cover3
set_option linter.unusedSectionVars false
set_option linter.unusedSimpArgs false
set_option linter.unusedVariables false
namespace Go.Proofs.YtegenalcheooeaaGreat
open Go.RowKit
attribute [local go_sem] cell?_exto
section
set_option maxHeartbeats 1000000
set_option maxRecDepth 100000
/- lts.key: walked. -/
open Go.Shelf
def RBy:Rdr UInt8:=fun _ _ b cs=>cs=[.int .u8 (b.toNat:Int)]
theorem RBy.good:Good RBy 1:={
 len:=by rintro S w x cs rfl;rfl
 one:=by rintro S w x cs rfl u hu;simp at hu;subst hu;rfl
 move:=fun h _=>h
 mono:=fun h _=>h }
theorem info5b:(Tryz.prog.info? 5).map (fun i=>(i.zero,i.size,i.bytes))=some (some (.int .u8 0),1,1):=by kernel_rfl
def byCs (bs:List UInt8):List Value:=bs.map fun b=>.int .u8 (b.toNat:Int)
theorem RBy.cells {S:Nat->Prop} {w:World}:∀ {bs:List UInt8} {cs:List Value},Flat RBy 1 S w bs cs->cs=byCs bs
 | [],cs,h=>h
 | b :: bs,cs,⟨c1,c2,h1,h2,h3,h4⟩=>by
  rw [h1,show c1=_ from h3,RBy.cells h4];rfl
theorem RBy.flat {S:Nat->Prop} {w:World}:∀ bs:List UInt8,Flat RBy 1 S w bs (byCs bs)
 | []=>rfl
 | b :: bs=>⟨[.int .u8 (b.toNat:Int)],_,rfl,rfl,rfl,RBy.flat bs⟩
theorem Bt.join {Z:Nat->Prop} {a b c:World} (h:Bt Z a b) (k:Bt (fun q=>Z q∨a.heap.size<=q) b c):Bt Z a c :=
 ⟨k.os.trans h.os,k.tape.trans h.tape,k.output.trans h.output,Nat.le_trans h.size k.size,fun i hi hz=>(k.block i (Nat.lt_of_lt_of_le hi h.size) (by rintro (h | h);exact hz h;omega)).trans (h.block i hi hz)⟩
structure ByI (Bb base:Nat) (v0:Value) (W0:World) (xs:List UInt8) (W:World):Prop where
 bt:Bt (fun q=>q=Bb∨v0.ownBlock=some q) W0 W
 row:∃ v,Boxed W Bb 306 v∧qab RBy 1 5 base (fun _=>False) W xs v∧(v.ownBlock=v0.ownBlock∨∀ q,v.ownBlock=some q->W0.heap.size<=q)
theorem ByI.ext {Bb base:Nat} {v0:Value} {W0 W W':World} {xs:List UInt8} (h:ByI Bb base v0 W0 xs W) (he:Ext W W'):ByI Bb base v0 W0 xs W':=by
 obtain ⟨v,h1,h2,h3⟩:=h.row
 exact ⟨h.bt.ext he,v,(he.block Bb h1.lt).trans h1,h2.ext RBy.good he,h3⟩
theorem ByI.push {Bb base:Nat} {v0 v v':Value} {W0 W w':World} {xs ys:List UInt8} {o:Obj} (h:ByI Bb base v0 W0 xs W) (hb:Boxed W Bb 306 v) (hown:qab RBy 1 5 base (fun _=>False) W xs v) (hat:v.ownBlock=v0.ownBlock∨∀ q,v.ownBlock=some q->W0.heap.size<=q)
  (hown':w'.ownsRow base 5 1 v' (xs.length+ys.length) (byCs (xs++ys))) (hg:(W.alloc o).grownBy w' v.ownBlock) (hat':v'.ownBlock=v.ownBlock∨v'.ownBlock=some (W.heap.size+1)) (hv0:v0.ownBlock≠some Bb) (hBl:Bb<W0.heap.size) :
  Boxed w' Bb 306 v∧ByI Bb base v0 W0 (xs++ys) (w'.setCell ⟨Bb,0,none⟩ v'):=by
 have hlt:=hb.lt
 have hW0:=h.bt.size
 have hvB:v.ownBlock≠some Bb:=fun e=>by
  rcases hat with h | h
  ·exact hv0 (h ▸ e)
  ·have:=h _ e;omega
 have hv'B:v'.ownBlock≠some Bb:=fun e=>by
  rcases hat' with h | h
  ·exact hvB (h ▸ e)
  ·rw [h] at e;injection e with e;omega
 have hb1:Bt (fun q=>v.ownBlock=some q) W w':=((Ext.refl W).alloc o).bt.trans ((Bt.of_grown hg).mono fun q _ h=>h.symm)
 have hbx:Boxed w' Bb 306 v:=(hb1.block Bb hlt hvB).trans hb
 have hset:Bt (fun q=>q=Bb) w' (w'.setCell ⟨Bb,0,none⟩ v'):=Bt.set (Z:=fun q=>q=Bb) (p:=⟨Bb,0,none⟩) (Bt.refl _ _) (.inr rfl) _
 refine ⟨hbx,⟨h.bt.join ((hb1.mono fun q _ hq=>?_).trans (hset.mono fun q _ hq=>.inl (.inl hq))),v',hbx.set v',⟨_,?_,RBy.flat _⟩,?_⟩⟩
 ·rcases hat with h | h
  ·exact .inl (.inr (h ▸ hq))
  ·exact .inr (h q hq)
 ·have:=hown'.kept (grownBy_setCell' w' Bb v') (.inr hv'B)
  rw [List.length_append]
  exact this
 ·rcases hat' with h' | h'
  ·rw [h'];exact hat
  ·right
   intro q hq
   rw [h'] at hq
   injection hq with hq
   omega
theorem ByI.kp {Bb base:Nat} {v0:Value} {W0 W:World} {xs:List UInt8} (h:ByI Bb base v0 W0 xs W) {K:Nat->Prop} (hK:∀ q,K q->q≠Bb∧v0.ownBlock≠some q):Kp K W0 W:=h.bt.kp fun q _ hq hz=>by
 rcases hz with hz | hz
 ·exact (hK q hq).1 hz
 ·exact (hK q hq).2 hz
theorem Kp.cell {K:Nat->Prop} {W W':World} (h:Kp K W W') {B o:Nat} {v:Value} (hc:W.cell? ⟨B,o,none⟩=some v) (hK:K B):W'.cell? ⟨B,o,none⟩=some v :=
 (World.cell?_of_block (a:=⟨B,o,none⟩) (h.block B (World.block_lt_of_cell? W _ hc) hK)).trans hc
theorem qon:∀ a b:List Tm,qbj (a++b)=qbj a++qbj b
 | [],b=>by rw [qbj];rfl
 | x :: a,b=>by rw [List.cons_append,qbj,qbj,qon a b,List.append_assoc]
theorem qlq (l:List Tm) (k:Nat) (h:k<l.length):qbj (l.take (k+1))=qbj (l.take k)++qe6 l[k]:=by
 rw [List.take_succ_eq_append_getElem h,qon,qbj,qbj,List.append_nil]
theorem qst (l:List Tm) (k:Nat):(qbj (l.take k)).length<=(qbj l).length:=by
 conv=>rhs;rw [<- List.take_append_drop k l,qon,List.length_append]
 omega
def KeyC (t:Tm):Prop:=∀ (K:Nat->Prop) (Bb Ba base:Nat) (v0:Value) (W0:World) (cs:List Value) (xs:List UInt8) (W:World),(∀ q,K q->q≠Bb∧v0.ownBlock≠some q)->K Ba->base<=W0.heap.size->v0.ownBlock≠some Bb->Bb<W0.heap.size->RTm K W0 t cs ->
  W0.cell? ⟨Ba,0,none⟩=some (.func (.func 287) #[] #[.pointer (some ⟨Bb,0,none⟩),.pointer (some ⟨Ba,0,none⟩)])->ByI Bb base v0 W0 xs W->xs.length+(qe6 t).length<=100000000000 ->
  Calls Tryz.prog 287 #[.agg cs.toArray,.pointer (some ⟨Bb,0,none⟩),.pointer (some ⟨Ba,0,none⟩)] W fun e w'=>e = .returned (.tuple #[])∧ByI Bb base v0 W0 (xs++qe6 t) w'
theorem key_of (t:Tm) (hok:qbc t=true) (ht:∀ x∈t.l,KeyC x):KeyC t:=by
 intro K Bb Ba base v0 W0 cs xs w hK hKa hbs hv0 hBl hx hBa hI hlen
 have hn:=qlf hok
 obtain ⟨i1,i2,v,rfl,hv⟩:=(qaz ..).1 hx
 obtain ⟨A,c,rfl,hc,hc0⟩:=hv.val
 obtain ⟨vb,hbx,hown,hat⟩:=hI.row
 have hw0:=hI.bt.size
 have q0:=hbx.cell
 have qf:=hbx.frozen
 have hbl:=hbx.lt
 obtain ⟨news,hrow,hF⟩:=id hown
 obtain rfl:=RBy.cells hF
 obtain ⟨i5,hi5,hzz⟩:=Option.map_eq_some_iff.1 info5b
 simp only [Prod.mk.injEq] at hzz
 obtain ⟨hz0,hz1,hz2⟩:=hzz
 have y1:IntKind.u8.wrap t.n=t.n:=IntWalk.u8_in _ ⟨by omega,by omega⟩
 have y2:IntKind.u8.wrap (t.l.length:Int)=t.l.length:=IntWalk.u8_in _ ⟨by omega,by omega⟩
 have hrow2:=(hrow.alloc (.cells #[.int .i64 t.k,.int .i64 t.n,.slice A t.l.length c] 159)).alloc (.cells #[.int .u8 t.n,.int .u8 t.l.length] 5)
 have hcc:∀ j u,[Value.int .u8 t.n,.int .u8 t.l.length][j]? = some u->((w.alloc (.cells #[.int .i64 t.k,.int .i64 t.n,.slice A t.l.length c] 159)).alloc (.cells #[.int .u8 t.n,.int .u8 t.l.length] 5)).cell? ((⟨w.heap.size+1,0,none⟩:Addr).add j)=some u:=by
  have:=qew (w.alloc (.cells #[.int .i64 t.k,.int .i64 t.n,.slice A t.l.length c] 159)) #[.int .u8 t.n,.int .u8 t.l.length] 5
  rwa [World.size_alloc] at this
 obtain ⟨ys,hys⟩:∃ ys,ys=[UInt8.ofNat t.n.toNat,UInt8.ofNat t.l.length]:=⟨_,rfl⟩
 have hyc:byCs (xs++ys)=byCs xs++[.int .u8 t.n,.int .u8 t.l.length]:=by
  have e1:=byte_of hn.1 hn.2.1
  have e2:=byte_of (n:=(t.l.length:Int)) (by omega) (by omega)
  rw [Int.toNat_natCast] at e2
  rw [hys,byCs,List.map_append,<- byCs,List.map_cons,List.map_cons,List.map_nil,e1,e2]
 have hkt:qe6 t=ys++qbj t.l:=by rw [hys,keyTm_eq];rfl
 have hyl:ys.length=2:=by rw [hys];rfl
 have hxl:xs.length<=100000000000:=by omega
 have hI2:=hI.ext ((Ext.refl w).alloc (.cells #[.int .i64 t.k,.int .i64 t.n,.slice A t.l.length c] 159))
 have hbx2:Boxed (w.alloc (.cells #[.int .i64 t.k,.int .i64 t.n,.slice A t.l.length c] 159)) Bb 306 vb:=hbx.alloc _
 have hown2:=hown.ext RBy.good ((Ext.refl w).alloc (.cells #[.int .i64 t.k,.int .i64 t.n,.slice A t.l.length c] 159))
 have hpush:∀ (v8:Value) (w8:World),w8.ownsRow base 5 1 v8 (xs.length+2) (byCs xs++[.int .u8 t.n,.int .u8 t.l.length])->((w.alloc (.cells #[.int .i64 t.k,.int .i64 t.n,.slice A t.l.length c] 159)).alloc (.cells #[.int .u8 t.n,.int .u8 t.l.length] 5)).grownBy w8 vb.ownBlock ->
   (v8.ownBlock=vb.ownBlock∨v8.ownBlock=some ((w.alloc (.cells #[.int .i64 t.k,.int .i64 t.n,.slice A t.l.length c] 159)).alloc (.cells #[.int .u8 t.n,.int .u8 t.l.length] 5)).heap.size)->Boxed w8 Bb 306 vb∧ByI Bb base v0 W0 (xs++ys) (w8.setCell ⟨Bb,0,none⟩ v8):=fun v8 w8 h1 h2 h3 =>
  hI2.push hbx2 hown2 hat (by rw [hyl,hyc];exact h1) h2 (by rw [World.size_alloc] at h3;exact h3) hv0 hBl
 have hvw:vb.ownBlock≠some w.heap.size:=fun e=>by have:=(hown.own_lt e).2;omega
 have HX2:Hid (∀ w8:World,((w.alloc (.cells #[.int .i64 t.k,.int .i64 t.n,.slice A t.l.length c] 159)).alloc (.cells #[.int .u8 t.n,.int .u8 t.l.length] 5)).grownBy w8 vb.ownBlock->w8.cell? ⟨w.heap.size,2,none⟩=some (.slice A t.l.length c)):=fun w8 hg =>
  (World.cell?_of_block (a:=⟨w.heap.size,2,none⟩) (hg.block w.heap.size (by simp;omega) fun e=>hvw e.symm)).trans (by go_simp)
 have HP:=Hd hpush
 have HV:=Hd hv
 have HT:=Hd ht
 have HKT:=Hd hkt
 have HL:Hid (xs.length+2+(qbj t.l).length<=100000000000):=by show _<=_;rw [hkt,List.length_append,hyl] at hlen;omega
 clear hx hv ht hI hI2 hbx hbx2 hown hown2 hF hpush hyc hys hkt hat hrow hlen
 go_enter Tryz.func287,Tryz.ntmps287
 go_wp2_with (at_builtin;refine wpList_append_own_at _ rfl _ _ 306 rfl base 5 i5 (.int .u8 0) 1 1 Tryz.underlying306 hi5 hz0 hz1 hz2 rfl (by decide) _ _ _ rfl hrow2 ⟨w.heap.size+1,0,none⟩ 2 2 [.int .u8 t.n,.int .u8 t.l.length] rfl rfl hcc (by simp [Value.oneCell']) (by unfold maxLen;omega) (by omega) (by simp;omega) ?_;intro v8 w8 hown8 hgrow8 hnil8 hat8;obtain ⟨hb8,hi8⟩:=HP.out v8 w8 hown8 hgrow8 hat8;obtain ⟨g8,c8,rfl⟩:=ownsRow_succ hown8;have q8:=hb8.cell;have f8:=hb8.frozen;have x2:=HX2.out w8 hgrow8;have HI8:=Hd hi8;clear hi8 hb8)
 go_loopw [19] (fun vi wr=>∃ k:Nat,k<=t.l.length∧vi = .int .i64 k∧Hid (ByI Bb base v0 W0 (xs++ys++qbj (t.l.take k)) wr)) (fun vi _=>t.l.length-(intOf vi).toNat)
 case atStart=>exact ⟨0,Nat.zero_le _,rfl,by show ByI _ _ _ _ _ _;rw [List.take_zero,qbj,List.append_nil];exact HI8.out⟩
 case round =>
  obtain ⟨k,hk,rfl,hI⟩:=hrel
  have hKp:=hI.out.kp hK
  by_cases hlt:k<t.l.length
  ·obtain ⟨b,off,cs,rfl,hb,hSb,hl,hr,hcell⟩:=HV.out.get k hlt
   obtain ⟨j1,j2,u,rfl,hu⟩:=(qaz ..).1 hr
   have a0:=hKp.cell (hcell.get 0 _) hSb
   have a1:=hKp.cell (hcell.get 1 _) hSb
   have a2:=hKp.cell (hcell.get 2 _) hSb
   simp only [Nat.add_zero] at a0
   have gB0:=hKp.cell hBa hKa
   have hBalt:=World.block_lt_of_cell? wr ⟨Ba,0,none⟩ gB0
   have hle:=qst t.l (k+1)
   rw [qlq t.l k hlt,List.length_append] at hle
   have hrec:=fun W (hW:Ext wr W)=>HT.out _ (List.getElem_mem hlt) K Bb Ba base v0 W0 _ _ W hK hKa hbs hv0 hBl hr hBa (hI.out.ext hW) (by have:=HL.out;rw [List.length_append,List.length_append,hyl];omega)
   obtain ⟨Au,cu,rfl,_,_⟩:=hu.val
   have hst:=qlq t.l k hlt
   have HST:=Hd hst
   obtain ⟨x,hxe⟩:∃ x,t.l[k]=x:=⟨_,rfl⟩
   rw [hxe] at a0 a1 a2 hrec HST
   have gB:=Lib.cell?_alloc_some (.cells #[.int .i64 x.k,.int .i64 x.n,.slice Au x.l.length cu] 159) gB0
   clear hr hu hl hcell hst hle hxe hKp gB0
   go_wp2_with fail
   refine (hrec _ bel).mono ?_
   rintro e w5 ⟨rfl,h5⟩
   have H5:=Hd h5
   clear h5
   go_wp2_with fail
   go_roundw
   case rel=>exact ⟨k+1,by omega,by go_num,by show ByI _ _ _ _ _ _;rw [HST.out,<- List.append_assoc];exact H5.out⟩
   case measure=>simp [intOf];omega
  ·have hkl:t.l.take k=t.l:=List.take_of_length_le (by omega)
   rw [hkl] at hI
   clear hkl hKp
   go_wp2_with fail
   go_end0
   rw [HKT.out,<- List.append_assoc]
   exact ⟨rfl,hI.out⟩
theorem keyT_c:∀ t,qbc t=true->KeyC t:=Tm.ind fun t ih h=>key_of t h fun x hx=>ih x hx ((qlf h).2.2.2 x hx)
theorem key_c (S:Nat->Prop) (x:Lb) (hok:qax x=true) (hsz:x.size<=1000000000) (cs:List Value) (w:World) (hx:RLb S w x cs) :
  Calls Tryz.prog 272 #[.agg cs.toArray] w fun e w'=>e = .returned (.string (qd0 x))∧Ext w w':=by
 have hv8:=qli hok
 obtain ⟨i1,v,rfl,hv⟩:=id hx
 obtain ⟨A,c,rfl,hc,hc0⟩:=hv.val
 have hv2:qam (fun q=>q<w.heap.size) w x.v [.slice A x.v.length c]:=qam.good.mono hv fun b hb _=>hb
 have HV:=Hd hv2
 have HT:Hid (∀ t∈x.v,KeyC t):=fun t ht=>keyT_c t (hv8.2.2.2 t ht)
 have hg0:=hv8.1
 have hg1:=hv8.2.1
 have hl8:=hv8.2.2.1
 have hkl:(qbj x.v).length=2*x.size:=qmv x.v
 have y0:IntKind.i64.wrap (x.g+4)=x.g+4:=IntWalk.i64_in _ (by omega)
 have y1:IntKind.u8.wrap (x.g+4)=x.g+4:=IntWalk.u8_in _ ⟨by omega,by omega⟩
 have y2:IntKind.u8.wrap (x.v.length:Int)=x.v.length:=IntWalk.u8_in _ ⟨by omega,by omega⟩
 clear hx hv hv2 hv8
 go_enter Tryz.func272,Tryz.ntmps272
 go_wp2_with fail
 obtain ⟨W0,hW0⟩:∃ W0,(((w.alloc (.cells #[.int .i64 x.g,.slice A x.v.length c] 61)).alloc (.cells #[.int .u8 (x.g+4),.int .u8 x.v.length] 5)).alloc (.cells #[.slice (some ⟨w.heap.size+1,0,none⟩) 2 2] 306)).alloc (.cells #[.func (.func 287) #[] #[.pointer (some ⟨w.heap.size+1+1,0,none⟩),.pointer (some ⟨w.heap.size+1+1+1,0,none⟩)]] 307)=W0:=⟨_,rfl⟩
 have hX0:Ext w W0:=by rw [<- hW0];exact ((((Ext.refl w).alloc _).alloc _).alloc _).alloc _
 have hs0:W0.heap.size=w.heap.size+4:=by rw [<- hW0];simp
 obtain ⟨ys,hys⟩:∃ ys,ys=[UInt8.ofNat (x.g+4).toNat,UInt8.ofNat x.v.length]:=⟨_,rfl⟩
 have hyl:ys.length=2:=by rw [hys];rfl
 have hkx:keyLb x=ys++qbj x.v:=by rw [hys];rfl
 have hyc:byCs ys=[.int .u8 (x.g+4),.int .u8 x.v.length]:=by
  have e1:=byte_of (n:=x.g+4) (by omega) (by omega)
  have e2:=byte_of (n:=(x.v.length:Int)) (by omega) (by omega)
  rw [Int.toNat_natCast] at e2
  rw [hys,byCs,List.map_cons,List.map_cons,List.map_nil,e1,e2]
 obtain ⟨W1,hW1⟩:∃ W1,w.alloc (.cells #[.int .i64 x.g,.slice A x.v.length c] 61)=W1:=⟨_,rfl⟩
 have hs1:W1.heap.size=w.heap.size+1:=by rw [<- hW1,World.size_alloc]
 obtain ⟨W2,hW2⟩:∃ W2,W1.alloc (.cells #[.int .u8 (x.g+4),.int .u8 x.v.length] 5)=W2:=⟨_,rfl⟩
 have hs2:W2.heap.size=w.heap.size+1+1:=by rw [<- hW2,World.size_alloc,hs1]
 obtain ⟨W3,hW3⟩:∃ W3,W2.alloc (.cells #[.slice (some ⟨w.heap.size+1,0,none⟩) 2 2] 306)=W3:=⟨_,rfl⟩
 have hs3:W3.heap.size=w.heap.size+1+1+1:=by rw [<- hW3,World.size_alloc,hs2]
 have b1:W0.heap[w.heap.size+1]? = some (.cells #[.int .u8 (x.g+4),.int .u8 x.v.length] 5 (0,0)):=by
  rw [<- hW0,hW1,hW2,hW3,Below.heap_alloc _ _ _ (by omega),<- hW3,Below.heap_alloc _ _ _ (by omega),<- hW2,<- hs1]
  exact heap_alloc_new _ _
 have b2:Boxed W0 (w.heap.size+1+1) 306 (.slice (some ⟨w.heap.size+1,0,none⟩) 2 2):=by
  show W0.heap[_]? = _
  rw [<- hW0,hW1,hW2,hW3,Below.heap_alloc _ _ _ (by omega),<- hW3,<- hs2]
  exact heap_alloc_new _ _
 have b3:W0.cell? ⟨w.heap.size+1+1+1,0,none⟩=some (.func (.func 287) #[] #[.pointer (some ⟨w.heap.size+1+1,0,none⟩),.pointer (some ⟨w.heap.size+1+1+1,0,none⟩)]):=by
  rw [<- hW0,hW1,hW2,hW3,<- hs3,World.cell?_alloc_new];rfl
 clear hs1 hs2 hs3 hW1 hW2 hW3
 clear W1 W2 W3
 have hby:ByI (w.heap.size+1+1) w.heap.size (.slice (some ⟨w.heap.size+1,0,none⟩) 2 2) W0 ys W0 :=
  ⟨Bt.refl _ _,_,b2,⟨_,⟨by rw [hyl,hyc];rfl,.inr ⟨w.heap.size+1,2,_,by rw [hyl],by omega,b1,by omega,by unfold maxLen;omega,rfl,by rw [hyl,hyc];rfl⟩⟩,RBy.flat _⟩,.inl rfl⟩
 rw [hW0]
 clear hW0 b1 b2 hys hyc
 obtain ⟨Ba,hBa⟩:∃ Ba,w.heap.size+1+1+1=Ba:=⟨_,rfl⟩
 obtain ⟨Bb,hBb⟩:∃ Bb,w.heap.size+1+1=Bb:=⟨_,rfl⟩
 rw [hBa,hBb]
 rw [hBa,hBb] at b3
 rw [hBb] at hby
 have hK:∀ q,(q<w.heap.size∨q=Ba)->q≠Bb∧(Value.slice (some ⟨w.heap.size+1,0,none⟩) 2 2).ownBlock≠some q:=by
  intro q hq
  refine ⟨by omega,?_⟩
  intro e
  simp only [Value.ownBlock,Option.some.injEq] at e
  omega
 have hv0:(Value.slice (some ⟨w.heap.size+1,0,none⟩) 2 2).ownBlock≠some Bb:=by
  intro e
  simp only [Value.ownBlock,Option.some.injEq] at e
  omega
 have hHK:=Hd hK
 have hHv0:=Hd hv0
 have hHX0:=Hd hX0
 have hL:Hid (Bb<W0.heap.size∧w.heap.size<=W0.heap.size):=by show _∧_;omega
 have HV0:Hid (qam (fun q=>q<w.heap.size∨q=Ba) W0 x.v [.slice A x.v.length c]):=qam.good.mono (qam.good.move HV.out hX0.kp) fun b _ hb=>.inl hb
 have HB:=Hd hby
 have HKX:=Hd hkx
 have HB3:=Hd b3
 have HKL:=Hd hkl
 have hHS:Hid (w.heap.size<Bb):=by show _<_;omega
 clear hBa hBb hK hv0 hX0 hs0 hby hkx b3 HV hkl
 go_loopw [20] (fun vi wr=>∃ k:Nat,k<=x.v.length∧vi = .int .i64 k∧Hid (ByI Bb w.heap.size (.slice (some ⟨w.heap.size+1,0,none⟩) 2 2) W0 (ys++qbj (x.v.take k)) wr)) (fun vi _=>x.v.length-(intOf vi).toNat)
 case atStart=>exact ⟨0,Nat.zero_le _,rfl,by show ByI _ _ _ _ _ _;rw [List.take_zero,qbj,List.append_nil];exact HB.out⟩
 case round =>
  obtain ⟨k,hk,rfl,hI⟩:=hrel
  have hKp:=hI.out.kp hHK.out
  by_cases hlt:k<x.v.length
  ·obtain ⟨b,off,cs,rfl,hb,hSb,hl,hr,hcell⟩:=HV0.out.get k hlt
   obtain ⟨j1,j2,u,rfl,hu⟩:=(qaz ..).1 hr
   have a0:=hKp.cell (hcell.get 0 _) hSb
   have a1:=hKp.cell (hcell.get 1 _) hSb
   have a2:=hKp.cell (hcell.get 2 _) hSb
   simp only [Nat.add_zero] at a0
   have gB0:=hKp.cell HB3.out (.inr rfl)
   have hle:=qst x.v (k+1)
   rw [qlq x.v k hlt,List.length_append] at hle
   have hrec:=fun W (hW:Ext wr W)=>HT.out _ (List.getElem_mem hlt) _ Bb Ba w.heap.size _ W0 _ _ W hHK.out (.inr rfl) hL.out.2 hHv0.out hL.out.1 hr HB3.out (hI.out.ext hW) (by have:=HKL.out;rw [List.length_append,hyl];omega)
   obtain ⟨Au,cu,rfl,_,_⟩:=hu.val
   have hst:=qlq x.v k hlt
   have HST:=Hd hst
   obtain ⟨y,hxe⟩:∃ y,x.v[k]=y:=⟨_,rfl⟩
   rw [hxe] at a0 a1 a2 hrec HST
   have gB:=Lib.cell?_alloc_some (.cells #[.int .i64 y.k,.int .i64 y.n,.slice Au y.l.length cu] 159) gB0
   clear hr hu hl hcell hst hle hxe hKp gB0
   go_wp2_with fail
   refine (hrec _ bel).mono ?_
   rintro e w5 ⟨rfl,h5⟩
   have H5:=Hd h5
   clear h5
   go_wp2_with fail
   go_roundw
   case rel=>exact ⟨k+1,by omega,by go_num,by show ByI _ _ _ _ _ _;rw [HST.out,<- List.append_assoc];exact H5.out⟩
   case measure=>simp [intOf];omega
  ·have hkl:x.v.take k=x.v:=List.take_of_length_le (by omega)
   rw [hkl] at hI
   clear hkl hKp
   obtain ⟨vb,hbx,hown,hat⟩:=hI.out.row
   have q0:=hbx.cell
   obtain ⟨news,hrow,hF⟩:=hown
   obtain rfl:=RBy.cells hF
   have hn2:(ys++qbj x.v).length=(qbj x.v).length+1+1:=by rw [List.length_append,hyl];omega
   rw [hn2] at hrow
   obtain ⟨g,c9,rfl⟩:=ownsRow_succ hrow
   have hcv:=run_convert_bytes_back (P:=Tryz.prog) wr 306 9 5 ⟨g,0,none⟩ c9 (ys++qbj x.v) Tryz.underlying306 Tryz.underlying5 Tryz.underlying9 (fun j hj=>hrow.cells rfl j _ (by rw [byCs,List.getElem?_map,List.getElem?_eq_getElem hj];rfl))
   rw [hn2,<- HKX.out] at hcv
   have hXr:Ext w wr:=Bt.new hHX0.out hI.out.bt fun q _ hq=>by
    have h1:=hL.out
    have h2:=hHS.out
    rcases hq with hq | hq
    ·omega
    ·simp only [Value.ownBlock,Option.some.injEq] at hq;omega
   have HXr:=Hd hXr
   clear hXr hat hrow hF hn2 hbx
   go_wp2_with fail
   go_ret
   exact ⟨rfl,HXr.out⟩
end
section
open Go.Shelf
theorem IsMap.lookup2 {κ:Type} [DecidableEq κ] {P:Program} {K:κ->Value} {W:World} {m:Nat} {f:κ->Option Value} (h:IsMap K W m f) {t kt et:TypeId} (ht:P.underlying t=some (.map kt et)) (hk:KeyOk P kt K) {z:Value} (hz:(zeroValue et).run P W = .ok z W) (a:κ) :
  (Instr.lookup t (.map (some m)) (K a) true).run P W = .ok (.tuple #[(f a).getD z,.bool (f a).isSome]) W:=by
 obtain ⟨es,clock,ks,h1,h2,h3,h4,h5⟩:=h
 obtain ⟨d,hd,hs,hc⟩:=hk.kind
 have hf:=qjl hs a es.toList ks 0 h2
 have hlen:es.toList.length=ks.length:=by have:=congrArg List.length h2;simpa using this
 unfold Instr.lookup Instr.findKey
 by_cases hm:a∈ks
 ·rw [dif_pos hm] at hf
  have hi:ks.idxOf a<ks.length:=List.idxOf_lt_length_of_mem hm
  have hv:=h4 _ hi
  rw [List.getElem_idxOf] at hv
  rw [List.getElem?_eq_getElem (by omega)] at hv hf
  simp only [Option.map_some] at hv hf
  simp [run_underlying ht,run_underlying hd,getObj,Sem.run,h1,hc,hf,hv]
 ·rw [dif_neg hm] at hf
  rw [h5 a hm]
  simp [run_underlying ht,run_underlying hd,getObj,Sem.run,h1,hc,hf,hz]
def qbm (ls:List Lb) (x:Lb):List Lb:=if x∈ls then ls else ls++[x]
def mapF (ls:List Lb) (k:ByteArray):Option Value:=(ls.findIdx? fun y=>decide (qd0 y=k)).map fun i=>.int .i64 (i:Int)
theorem qmz:∀ (ls:List Lb) (x:Lb),qax x=true->(∀ y∈ls,qax y=true)->ls.findIdx? (fun y=>decide (qd0 y=qd0 x))=if x∈ls then some (ls.idxOf x) else none
 | [],x,_,_=>by simp
 | y :: ls,x,hx,h=>by
  have ih:=qmz ls x hx fun z hz=>h z (by simp [hz])
  have hy:=h y (by simp)
  rw [List.findIdx?_cons,ih]
  by_cases e:y=x
  ·subst e
   simp
  ·have hk:decide (qd0 y=qd0 x)=false:=decide_eq_false fun h'=>e (keyS_inj hy hx h')
   rw [hk]
   have hb:(y == x)=false:=beq_eq_false_iff_ne.2 e
   by_cases hm:x∈ls
   ·simp [hm,List.idxOf_cons,hb]
   ·have:¬ x∈y :: ls:=by simp [hm,Ne.symm e]
    simp [hm,this]
theorem qso (ls:List Lb) (x:Lb) (hx:qax x=true) (h:∀ y∈ls,qax y=true):mapF ls (qd0 x)=if x∈ls then some (.int .i64 (ls.idxOf x:Int)) else none:=by
 unfold mapF
 rw [qmz ls x hx h]
 split <;> rfl
theorem qpg (ls:List Lb) (x:Lb) (hx:qax x=true) (h:∀ y∈ls,qax y=true) (hn:x∉ls):(fun b=>if b=qd0 x then some (Value.int .i64 (ls.length:Int)) else mapF ls b)=mapF (ls++[x]):=by
 funext b
 unfold mapF
 rw [List.findIdx?_append]
 by_cases e:b=qd0 x
 ·subst e
  rw [if_pos rfl,qmz ls x hx h,if_neg hn]
  simp
 ·rw [if_neg e]
  have:([x].findIdx? fun y=>decide (qd0 y=b))=none:=by simp [Ne.symm e]
  rw [this]
  simp
theorem mapF_nil:mapF []=fun _=>none:=rfl
structure qcq (base B:Nat) (ls:List Lb) (es:List Ed) (ve:Value) (W:World):Prop where
 lt:B<base
 ex:∃ (mo:Option Nat) (vl:Value) (T:Nat->Prop),qaf W B 235 [.map mo,vl,ve]∧qab RLb 2 61 base T W ls vl∧qab REd 3 88 base (fun _=>False) W es ve∧(∀ q,T q->base<=q∧mo≠some q∧ve.ownBlock≠some q)∧(∀ q,vl.ownBlock=some q->ve.ownBlock≠some q) ∧
  ((mo=none∧ls=[])∨∃ m,mo=some m∧base<=m∧IsMap Value.string W m (mapF ls))
theorem qcq.ext {base B:Nat} {ls:List Lb} {es:List Ed} {ve:Value} {W W':World} (h:qcq base B ls es ve W) (he:Ext W W'):qcq base B ls es ve W':=by
 obtain ⟨mo,vl,T,h1,h2,h3,h4,h5,h6⟩:=h.ex
 refine ⟨h.lt,mo,vl,T,h1.ext he,h2.ext RLb.good he,h3.ext REd.good he,h4,h5,h6.imp id ?_⟩
 rintro ⟨m,rfl,hm,hp⟩
 exact ⟨m,rfl,hm,hp.move (he.block m hp.lt)⟩
theorem addLb_len (ls:List Lb) (x:Lb):(qbm ls x).length<=ls.length+1:=by unfold qbm;split <;> simp
theorem addLb_ok {ls:List Lb} {x:Lb} (hx:qax x=true) (h:∀ y∈ls,qax y=true):∀ y∈qbm ls x,qax y=true:=fun y hy=>by
 unfold qbm at hy
 split at hy
 ·exact h y hy
 ·rcases List.mem_append.1 hy with hy | hy
  ·exact h y hy
  ·rw [List.mem_singleton.1 hy];exact hx
theorem qcq.at {base B:Nat} {ls:List Lb} {es:List Ed} {ve:Value} {W:World} (h:qcq base B ls es ve W):W.cell? ⟨B,2,none⟩=some ve:=by
 obtain ⟨mo,vl,T,h1,_⟩:=h.ex
 exact h1.cell 2 _
end
section
set_option linter.unnecessarySimpa false
open Go.Shelf
theorem qmf:(Tryz.prog.info? 61).map (fun i=>(i.zero,i.size,i.bytes))=some (some (.agg #[.int .i64 0,.slice none 0 0]),2,32):=by kernel_rfl
theorem run_eql_map_nil (W:World) (mo:Option Nat):(binOp .eql 233 (.map mo) (.map none)).run Tryz.prog W = .ok (.bool mo.isNone) W:=by
 have h:=run_equal_map_nil (P:=Tryz.prog) (w:=W) 233 _ _ mo Tryz.underlying233
 simp [binOp,h,go_sem]
structure qfh (base B m:Nat) (ls:List Lb) (es:List Ed) (vl ve:Value) (T:Nat->Prop) (W:World):Prop where
 box:qaf W B 235 [.map (some m),vl,ve]
 lab:qab RLb 2 61 base T W ls vl
 ed:qab REd 3 88 base (fun _=>False) W es ve
 T:∀ q,T q->base<=q∧m≠q∧ve.ownBlock≠some q
 ap:∀ q,vl.ownBlock=some q->ve.ownBlock≠some q
 mb:base<=m
 map:IsMap Value.string W m (mapF ls)
theorem qfh.ext {base B m:Nat} {ls:List Lb} {es:List Ed} {vl ve:Value} {T:Nat->Prop} {W W':World} (h:qfh base B m ls es vl ve T W) (he:Ext W W'):qfh base B m ls es vl ve T W' :=
 ⟨h.box.ext he,h.lab.ext RLb.good he,h.ed.ext REd.good he,h.T,h.ap,h.mb,h.map.move (he.block m h.map.lt)⟩
theorem qfh.arcs {base B m:Nat} {ls:List Lb} {es:List Ed} {vl ve:Value} {T:Nat->Prop} {W:World} (h:qfh base B m ls es vl ve T W) (hB:B<base):qcq base B ls es ve W :=
 ⟨hB,some m,vl,T,h.box,h.lab,h.ed,fun q hq=>⟨(h.T q hq).1,fun e=>(h.T q hq).2.1 (by injection e),(h.T q hq).2.2⟩,h.ap,(.inr ⟨m,rfl,h.mb,h.map⟩)⟩
theorem qjw {α:Type} {R:Rdr α} {k base:Nat} {e:TypeId} {T:Nat->Prop} {W:World} {xs:List α} {v:Value} {m:Nat} {es:Array MapEntry} {c:Nat} (h:qab R k e base T W xs v) (hm:W.heap[m]? = some (.map es c)):v.ownBlock≠some m:=fun hv=>by
 obtain ⟨news,h1,_⟩:=h
 have:=qp1 h1 hv hm
 cases this
theorem qfh.stored {base B m:Nat} {ls:List Lb} {es:List Ed} {vl ve:Value} {T:Nat->Prop} {W W3:World} (h:qfh base B m ls es vl ve T W) (hB:B<base) (hg:W.grownBy W3 (some m)) :
  qaf W3 B 235 [.map (some m),vl,ve]∧qab RLb 2 61 base T W3 ls vl∧qab REd 3 88 base (fun _=>False) W3 es ve:=by
 have hb:Bt (fun q=>q=m) W W3:=(Bt.of_grown hg).mono fun q _ h=>by injection h
 obtain ⟨es',c,ks,h1,_⟩:=h.map
 have h2:=h.mb
 refine ⟨h.box.bt hb (by omega),h.lab.bt RLb.good hb fun b _ hz=>⟨fun ht=>(h.T b ht).2.1 hz.symm,fun e=>qjw h.lab h1 (hz ▸ e)⟩,h.ed.bt REd.good hb fun b _ hz=>⟨id,fun e=>qjw h.ed h1 (hz ▸ e)⟩⟩
theorem qfh.pushed {base B m:Nat} {ls:List Lb} {es:List Ed} {vl ve v8:Value} {T T':Nat->Prop} {W3 w5 w8:World} {x:Lb} {n:Nat} (hB:B<base) (hbase:base<=m) (hT:∀ q,T' q->base<=q∧m≠q∧ve.ownBlock≠some q) (hap:∀ q,vl.ownBlock=some q->ve.ownBlock≠some q)
  (box:qaf w5 B 235 [.map (some m),vl,ve]) (ed:qab REd 3 88 base (fun _=>False) w5 es ve) (map:IsMap Value.string w5 m (mapF (ls++[x]))) (hlb:∀ q,vl.ownBlock=some q->base<=q)
  (ho:qab RLb 2 61 base T' w8 (ls++[x]) v8) (hbt:Bt (fun q=>vl.ownBlock=some q) w5 w8) (hat:∀ q,v8.ownBlock=some q->vl.ownBlock=some q∨w5.heap.size<=q) (hvm:vl.ownBlock≠some m) :
  w8.cell? ⟨B,1,none⟩=some vl∧w8.frozen? ⟨B,1,none⟩=false∧qcq base B (ls++[x]) es ve (w8.setCell ⟨B,1,none⟩ v8)∧Bt (fun q=>vl.ownBlock=some q∨q=B) w5 (w8.setCell ⟨B,1,none⟩ v8):=by
 have hvB:vl.ownBlock≠some B:=fun e=>by have:=hlb _ e;omega
 have hbs:=box.lt
 have hv8B:v8.ownBlock≠some B:=fun e=>by
  rcases hat _ e with h | h
  ·exact hvB h
  ·omega
 have hp:=qix RLb.good 1 box ho hbt hvB hv8B (fun h=>by have:=(hT _ h).1;omega)
 have hset:Bt (fun q=>vl.ownBlock=some q∨q=B) w5 (w8.setCell ⟨B,1,none⟩ v8):=hp.2.2.2.2
 refine ⟨hp.1.trans (box.cell 1 _),hp.2.1,⟨hB,some m,v8,T',hp.2.2.1,hp.2.2.2.1,ed.bt REd.good hset fun b hb hz=>⟨id,fun e=>?_⟩,fun q hq=>⟨(hT q hq).1,fun e=>(hT q hq).2.1 (by injection e),(hT q hq).2.2⟩,fun q hq e=>?_,.inr ⟨m,rfl,hbase,map.move (hset.block m map.lt ?_)⟩⟩,hset⟩
 ·rcases hz with hz | hz
  ·exact hap _ hz e
  ·have:=(ed.own_lt (hz ▸ e)).1;omega
 ·rcases hat q hq with h | h
  ·exact hap q h e
  ·have:=(ed.own_lt e).2;omega
 ·rintro (h | h)
  ·exact hvm h
  ·omega
def NumPost (base lim B:Nat) (ls:List Lb) (es:List Ed) (ve:Value) (x:Lb) (w:World) (e:Ending) (w':World):Prop:=e = .returned (.int .i64 (ls.idxOf x:Int))∧qcq base B (qbm ls x) es ve w'∧Bt (fun q=>q=B∨base<=q∧q<lim) w w'
set_option maxHeartbeats 1000000 in
set_option maxRecDepth 100000 in
theorem number_c (S:Nat->Prop) (base B:Nat) (ls:List Lb) (es:List Ed) (ve:Value) (x:Lb) (hok:qax x=true) (hoks:∀ y∈ls,qax y=true) (hsz:x.size<=1000000000) (hlen:ls.length<=1000000) (cs:List Value) (w0 w:World) (hS:∀ q,S q->q<base∧q≠B) (hbase:base<=w.heap.size)
  (hA0:qcq base B ls es ve w0) (hX0:Ext w0 w) (hx:RLb S w x cs):Calls Tryz.prog 245 #[.pointer (some ⟨B,0,none⟩),.agg cs.toArray] w (NumPost base w0.heap.size B ls es ve x w):=by
 obtain ⟨mo,vl,T,hbox0,hlab0,hed0,hT,hap,hmo⟩:=hA0.ex
 have hB:=hA0.lt
 have hbox:=hbox0.ext hX0
 have hlab:=hlab0.ext RLb.good hX0
 have hed:=hed0.ext REd.good hX0
 have hvz:∀ q,vl.ownBlock=some q->base<=q∧q<w0.heap.size:=fun q hq=>hlab0.own_lt hq
 have hX0s:=hX0.size
 have hbs:=hbox.lt
 have a0:=hbox.cell 0 _
 have a1:=hbox.cell 1 _
 have a2:=hbox.cell 2 _
 have f0:=hbox.frozen 0
 obtain ⟨i1,v,rfl,hv⟩:=id hx
 obtain ⟨Ax,cx,rfl,_,_⟩:=hv.val
 have HX:=Hd hx
 have hkc:=fun W (hW:RLb S W x [.int .i64 x.g,.slice Ax x.v.length cx])=>key_c S x hok hsz _ W hW
 have hlc:=fun W (hW:RLb S W x [.int .i64 x.g,.slice Ax x.v.length cx])=>label_c S x hok _ W hW
 have hidx:(ls.idxOf x:Int)<=1000000:=by have:=List.idxOf_le_length (a:=x) (l:=ls);omega
 have hvl:∃ A n c,vl = .slice A n c:=by obtain ⟨A,c,h,_⟩:=(hlab.sl RLb.good (by decide)).val;exact ⟨A,_,c,h⟩
 have hlb:=fun q hq=>hlab.own_lt (b:=q) hq
 clear hx hv hbox0 hlab0 hed0
 rcases hmo with ⟨rfl,hls⟩ | ⟨m,rfl,hm,hmap0⟩
 ·-- the map is made
  obtain ⟨A,n0,c0,rfl⟩:=hvl
  obtain ⟨Av,cv,hve,_⟩:=(hlab.sl RLb.good (by decide)).val
  injection hve with ha0 hn0 hc0'
  subst ha0 hn0 hc0'
  obtain ⟨T,hTf⟩:∃ T:Nat->Prop,∀ q,¬ T q:=⟨fun _=>False,fun _ h=>h⟩
  have HLAB:Hid (qab RLb 2 61 base T w ls (.slice A ls.length c0)):=by subst hls;obtain ⟨news,h1,h2⟩:=hlab;exact ⟨news,h1,h2⟩
  have HLS:=Hd hls
  clear hls
  have HED:=Hd hed
  have HBOX:=Hd hbox
  have HAP:=Hd hap
  have hvx:¬ (Value.slice A ls.length c0).ownBlock=some w.heap.size:=fun e=>by have:=(hlb _ e).2;omega
  have hmm:=@run_makeMap Tryz.prog
  have hnil:=fun W=>run_eql_map_nil W none
  have hz0:B<(w.alloc (.cells #[.int .i64 x.g,.slice Ax x.v.length cx] 61)).heap.size:=by simp;omega
  have hbb:B<((w.alloc (.cells #[.int .i64 x.g,.slice Ax x.v.length cx] 61)).alloc (.map #[] 0)).heap.size:=by simp;omega
  have f0':((w.alloc (.cells #[.int .i64 x.g,.slice Ax x.v.length cx] 61)).alloc (.map #[] 0)).frozen? ⟨B,0,none⟩=false:=((hbox.ext (((Ext.refl w).alloc _).alloc _)).frozen 0)
  have a0':=((hbox.ext (((Ext.refl w).alloc (.cells #[.int .i64 x.g,.slice Ax x.v.length cx] 61)).alloc (.map #[] 0))).cell 0 _)
  clear hA0 hX0 hlab hed hbox hlb hap
  go_enter Tryz.func245,Tryz.ntmps245
  go_wp2_with fail
  obtain ⟨m,hme⟩:∃ m,w.heap.size+1=m:=⟨_,rfl⟩
  obtain ⟨Wa,hWa⟩:∃ Wa,w.setCell ⟨B,0,none⟩ (.map (some (w.heap.size+1)))=Wa:=⟨_,rfl⟩
  have hset:Bt (fun q=>q=B) w Wa:=by rw [<- hWa];exact Bt.set (Z:=fun q=>q=B) (p:=⟨B,0,none⟩) (Bt.refl _ _) (.inr rfl) _
  have hsa:Wa.heap.size=w.heap.size:=by rw [<- hWa];simp [World.setCell]
  have hBX:qaf Wa B 235 [.map (some (w.heap.size+1)),.slice A ls.length c0,ve]:=by rw [<- hWa];exact HBOX.out.set 0 _
  rw [hWa,hme]
  rw [hme] at hBX
  clear hWa
  obtain ⟨W,hW⟩:∃ W,(Wa.alloc (.cells #[.int .i64 x.g,.slice Ax x.v.length cx] 61)).alloc (.map #[] 0)=W:=⟨_,rfl⟩
  have hXa:Ext Wa W:=by rw [<- hW];exact ((Ext.refl Wa).alloc _).alloc _
  have hsW:W.heap.size=w.heap.size+2:=by rw [<- hW];simp [hsa]
  have xb0:W.cell? ⟨w.heap.size,0,none⟩=some (.int .i64 x.g):=by exact hW ▸ hsa ▸ Lib.cell?_alloc_some _ (by simpa using qew Wa #[.int .i64 x.g,.slice Ax x.v.length cx] 61 0 _ rfl)
  have xb1:W.cell? ⟨w.heap.size,1,none⟩=some (.slice Ax x.v.length cx):=by exact hW ▸ hsa ▸ Lib.cell?_alloc_some _ (by simpa using qew Wa #[.int .i64 x.g,.slice Ax x.v.length cx] 61 1 _ rfl)
  have hma:IsMap Value.string W m (mapF ls):=by
   rw [HLS.out,<- hW,mapF_nil,<- hme,<- hsa]
   have:=IsMap.new Value.string (Wa.alloc (.cells #[.int .i64 x.g,.slice Ax x.v.length cx] 61))
   rwa [World.size_alloc] at this
  rw [hW]
  have hBa:Bt (fun q=>q=B) w W:=hset.ext hXa
  have HN:Hid (qfh base B m ls es (.slice A ls.length c0) ve T W) :=
   ⟨hBX.ext hXa,HLAB.out.bt RLb.good hBa fun b _ hz=>⟨fun ht=>absurd ht (hTf b),fun e=>by have:=(HLAB.out.own_lt e).1;omega⟩,HED.out.bt REd.good hBa fun b _ hz=>⟨id,fun e=>by have:=(HED.out.own_lt e).1;omega⟩,
    fun q hq=>absurd hq (hTf q),HAP.out,by omega,hma⟩
  have hmx:m≠w.heap.size:=by omega
  have hmz:m<w0.heap.size∨w.heap.size<=m:=by omega
  have HXW:Hid (Bt (fun q=>q=B∨base<=q∧(q<w0.heap.size∨w.heap.size<=q)) w W):=hBa.mono fun q _ h=>.inl h
  have HRX:Hid (RLb S W x [.int .i64 x.g,.slice Ax x.v.length cx]):=RLb.good.move HX.out (hBa.kp (S:=S) fun q _ h h'=>(hS q h).2 h')
  have hWz:w.heap.size<W.heap.size:=by omega
  have hm:base<=m:=by omega
  clear hBX hset hBa hma hXa hsa hsW hme hW a0 a1 a2 f0 hnil a0' f0' hz0 hbb HLAB HED HBOX HAP HX
  clear Wa
  try go_wp2_with fail
  refine (hkc _ HRX.out).mono ?_
  rintro e w3 ⟨rfl,h3⟩
  have hN3:=HN.out.ext h3
  have d0:=hN3.box.cell 0 _
  have d1:=hN3.box.cell 1 _
  have x0:=Ext.keep h3 xb0
  have x1:=Ext.keep h3 xb1
  have hrx:=RLb.good.bel HRX.out h3
  have hz3:=h3.size
  have hBt3:=HXW.out.ext h3
  have hlk:=hN3.map.lookup2 (P:=Tryz.prog) Tryz.underlying233 qkm (z:=.int .i64 0) (by kernel_rfl) (qd0 x)
  rw [qso ls x hok hoks] at hlk
  clear HN HXW HRX h3 xb0 xb1
  by_cases hmem:x∈ls
  ·rw [if_pos hmem] at hlk
   simp only [Option.getD_some,Option.isSome_some] at hlk
   have HFIN:Hid (qcq base B (qbm ls x) es ve w3∧Bt (fun q=>q=B∨base<=q∧(q<w0.heap.size∨w.heap.size<=q)) w w3):=⟨by unfold qbm;rw [if_pos hmem];exact hN3.arcs hB,hBt3⟩
   clear hN3 hmem hBt3 hrx
   go_wp2_with fail
   go_ret
   exact ⟨rfl,HFIN.out.1,(HFIN.out.2.mono fun q hq h=>h.imp id fun h=>⟨h.1,by omega⟩)⟩
  ·rw [if_neg hmem] at hlk
   simp only [Option.getD_none,Option.isSome_none] at hlk
   obtain ⟨W3,hr3,hmp3,hg3⟩:=hN3.map.store (P:=Tryz.prog) Tryz.underlying233 qkm (qd0 x) (.int .i64 (ls.length:Int))
   rw [qpg ls x hok hoks hmem] at hmp3
   obtain ⟨p1,p2,p3⟩:=hN3.stored hB hg3
   have hbm:Bt (fun q=>q=m) w3 W3:=(Bt.of_grown hg3).mono fun q _ h=>by injection h
   have y0:=hbm.cell x0 (Ne.symm hmx)
   have y1:=hbm.cell x1 (Ne.symm hmx)
   have e1:=p1.cell 1 _
   have hrx3:=RLb.good.move hrx (hbm.kp (S:=S) fun q _ h h'=>by have:=(hS q h).1;have:=hN3.mb;omega)
   have hlb3:=fun q hq=>p2.own_lt (b:=q) hq
   have hve3:=fun q hq=>p3.own_lt (b:=q) hq
   have hm3:=hmp3.lt
   have hB3:=p1.lt
   have hidl:ls.idxOf x=ls.length:=List.idxOf_eq_length hmem
   have hvm:(Value.slice A ls.length c0).ownBlock≠some m:=by obtain ⟨es',c',ks,h1,_⟩:=hmp3;exact qjw p2 h1
   have hT3:=hN3.T
   have hap3:=hN3.ap
   have hmb:=hN3.mb
   have hBt4:Bt (fun q=>q=B∨base<=q∧(q<w0.heap.size∨w.heap.size<=q)) w W3:=hBt3.trans (hbm.mono fun q _ h=>.inr (h ▸ ⟨hmb,hmz⟩))
   have hadd:qbm ls x=ls++[x]:=by unfold qbm;rw [if_neg hmem]
   have key:∀ (WX w5:World) (A5:Option Addr) (c5:Nat),Ext W3 WX->Ext WX w5->qam (fun b=>WX.heap.size<=b) w5 x.v [.slice A5 x.v.length c5] ->
     ∃ g8 c8 w8,(Builtin.append_ #[22,22] 22 #[.slice A ls.length c0,.slice (some ⟨w5.heap.size,0,none⟩) 1 1]).run Tryz.prog (w5.alloc (.cells #[.int .i64 x.g,.slice A5 x.v.length c5] 61)) = .ok (.slice (some ⟨g8,0,none⟩) (ls.length+1) c8) w8 ∧
      Bt (fun q=>(Value.slice A ls.length c0).ownBlock=some q) (w5.alloc (.cells #[.int .i64 x.g,.slice A5 x.v.length c5] 61)) w8∧w8.frozen? ⟨B,1,none⟩=false ∧
      Hid (qcq base B (ls++[x]) es ve (w8.setCell ⟨B,1,none⟩ (.slice (some ⟨g8,0,none⟩) (ls.length+1) c8))∧Bt (fun q=>q=B∨base<=q∧(q<w0.heap.size∨w.heap.size<=q)) w (w8.setCell ⟨B,1,none⟩ (.slice (some ⟨g8,0,none⟩) (ls.length+1) c8))):=fun WX w5 A5 c5 hX h5 h6=>by
    have hX5:=hX.trans' h5
    have hz5:=hX5.size
    have hzX:=hX.size
    have ho5:=(p2.ext RLb.good hX5).mono (T':=fun q=>T q∨W3.heap.size<=q) RLb.good (fun b _ h=>.inl h)
    obtain ⟨g8,c8,w8,hr8,ho8,hb8,ha8,hbA⟩:=qff RLb.good (by decide) base 61 22 (.agg #[.int .i64 0,.slice none 0 0]) 32 Tryz.underlying22 qmf rfl (by decide) (fun q=>T q∨W3.heap.size<=q) w5 ls (.slice A ls.length c0) x [.int .i64 x.g,.slice A5 x.v.length c5]
     ho5 ⟨i1,_,rfl,qam.good.mono h6 fun b _ hb=>⟨.inr (by omega),fun e=>by have:=(hlb3 b e).2;omega⟩⟩ (by omega) hlen
    have hp:=qfh.pushed (x:=x) (n:=0) (W3:=W3) (T:=T) hB hmb (T':=fun q=>T q∨W3.heap.size<=q) (fun q hq=>by
      rcases hq with hq | hq
      ·exact hT3 q hq
      ·exact ⟨by omega,by omega,fun e=>by have:=(hve3 q e).2;omega⟩) hap3 (p1.ext hX5) (p3.ext REd.good hX5) (hmp3.move (hX5.block m hm3)) (fun q hq=>(hlb3 q hq).1) ho8 hb8
     (fun q hq=>by
      simp only [Value.ownBlock,Option.some.injEq] at hq
      subst hq
      exact ha8) hvm
    exact ⟨g8,c8,w8,hr8,hbA,hp.2.1,hp.2.2.1,(hBt4.ext hX5).trans (hp.2.2.2.mono fun q _ h=>by
     rcases h with h | h
     ·exact .inr ⟨(hvz q h).1,.inl (hvz q h).2⟩
     ·exact .inl h)⟩
   have HK:=Hd key
   have hn1:¬ (Value.slice A ls.length c0).ownBlock=some B:=fun e=>by have:=(hlb3 _ e).1;omega
   have hn2:¬ (Value.slice A ls.length c0).ownBlock=some w.heap.size:=hvx
   have hl3:=fun WX (h:Ext W3 WX)=>hlc WX (RLb.good.bel hrx3 h)
   have HID:=Hd hidl
   have HADD:=Hd hadd
   clear hN3 hmem hBt3 hrx key hadd p1 p2 p3 hmp3 hg3 hT3 hap3 hbm hrx3 hBt4 hlb3 hve3 hidl hkc hlc
   go_wp2_with fail
   refine qg2 (fun W=>W.cell? ⟨B,1,none⟩=some (.slice A ls.length c0)∧W.cell? ⟨w.heap.size,0,none⟩=some (.int .i64 x.g)∧W.cell? ⟨w.heap.size,1,none⟩=some (.slice Ax x.v.length cx)) (by kernel_rfl) (by rfl) (by kernel_rfl) ⟨e1,y0,y1⟩ (fun hHeld=>?_)
   dsimp only [List.dropLast,List.getLastD,List.getLast?,List.getLast]
   (refine tk 0 ?_;try simp only [qai])
   (refine tk 1 ?_;try simp only [qai])
   (refine tk 2 ?_;try simp only [qai])
   (refine tk 3 ?_;try simp only [qai])
   (refine tk 4 ?_;try simp only [qai])
   (refine tk 5 ?_;try simp only [qai])
   refine wpAnyH_ready (rs:=[6]) (by kernel_rfl) (by simp) ?_
   refine AllReadyH.cons rfl (fun K hK=>?_) AllReadyH.nil
   go_simp
   refine (hl3 _ bel).mono ?_
   rintro e w5 ⟨A5,c5,rfl,hr5,hx5⟩
   obtain ⟨g8,c8,w8,hr8,hb8,f8,fin8⟩:=HK.out _ _ _ _ bel hx5 hr5
   refine hK.out _ _ (Ext.k3 hx5 hHeld) (fun hHeld5=>?_)
   clear hK K
   try simp only [qai]
   refine wpAnyH_ready (rs:=[7]) (by kernel_rfl) (by simp) ?_
   refine AllReadyH.cons rfl (fun K hK=>?_) AllReadyH.nil
   go_simp
   have hHeld6:=Ext.k3 ((Ext.refl w5).alloc (.cells #[.int .i64 x.g,.slice A5 x.v.length c5] 61)) hHeld5
   refine hK.out _ _ hHeld6 (fun _=>?_)
   clear hK K
   try simp only [qai]
   refine wpAnyH_ready (rs:=[8]) (by kernel_rfl) (by simp) ?_
   refine AllReadyH.cons rfl (fun K hK=>?_) AllReadyH.nil
   refine qfx rfl _ _ _ rfl _ _ _ rfl rfl hr8 ?_
   have k8:=hb8.cell hHeld6.1 hn1
   refine hK.out _ _ ⟨k8,hb8.cell hHeld6.2.1 hn2,hb8.cell hHeld6.2.2 hn2⟩ (fun hHeld8=>?_)
   clear hK K
   try simp only [qai]
   (refine tk 9 ?_;try simp only [qai])
   (refine tk 10 ?_;try simp only [qai])
   refine wpAnyH_done (by kernel_rfl) ?_ _
   show Oper.wp _ _ _ _ _ _
   go_simp
   go_wp2_with fail
   go_ret
   exact ⟨by rw [HID.out];rfl,by rw [HADD.out];exact fin8.out.1,(fin8.out.2.mono fun q hq h=>h.imp id fun h=>⟨h.1,by omega⟩)⟩
 ·obtain ⟨A,n0,c0,rfl⟩:=hvl
  obtain ⟨Av,cv,hve,_⟩:=(hlab.sl RLb.good (by decide)).val
  injection hve with ha0 hn0 hc0'
  subst ha0 hn0 hc0'
  have hmap:=hmap0.move (hX0.block m hmap0.lt)
  have hmz:m<w0.heap.size∨w.heap.size<=m:=.inl hmap0.lt
  have HN:=Hd ((qfh.mk hbox hlab hed (fun q hq=>⟨(hT q hq).1,fun e=>(hT q hq).2.1 (by rw [e]),(hT q hq).2.2⟩) hap hm hmap).ext ((Ext.refl w).alloc (.cells #[.int .i64 x.g,.slice Ax x.v.length cx] 61)))
  have hmx:m≠w.heap.size:=by have:=hmap.lt;omega
  have hvx:¬ (Value.slice A ls.length c0).ownBlock=some w.heap.size:=fun e=>by have:=(hlb _ e).2;omega
  have HXW:Hid (Bt (fun q=>q=B∨base<=q∧(q<w0.heap.size∨w.heap.size<=q)) w (w.alloc (.cells #[.int .i64 x.g,.slice Ax x.v.length cx] 61))):=(Bt.refl _ _).alloc _
  have HRX:Hid (RLb S (w.alloc (.cells #[.int .i64 x.g,.slice Ax x.v.length cx] 61)) x [.int .i64 x.g,.slice Ax x.v.length cx]):=RLb.good.bel HX.out ((Ext.refl w).alloc _)
  have hnil:=fun W=>run_eql_map_nil W (some m)
  clear hbox hlab hed hmap hmap0 hA0 hX0 hlb HX
  go_enter Tryz.func245,Tryz.ntmps245
  go_wp2_with fail
  have xb0:(w.alloc (.cells #[.int .i64 x.g,.slice Ax x.v.length cx] 61)).cell? ⟨w.heap.size,0,none⟩=some (.int .i64 x.g):=by go_simp
  have xb1:(w.alloc (.cells #[.int .i64 x.g,.slice Ax x.v.length cx] 61)).cell? ⟨w.heap.size,1,none⟩=some (.slice Ax x.v.length cx):=by go_simp
  have hWz:w.heap.size<(w.alloc (.cells #[.int .i64 x.g,.slice Ax x.v.length cx] 61)).heap.size:=by simp
  obtain ⟨W,hW⟩:∃ W,w.alloc (.cells #[.int .i64 x.g,.slice Ax x.v.length cx] 61)=W:=⟨_,rfl⟩
  rw [hW] at HN HXW HRX xb0 xb1 hWz ⊢
  clear hW a0 a1 a2 f0 hnil
  try go_wp2_with fail
  refine (hkc _ HRX.out).mono ?_
  rintro e w3 ⟨rfl,h3⟩
  have hN3:=HN.out.ext h3
  have d0:=hN3.box.cell 0 _
  have d1:=hN3.box.cell 1 _
  have x0:=Ext.keep h3 xb0
  have x1:=Ext.keep h3 xb1
  have hrx:=RLb.good.bel HRX.out h3
  have hz3:=h3.size
  have hBt3:=HXW.out.ext h3
  have hlk:=hN3.map.lookup2 (P:=Tryz.prog) Tryz.underlying233 qkm (z:=.int .i64 0) (by kernel_rfl) (qd0 x)
  rw [qso ls x hok hoks] at hlk
  clear HN HXW HRX h3 xb0 xb1
  by_cases hmem:x∈ls
  ·rw [if_pos hmem] at hlk
   simp only [Option.getD_some,Option.isSome_some] at hlk
   have HFIN:Hid (qcq base B (qbm ls x) es ve w3∧Bt (fun q=>q=B∨base<=q∧(q<w0.heap.size∨w.heap.size<=q)) w w3):=⟨by unfold qbm;rw [if_pos hmem];exact hN3.arcs hB,hBt3⟩
   clear hN3 hmem hBt3 hrx
   go_wp2_with fail
   go_ret
   exact ⟨rfl,HFIN.out.1,(HFIN.out.2.mono fun q hq h=>h.imp id fun h=>⟨h.1,by omega⟩)⟩
  ·rw [if_neg hmem] at hlk
   simp only [Option.getD_none,Option.isSome_none] at hlk
   obtain ⟨W3,hr3,hmp3,hg3⟩:=hN3.map.store (P:=Tryz.prog) Tryz.underlying233 qkm (qd0 x) (.int .i64 (ls.length:Int))
   rw [qpg ls x hok hoks hmem] at hmp3
   obtain ⟨p1,p2,p3⟩:=hN3.stored hB hg3
   have hbm:Bt (fun q=>q=m) w3 W3:=(Bt.of_grown hg3).mono fun q _ h=>by injection h
   have y0:=hbm.cell x0 (Ne.symm hmx)
   have y1:=hbm.cell x1 (Ne.symm hmx)
   have e1:=p1.cell 1 _
   have hrx3:=RLb.good.move hrx (hbm.kp (S:=S) fun q _ h h'=>by have:=(hS q h).1;have:=hN3.mb;omega)
   have hlb3:=fun q hq=>p2.own_lt (b:=q) hq
   have hve3:=fun q hq=>p3.own_lt (b:=q) hq
   have hm3:=hmp3.lt
   have hB3:=p1.lt
   have hidl:ls.idxOf x=ls.length:=List.idxOf_eq_length hmem
   have hvm:(Value.slice A ls.length c0).ownBlock≠some m:=by obtain ⟨es',c',ks,h1,_⟩:=hmp3;exact qjw p2 h1
   have hT3:=hN3.T
   have hap3:=hN3.ap
   have hmb:=hN3.mb
   have hBt4:Bt (fun q=>q=B∨base<=q∧(q<w0.heap.size∨w.heap.size<=q)) w W3:=hBt3.trans (hbm.mono fun q _ h=>.inr (h ▸ ⟨hmb,hmz⟩))
   have hadd:qbm ls x=ls++[x]:=by unfold qbm;rw [if_neg hmem]
   have key:∀ (WX w5:World) (A5:Option Addr) (c5:Nat),Ext W3 WX->Ext WX w5->qam (fun b=>WX.heap.size<=b) w5 x.v [.slice A5 x.v.length c5] ->
     ∃ g8 c8 w8,(Builtin.append_ #[22,22] 22 #[.slice A ls.length c0,.slice (some ⟨w5.heap.size,0,none⟩) 1 1]).run Tryz.prog (w5.alloc (.cells #[.int .i64 x.g,.slice A5 x.v.length c5] 61)) = .ok (.slice (some ⟨g8,0,none⟩) (ls.length+1) c8) w8 ∧
      Bt (fun q=>(Value.slice A ls.length c0).ownBlock=some q) (w5.alloc (.cells #[.int .i64 x.g,.slice A5 x.v.length c5] 61)) w8∧w8.frozen? ⟨B,1,none⟩=false ∧
      Hid (qcq base B (ls++[x]) es ve (w8.setCell ⟨B,1,none⟩ (.slice (some ⟨g8,0,none⟩) (ls.length+1) c8))∧Bt (fun q=>q=B∨base<=q∧(q<w0.heap.size∨w.heap.size<=q)) w (w8.setCell ⟨B,1,none⟩ (.slice (some ⟨g8,0,none⟩) (ls.length+1) c8))):=fun WX w5 A5 c5 hX h5 h6=>by
    have hX5:=hX.trans' h5
    have hz5:=hX5.size
    have hzX:=hX.size
    have ho5:=(p2.ext RLb.good hX5).mono (T':=fun q=>T q∨W3.heap.size<=q) RLb.good (fun b _ h=>.inl h)
    obtain ⟨g8,c8,w8,hr8,ho8,hb8,ha8,hbA⟩:=qff RLb.good (by decide) base 61 22 (.agg #[.int .i64 0,.slice none 0 0]) 32 Tryz.underlying22 qmf rfl (by decide) (fun q=>T q∨W3.heap.size<=q) w5 ls (.slice A ls.length c0) x [.int .i64 x.g,.slice A5 x.v.length c5]
     ho5 ⟨i1,_,rfl,qam.good.mono h6 fun b _ hb=>⟨.inr (by omega),fun e=>by have:=(hlb3 b e).2;omega⟩⟩ (by omega) hlen
    have hp:=qfh.pushed (x:=x) (n:=0) (W3:=W3) (T:=T) hB hmb (T':=fun q=>T q∨W3.heap.size<=q) (fun q hq=>by
      rcases hq with hq | hq
      ·exact hT3 q hq
      ·exact ⟨by omega,by omega,fun e=>by have:=(hve3 q e).2;omega⟩) hap3 (p1.ext hX5) (p3.ext REd.good hX5) (hmp3.move (hX5.block m hm3)) (fun q hq=>(hlb3 q hq).1) ho8 hb8
     (fun q hq=>by
      simp only [Value.ownBlock,Option.some.injEq] at hq
      subst hq
      exact ha8) hvm
    exact ⟨g8,c8,w8,hr8,hbA,hp.2.1,hp.2.2.1,(hBt4.ext hX5).trans (hp.2.2.2.mono fun q _ h=>by
     rcases h with h | h
     ·exact .inr ⟨(hvz q h).1,.inl (hvz q h).2⟩
     ·exact .inl h)⟩
   have HK:=Hd key
   have hn1:¬ (Value.slice A ls.length c0).ownBlock=some B:=fun e=>by have:=(hlb3 _ e).1;omega
   have hn2:¬ (Value.slice A ls.length c0).ownBlock=some w.heap.size:=hvx
   have hl3:=fun WX (h:Ext W3 WX)=>hlc WX (RLb.good.bel hrx3 h)
   have HID:=Hd hidl
   have HADD:=Hd hadd
   clear hN3 hmem hBt3 hrx key hadd p1 p2 p3 hmp3 hg3 hT3 hap3 hbm hrx3 hBt4 hlb3 hve3 hidl hkc hlc
   go_wp2_with fail
   refine qg2 (fun W=>W.cell? ⟨B,1,none⟩=some (.slice A ls.length c0)∧W.cell? ⟨w.heap.size,0,none⟩=some (.int .i64 x.g)∧W.cell? ⟨w.heap.size,1,none⟩=some (.slice Ax x.v.length cx)) (by kernel_rfl) (by rfl) (by kernel_rfl) ⟨e1,y0,y1⟩ (fun hHeld=>?_)
   dsimp only [List.dropLast,List.getLastD,List.getLast?,List.getLast]
   (refine tk 0 ?_;try simp only [qai])
   (refine tk 1 ?_;try simp only [qai])
   (refine tk 2 ?_;try simp only [qai])
   (refine tk 3 ?_;try simp only [qai])
   (refine tk 4 ?_;try simp only [qai])
   (refine tk 5 ?_;try simp only [qai])
   refine wpAnyH_ready (rs:=[6]) (by kernel_rfl) (by simp) ?_
   refine AllReadyH.cons rfl (fun K hK=>?_) AllReadyH.nil
   go_simp
   refine (hl3 _ bel).mono ?_
   rintro e w5 ⟨A5,c5,rfl,hr5,hx5⟩
   obtain ⟨g8,c8,w8,hr8,hb8,f8,fin8⟩:=HK.out _ _ _ _ bel hx5 hr5
   refine hK.out _ _ (Ext.k3 hx5 hHeld) (fun hHeld5=>?_)
   clear hK K
   try simp only [qai]
   refine wpAnyH_ready (rs:=[7]) (by kernel_rfl) (by simp) ?_
   refine AllReadyH.cons rfl (fun K hK=>?_) AllReadyH.nil
   go_simp
   have hHeld6:=Ext.k3 ((Ext.refl w5).alloc (.cells #[.int .i64 x.g,.slice A5 x.v.length c5] 61)) hHeld5
   refine hK.out _ _ hHeld6 (fun _=>?_)
   clear hK K
   try simp only [qai]
   refine wpAnyH_ready (rs:=[8]) (by kernel_rfl) (by simp) ?_
   refine AllReadyH.cons rfl (fun K hK=>?_) AllReadyH.nil
   refine qfx rfl _ _ _ rfl _ _ _ rfl rfl hr8 ?_
   have k8:=hb8.cell hHeld6.1 hn1
   refine hK.out _ _ ⟨k8,hb8.cell hHeld6.2.1 hn2,hb8.cell hHeld6.2.2 hn2⟩ (fun hHeld8=>?_)
   clear hK K
   try simp only [qai]
   (refine tk 9 ?_;try simp only [qai])
   (refine tk 10 ?_;try simp only [qai])
   refine wpAnyH_done (by kernel_rfl) ?_ _
   show Oper.wp _ _ _ _ _ _
   go_simp
   go_wp2_with fail
   go_ret
   exact ⟨by rw [HID.out];rfl,by rw [HADD.out];exact fin8.out.1,(fin8.out.2.mono fun q hq h=>h.imp id fun h=>⟨h.1,by omega⟩)⟩
end
section
open Go.Shelf
theorem qno:(Tryz.prog.info? 88).map (fun i=>(i.zero,i.size,i.bytes))=some (some (.agg #[.int .i64 0,.int .i64 0,.int .i64 0]),3,24):=by kernel_rfl
theorem qcq.pushE {base B:Nat} {ls:List Lb} {es:List Ed} {ve v8:Value} {w5 w8:World} {x:Ed} (hA:qcq base B ls es ve w5) (ho:qab REd 3 88 base (fun _=>False) w8 (es++[x]) v8) (hbt:Bt (fun q=>ve.ownBlock=some q) w5 w8) (hat:∀ q,v8.ownBlock=some q->ve.ownBlock=some q∨w5.heap.size<=q) :
  w8.cell? ⟨B,2,none⟩=some ve∧w8.frozen? ⟨B,2,none⟩=false∧qcq base B ls (es++[x]) v8 (w8.setCell ⟨B,2,none⟩ v8)∧Bt (fun q=>ve.ownBlock=some q∨q=B) w5 (w8.setCell ⟨B,2,none⟩ v8):=by
 obtain ⟨mo,vl,T,hbox,hlab,hed,hT,hap,hmo⟩:=hA.ex
 have hB:=hA.lt
 have hbs:=hbox.lt
 have hvB:ve.ownBlock≠some B:=fun e=>by have:=(hed.own_lt e).1;omega
 have hv8B:v8.ownBlock≠some B:=fun e=>by
  rcases hat _ e with h | h
  ·exact hvB h
  ·omega
 have hp:=qix REd.good 2 hbox ho hbt hvB hv8B (fun h=>h)
 have hset:Bt (fun q=>ve.ownBlock=some q∨q=B) w5 (w8.setCell ⟨B,2,none⟩ v8):=hp.2.2.2.2
 have hlab2:=hlab.mono (T':=fun q=>T q∧q<w5.heap.size) RLb.good fun b hb h=>⟨h,hb⟩
 refine ⟨hp.1.trans (hbox.cell 2 _),hp.2.1,⟨hB,mo,vl,fun q=>T q∧q<w5.heap.size,hp.2.2.1,hlab2.bt RLb.good hset fun b hb hz=>⟨fun ht=>?_,fun e=>?_⟩,hp.2.2.2.1,fun q hq=>⟨(hT q hq.1).1,(hT q hq.1).2.1,fun e=>?_⟩,fun q hq e=>?_,hmo.imp id ?_⟩,hset⟩
 ·rcases hz with hz | hz
  ·exact (hT b ht.1).2.2 hz
  ·have:=(hT b ht.1).1;omega
 ·rcases hz with hz | hz
  ·exact hap b e hz
  ·have:=(hlab.own_lt e).1;omega
 ·rcases hat q e with h | h
  ·exact (hT q hq.1).2.2 h
  ·omega
 ·rcases hat q e with h | h
  ·exact hap q hq h
  ·have:=(hlab.own_lt hq).2;omega
 ·rintro ⟨m,rfl,hm,hmap⟩
  refine ⟨m,rfl,hm,hmap.move (hset.block m hmap.lt ?_)⟩
  rintro (h | h)
  ·obtain ⟨es',c',ks,h1,_⟩:=hmap;exact qjw hed h1 h
  ·omega
def AddPost (base B:Nat) (ls:List Lb) (es:List Ed) (x:Lb) (f t:Int) (w:World) (e:Ending) (w':World):Prop:=e = .returned (.tuple #[])∧∃ ve',qcq base B (qbm ls x) (es++[⟨f,(ls.idxOf x:Int),t⟩]) ve' w'∧Bt (fun q=>q=B∨base<=q) w w'
set_option maxHeartbeats 1000000 in
set_option maxRecDepth 100000 in
theorem add_c (S:Nat->Prop) (base B:Nat) (ls:List Lb) (es:List Ed) (ve:Value) (x:Lb) (f t:Int) (hf:I64 f) (ht:I64 t) (hok:qax x=true) (hoks:∀ y∈ls,qax y=true) (hsz:x.size<=1000000000) (hlen:ls.length<=1000000) (helen:es.length<=1000000) (cs:List Value) (w:World) (hS:∀ q,S q->q<base∧q≠B) (hbase:base<=w.heap.size)
  (hA:qcq base B ls es ve w) (hx:RLb S w x cs):Calls Tryz.prog 204 #[.pointer (some ⟨B,0,none⟩),.int .i64 f,.agg cs.toArray,.int .i64 t] w (AddPost base B ls es x f t w):=by
 have hB:=hA.lt
 obtain ⟨i1,v,rfl,hv⟩:=id hx
 obtain ⟨Ax,cx,rfl,_,_⟩:=hv.val
 have hidx:(ls.idxOf x:Int)<=1000000:=by have:=List.idxOf_le_length (a:=x) (l:=ls);omega
 have hI:I64 (ls.idxOf x:Int):=by unfold I64;omega
 have hed:qab REd 3 88 base (fun _=>False) w es ve:=by obtain ⟨mo,vl,T,_,_,h,_⟩:=hA.ex;exact h
 have hBl:B<w.heap.size:=by omega
 have hve:=fun q hq=>hed.own_lt (b:=q) hq
 obtain ⟨A,c0,hve0,_⟩:=(hed.sl REd.good (by decide)).val
 subst hve0
 have a2:=Ext.keep ((Ext.refl w).alloc (.cells #[.int .i64 x.g,.slice Ax x.v.length cx] 61)).drew hA.at
 have hnum:=fun WX (h:Ext w WX)=>number_c S base B ls es (.slice A es.length c0) x hok hoks hsz hlen _ w WX hS (Nat.le_trans hbase h.size) hA h (RLb.good.bel hx h)
 have key:∀ (WX w5:World) (e:Ending),Ext w WX->NumPost base w.heap.size B ls es (.slice A es.length c0) x WX e w5 ->
   e = .returned (.int .i64 (ls.idxOf x:Int))∧w5.cell? ⟨B,2,none⟩=some (.slice A es.length c0)∧Bt (fun q=>q=B∨base<=q∧q<w.heap.size) WX w5∧∃ g8 c8 w8,(Builtin.append_ #[23,23] 23 #[.slice A es.length c0,.slice (some ⟨w5.heap.size,0,none⟩) 1 1]).run Tryz.prog (w5.alloc (.cells #[.int .i64 f,.int .i64 (ls.idxOf x:Int),.int .i64 t] 88)) = .ok (.slice (some ⟨g8,0,none⟩) (es.length+1) c8) w8 ∧
    Bt (fun q=>(Value.slice A es.length c0).ownBlock=some q) (w5.alloc (.cells #[.int .i64 f,.int .i64 (ls.idxOf x:Int),.int .i64 t] 88)) w8∧w8.frozen? ⟨B,2,none⟩=false ∧
    Hid (qcq base B (qbm ls x) (es++[⟨f,(ls.idxOf x:Int),t⟩]) (.slice (some ⟨g8,0,none⟩) (es.length+1) c8) (w8.setCell ⟨B,2,none⟩ (.slice (some ⟨g8,0,none⟩) (es.length+1) c8))∧Bt (fun q=>q=B∨base<=q) w (w8.setCell ⟨B,2,none⟩ (.slice (some ⟨g8,0,none⟩) (es.length+1) c8))):=fun WX w5 e hX h=>by
  obtain ⟨he,hA5,hb5⟩:=h
  have hed5:qab REd 3 88 base (fun _=>False) w5 es (.slice A es.length c0):=by obtain ⟨mo,vl,T,_,_,h,_⟩:=hA5.ex;exact h
  have hz5:=hb5.size
  have hzX:=hX.size
  obtain ⟨g8,c8,w8,hr8,ho8,hb8,ha8,hbA⟩:=qff REd.good (by decide) base 88 23 (.agg #[.int .i64 0,.int .i64 0,.int .i64 0]) 24 Tryz.underlying23 qno rfl (by decide) (fun _=>False) w5 es (.slice A es.length c0) ⟨f,(ls.idxOf x:Int),t⟩ [.int .i64 f,.int .i64 (ls.idxOf x:Int),.int .i64 t]
   hed5 ⟨hf,hI,ht,rfl⟩ (by omega) helen
  have hp:=hA5.pushE ho8 hb8 (fun q hq=>by
    simp only [Value.ownBlock,Option.some.injEq] at hq
    subst hq
    exact ha8)
  refine ⟨he,hA5.at,hb5,g8,c8,w8,hr8,hbA,hp.2.1,hp.2.2.1,(hX.bt.trans (hb5.mono fun q _ h=>h.imp id fun h=>h.1)).trans (hp.2.2.2.mono fun q _ h=>?_)⟩
  rcases h with h | h
  ·exact .inr (hed5.own_lt h).1
  ·exact .inl h
 have HK:=Hd key
 have hn1:¬ (Value.slice A es.length c0).ownBlock=some B:=fun e=>by have:=(hve _ e).1;omega
 have hn2:¬ (Value.slice A es.length c0).ownBlock=some w.heap.size:=fun e=>by have:=(hve _ e).2;omega
 have hn3:¬ (w.heap.size=B∨base<=w.heap.size∧w.heap.size<w.heap.size):=by omega
 clear hx hv hed hve key hA hidx hI
 go_enter Tryz.func204,Tryz.ntmps204
 go_wp2_with fail
 refine qg2 (fun W=>W.cell? ⟨B,2,none⟩=some (.slice A es.length c0)∧W.cell? ⟨w.heap.size,0,none⟩=some (.int .i64 x.g)∧W.cell? ⟨w.heap.size,1,none⟩=some (.slice Ax x.v.length cx)) (by kernel_rfl) (by rfl) (by kernel_rfl) ⟨a2,by go_simp,by go_simp⟩ (fun hHeld=>?_)
 dsimp only [List.dropLast,List.getLastD,List.getLast?,List.getLast]
 (refine tk 0 ?_;try simp only [qai])
 (refine tk 1 ?_;try simp only [qai])
 (refine tk 2 ?_;try simp only [qai])
 (refine tk 3 ?_;try simp only [qai])
 (refine tk 4 ?_;try simp only [qai])
 (refine tk 5 ?_;try simp only [qai])
 (refine tk 6 ?_;try simp only [qai])
 (refine tk 7 ?_;try simp only [qai])
 (refine tk 9 ?_;try simp only [qai])
 refine wpAnyH_ready (rs:=[8]) (by kernel_rfl) (by simp) ?_
 refine AllReadyH.cons rfl (fun K hK=>?_) AllReadyH.nil
 go_simp
 refine (hnum _ bel).mono ?_
 intro e w5 h5
 obtain ⟨rfl,k5,b5,g8,c8,w8,hr8,hb8,f8,fin8⟩:=HK.out _ _ _ bel h5
 refine hK.out _ _ ⟨k5,b5.cell hHeld.2.1 hn3,b5.cell hHeld.2.2 hn3⟩ (fun hHeld5=>?_)
 clear hK K h5
 try simp only [qai]
 (refine tk 10 ?_;try simp only [qai])
 refine wpAnyH_ready (rs:=[11]) (by kernel_rfl) (by simp) ?_
 refine AllReadyH.cons rfl (fun K hK=>?_) AllReadyH.nil
 go_simp
 have hHeld6:=Ext.k3 ((Ext.refl w5).alloc (.cells #[.int .i64 f,.int .i64 (ls.idxOf x:Int),.int .i64 t] 88)) hHeld5
 refine hK.out _ _ hHeld6 (fun _=>?_)
 clear hK K
 try simp only [qai]
 refine wpAnyH_ready (rs:=[12]) (by kernel_rfl) (by simp) ?_
 refine AllReadyH.cons rfl (fun K hK=>?_) AllReadyH.nil
 refine qfx rfl _ _ _ rfl _ _ _ rfl rfl hr8 ?_
 refine hK.out _ _ ⟨hb8.cell hHeld6.1 hn1,hb8.cell hHeld6.2.1 hn2,hb8.cell hHeld6.2.2 hn2⟩ (fun hHeld8=>?_)
 clear hK K
 try simp only [qai]
 (refine tk 13 ?_;try simp only [qai])
 (refine tk 14 ?_;try simp only [qai])
 refine wpAnyH_done (by kernel_rfl) ?_ _
 show Oper.wp _ _ _ _ _ _
 have k8:=hHeld8.1
 go_simp
 go_wp2_with fail
 go_end0
 exact ⟨rfl,_,fin8.out.1,fin8.out.2⟩
end
end Go.Proofs.YtegenalcheooeaaGreat
