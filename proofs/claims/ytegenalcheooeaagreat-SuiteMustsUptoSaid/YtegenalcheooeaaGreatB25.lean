/- Of the proof of a law of the suites: LKey, LArcs1, CoversE, OpenA, SayB. -/
import Derived.Test.YtegenalcheooeaaGreatB03
import Derived.Test.YtegenalcheooeaaGreatB10
import Derived.Test.YtegenalcheooeaaGreatB11
import Derived.Test.YtegenalcheooeaaGreatB18
import Derived.Test.YtegenalcheooeaaGreatB19
import Derived.Test.YtegenalcheooeaaGreatB24
import Derived.Test.YtegenalcheooeaaGreatRows
import Derived.ProofKit
import Derived.OpenShut
import Derived.JoinedCond
import Derived.Deep.Strs
import Derived.ChangeStays
import Derived.ChangeBook
set_option linter.unusedSectionVars false
set_option linter.unusedSimpArgs false
set_option linter.unusedVariables false
namespace Go.Proofs.YtegenalcheooeaaGreat
open Go.RowKit
attribute [local go_sem] cell?_exto
section
set_option maxHeartbeats 1000000
set_option maxRecDepth 100000
/- lts.key: walked. -/
open Go.Shelf
def RBy:Rdr UInt8:=fun _ _ b cs=>cs=[.int .u8 (b.toNat:Int)]
theorem RBy.good:Good RBy 1:={
 len:=by rintro S w x cs rfl;rfl
 one:=by rintro S w x cs rfl u hu;simp at hu;subst hu;rfl
 move:=fun h _=>h
 mono:=fun h _=>h }
theorem info5b:(Tryz.prog.info? 5).map (fun i=>(i.zero,i.size,i.bytes))=some (some (.int .u8 0),1,1):=by kernel_rfl
def byCs (bs:List UInt8):List Value:=bs.map fun b=>.int .u8 (b.toNat:Int)
theorem RBy.cells {S:Nat→Prop} {w:World}:∀ {bs:List UInt8} {cs:List Value},Flat RBy 1 S w bs cs→cs=byCs bs
 | [],cs,h=>h
 | b :: bs,cs,⟨c1,c2,h1,h2,h3,h4⟩=>by
  rw [h1,show c1=_ from h3,RBy.cells h4];rfl
theorem RBy.flat {S:Nat→Prop} {w:World}:∀ bs:List UInt8,Flat RBy 1 S w bs (byCs bs)
 | []=>rfl
 | b :: bs=>⟨[.int .u8 (b.toNat:Int)],_,rfl,rfl,rfl,RBy.flat bs⟩
theorem Bt.join {Z:Nat→Prop} {a b c:World} (h:Bt Z a b) (k:Bt (fun q=>Z q∨a.heap.size≤q) b c):Bt Z a c :=
 ⟨k.os.trans h.os,k.tape.trans h.tape,k.output.trans h.output,Nat.le_trans h.size k.size,fun i hi hz=>(k.block i (Nat.lt_of_lt_of_le hi h.size) (by rintro (h | h);exact hz h;omega)).trans (h.block i hi hz)⟩
structure ByI (Bb base:Nat) (v0:Value) (W0:World) (xs:List UInt8) (W:World):Prop where
 bt:Bt (fun q=>q=Bb∨v0.ownBlock=some q) W0 W
 row:∃ v,Boxed W Bb 306 v∧qab RBy 1 5 base (fun _=>False) W xs v∧(v.ownBlock=v0.ownBlock∨∀ q,v.ownBlock=some q→W0.heap.size≤q)
theorem ByI.ext {Bb base:Nat} {v0:Value} {W0 W W':World} {xs:List UInt8} (h:ByI Bb base v0 W0 xs W) (he:Ext W W'):ByI Bb base v0 W0 xs W':=by
 obtain ⟨v,h1,h2,h3⟩:=h.row
 exact ⟨h.bt.ext he,v,(he.block Bb h1.lt).trans h1,h2.ext RBy.good he,h3⟩
theorem ByI.push {Bb base:Nat} {v0 v v':Value} {W0 W w':World} {xs ys:List UInt8} {o:Obj} (h:ByI Bb base v0 W0 xs W) (hb:Boxed W Bb 306 v) (hown:qab RBy 1 5 base (fun _=>False) W xs v) (hat:v.ownBlock=v0.ownBlock∨∀ q,v.ownBlock=some q→W0.heap.size≤q)
  (hown':w'.ownsRow base 5 1 v' (xs.length+ys.length) (byCs (xs++ys))) (hg:(W.alloc o).grownBy w' v.ownBlock) (hat':v'.ownBlock=v.ownBlock∨v'.ownBlock=some (W.heap.size+1)) (hv0:v0.ownBlock≠some Bb) (hBl:Bb<W0.heap.size) :
  Boxed w' Bb 306 v∧ByI Bb base v0 W0 (xs++ys) (w'.setCell ⟨Bb,0,none⟩ v'):=by
 have hlt:=hb.lt
 have hW0:=h.bt.size
 have hvB:v.ownBlock≠some Bb:=fun e=>by
  rcases hat with h | h
  ·exact hv0 (h ▸ e)
  ·have:=h _ e;omega
 have hv'B:v'.ownBlock≠some Bb:=fun e=>by
  rcases hat' with h | h
  ·exact hvB (h ▸ e)
  ·rw [h] at e;injection e with e;omega
 have hb1:Bt (fun q=>v.ownBlock=some q) W w':=((Ext.refl W).alloc o).bt.trans ((Bt.of_grown hg).mono fun q _ h=>h.symm)
 have hbx:Boxed w' Bb 306 v:=(hb1.block Bb hlt hvB).trans hb
 have hset:Bt (fun q=>q=Bb) w' (w'.setCell ⟨Bb,0,none⟩ v'):=Bt.set (Z:=fun q=>q=Bb) (p:=⟨Bb,0,none⟩) (Bt.refl _ _) (.inr rfl) _
 refine ⟨hbx,⟨h.bt.join ((hb1.mono fun q _ hq=>?_).trans (hset.mono fun q _ hq=>.inl (.inl hq))),v',hbx.set v',⟨_,?_,RBy.flat _⟩,?_⟩⟩
 ·rcases hat with h | h
  ·exact .inl (.inr (h ▸ hq))
  ·exact .inr (h q hq)
 ·have:=hown'.kept (grownBy_setCell' w' Bb v') (.inr hv'B)
  rw [List.length_append]
  exact this
 ·rcases hat' with h' | h'
  ·rw [h'];exact hat
  ·right
   intro q hq
   rw [h'] at hq
   injection hq with hq
   omega
theorem ByI.kp {Bb base:Nat} {v0:Value} {W0 W:World} {xs:List UInt8} (h:ByI Bb base v0 W0 xs W) {K:Nat→Prop} (hK:∀ q,K q→q≠Bb∧v0.ownBlock≠some q):Kp K W0 W:=h.bt.kp fun q _ hq hz=>by
 rcases hz with hz | hz
 ·exact (hK q hq).1 hz
 ·exact (hK q hq).2 hz
theorem Kp.cell {K:Nat→Prop} {W W':World} (h:Kp K W W') {B o:Nat} {v:Value} (hc:W.cell? ⟨B,o,none⟩=some v) (hK:K B):W'.cell? ⟨B,o,none⟩=some v :=
 (World.cell?_of_block (a:=⟨B,o,none⟩) (h.block B (World.block_lt_of_cell? W _ hc) hK)).trans hc
theorem qlu:∀ a b:List Tm,qbl (a++b)=qbl a++qbl b
 | [],b=>by rw [qbl];rfl
 | x :: a,b=>by rw [List.cons_append,qbl,qbl,qlu a b,List.append_assoc]
theorem qk7 (l:List Tm) (k:Nat) (h:k<l.length):qbl (l.take (k+1))=qbl (l.take k)++qfa l[k]:=by
 rw [List.take_succ_eq_append_getElem h,qlu,qbl,qbl,List.append_nil]
theorem qo6 (l:List Tm) (k:Nat):(qbl (l.take k)).length≤(qbl l).length:=by
 conv=>rhs;rw [← List.take_append_drop k l,qlu,List.length_append]
 omega
def KeyC (t:Tm):Prop:=∀ (K:Nat→Prop) (Bb Ba base:Nat) (v0:Value) (W0:World) (cs:List Value) (xs:List UInt8) (W:World),(∀ q,K q→q≠Bb∧v0.ownBlock≠some q)→K Ba→base≤W0.heap.size→v0.ownBlock≠some Bb→Bb<W0.heap.size→RTm K W0 t cs →
  W0.cell? ⟨Ba,0,none⟩=some (.func (.func 287) #[] #[.pointer (some ⟨Bb,0,none⟩),.pointer (some ⟨Ba,0,none⟩)])→ByI Bb base v0 W0 xs W→xs.length+(qfa t).length≤100000000000 →
  Calls Tryz.prog 287 #[.agg cs.toArray,.pointer (some ⟨Bb,0,none⟩),.pointer (some ⟨Ba,0,none⟩)] W fun e w'=>e = .returned (.tuple #[])∧ByI Bb base v0 W0 (xs++qfa t) w'
theorem key_of (t:Tm) (hok:qbd t=true) (ht:∀ x∈t.l,KeyC x):KeyC t:=by
 intro K Bb Ba base v0 W0 cs xs w hK hKa hbs hv0 hBl hx hBa hI hlen
 have hn:=qkl hok
 obtain ⟨i1,i2,v,rfl,hv⟩:=(qay ..).1 hx
 obtain ⟨A,c,rfl,hc,hc0⟩:=hv.val
 obtain ⟨vb,hbx,hown,hat⟩:=hI.row
 have hw0:=hI.bt.size
 have q0:=hbx.cell
 have qf:=hbx.frozen
 have hbl:=hbx.lt
 obtain ⟨news,hrow,hF⟩:=id hown
 obtain rfl:=RBy.cells hF
 obtain ⟨i5,hi5,hzz⟩:=Option.map_eq_some_iff.1 info5b
 simp only [Prod.mk.injEq] at hzz
 obtain ⟨hz0,hz1,hz2⟩:=hzz
 have y1:IntKind.u8.wrap t.n=t.n:=IntWalk.u8_in _ ⟨by omega,by omega⟩
 have y2:IntKind.u8.wrap (t.l.length:Int)=t.l.length:=IntWalk.u8_in _ ⟨by omega,by omega⟩
 have hrow2:=(hrow.alloc (.cells #[.int .i64 t.k,.int .i64 t.n,.slice A t.l.length c] 159)).alloc (.cells #[.int .u8 t.n,.int .u8 t.l.length] 5)
 have hcc:∀ j u,[Value.int .u8 t.n,.int .u8 t.l.length][j]? = some u→((w.alloc (.cells #[.int .i64 t.k,.int .i64 t.n,.slice A t.l.length c] 159)).alloc (.cells #[.int .u8 t.n,.int .u8 t.l.length] 5)).cell? ((⟨w.heap.size+1,0,none⟩:Addr).add j)=some u:=by
  have:=qei (w.alloc (.cells #[.int .i64 t.k,.int .i64 t.n,.slice A t.l.length c] 159)) #[.int .u8 t.n,.int .u8 t.l.length] 5
  rwa [World.size_alloc] at this
 obtain ⟨ys,hys⟩:∃ ys,ys=[UInt8.ofNat t.n.toNat,UInt8.ofNat t.l.length]:=⟨_,rfl⟩
 have hyc:byCs (xs++ys)=byCs xs++[.int .u8 t.n,.int .u8 t.l.length]:=by
  have e1:=byte_of hn.1 hn.2.1
  have e2:=byte_of (n:=(t.l.length:Int)) (by omega) (by omega)
  rw [Int.toNat_natCast] at e2
  rw [hys,byCs,List.map_append,← byCs,List.map_cons,List.map_cons,List.map_nil,e1,e2]
 have hkt:qfa t=ys++qbl t.l:=by rw [hys,keyTm_eq];rfl
 have hyl:ys.length=2:=by rw [hys];rfl
 have hxl:xs.length≤100000000000:=by omega
 have hI2:=hI.ext ((Ext.refl w).alloc (.cells #[.int .i64 t.k,.int .i64 t.n,.slice A t.l.length c] 159))
 have hbx2:Boxed (w.alloc (.cells #[.int .i64 t.k,.int .i64 t.n,.slice A t.l.length c] 159)) Bb 306 vb:=hbx.alloc _
 have hown2:=hown.ext RBy.good ((Ext.refl w).alloc (.cells #[.int .i64 t.k,.int .i64 t.n,.slice A t.l.length c] 159))
 have hpush:∀ (v8:Value) (w8:World),w8.ownsRow base 5 1 v8 (xs.length+2) (byCs xs++[.int .u8 t.n,.int .u8 t.l.length])→((w.alloc (.cells #[.int .i64 t.k,.int .i64 t.n,.slice A t.l.length c] 159)).alloc (.cells #[.int .u8 t.n,.int .u8 t.l.length] 5)).grownBy w8 vb.ownBlock →
   (v8.ownBlock=vb.ownBlock∨v8.ownBlock=some ((w.alloc (.cells #[.int .i64 t.k,.int .i64 t.n,.slice A t.l.length c] 159)).alloc (.cells #[.int .u8 t.n,.int .u8 t.l.length] 5)).heap.size)→Boxed w8 Bb 306 vb∧ByI Bb base v0 W0 (xs++ys) (w8.setCell ⟨Bb,0,none⟩ v8):=fun v8 w8 h1 h2 h3 =>
  hI2.push hbx2 hown2 hat (by rw [hyl,hyc];exact h1) h2 (by rw [World.size_alloc] at h3;exact h3) hv0 hBl
 have hvw:vb.ownBlock≠some w.heap.size:=fun e=>by have:=(hown.own_lt e).2;omega
 have HX2:Hid (∀ w8:World,((w.alloc (.cells #[.int .i64 t.k,.int .i64 t.n,.slice A t.l.length c] 159)).alloc (.cells #[.int .u8 t.n,.int .u8 t.l.length] 5)).grownBy w8 vb.ownBlock→w8.cell? ⟨w.heap.size,2,none⟩=some (.slice A t.l.length c)):=fun w8 hg =>
  (World.cell?_of_block (a:=⟨w.heap.size,2,none⟩) (hg.block w.heap.size (by simp;omega) fun e=>hvw e.symm)).trans (by go_simp)
 have HP:=Hd hpush
 have HV:=Hd hv
 have HT:=Hd ht
 have HKT:=Hd hkt
 have HL:Hid (xs.length+2+(qbl t.l).length≤100000000000):=by show _≤_;rw [hkt,List.length_append,hyl] at hlen;omega
 clear hx hv ht hI hI2 hbx hbx2 hown hown2 hF hpush hyc hys hkt hat hrow hlen
 go_enter Tryz.func287,Tryz.ntmps287
 go_wp2_with (at_builtin;refine wpList_append_own_at _ rfl _ _ 306 rfl base 5 i5 (.int .u8 0) 1 1 Tryz.underlying306 hi5 hz0 hz1 hz2 rfl (by decide) _ _ _ rfl hrow2 ⟨w.heap.size+1,0,none⟩ 2 2 [.int .u8 t.n,.int .u8 t.l.length] rfl rfl hcc (by simp [Value.oneCell']) (by unfold maxLen;omega) (by omega) (by simp;omega) ?_;intro v8 w8 hown8 hgrow8 hnil8 hat8;obtain ⟨hb8,hi8⟩:=HP.out v8 w8 hown8 hgrow8 hat8;obtain ⟨g8,c8,rfl⟩:=ownsRow_succ hown8;have q8:=hb8.cell;have f8:=hb8.frozen;have x2:=HX2.out w8 hgrow8;have HI8:=Hd hi8;clear hi8 hb8)
 go_loopw [19] (fun vi wr=>∃ k:Nat,k≤t.l.length∧vi = .int .i64 k∧Hid (ByI Bb base v0 W0 (xs++ys++qbl (t.l.take k)) wr)) (fun vi _=>t.l.length-(intOf vi).toNat)
 case atStart=>exact ⟨0,Nat.zero_le _,rfl,by show ByI _ _ _ _ _ _;rw [List.take_zero,qbl,List.append_nil];exact HI8.out⟩
 case round =>
  obtain ⟨k,hk,rfl,hI⟩:=hrel
  have hKp:=hI.out.kp hK
  by_cases hlt:k<t.l.length
  ·obtain ⟨b,off,cs,rfl,hb,hSb,hl,hr,hcell⟩:=HV.out.get k hlt
   obtain ⟨j1,j2,u,rfl,hu⟩:=(qay ..).1 hr
   have a0:=hKp.cell (hcell.get 0 _) hSb
   have a1:=hKp.cell (hcell.get 1 _) hSb
   have a2:=hKp.cell (hcell.get 2 _) hSb
   simp only [Nat.add_zero] at a0
   have gB0:=hKp.cell hBa hKa
   have hBalt:=World.block_lt_of_cell? wr ⟨Ba,0,none⟩ gB0
   have hle:=qo6 t.l (k+1)
   rw [qk7 t.l k hlt,List.length_append] at hle
   have hrec:=fun W (hW:Ext wr W)=>HT.out _ (List.getElem_mem hlt) K Bb Ba base v0 W0 _ _ W hK hKa hbs hv0 hBl hr hBa (hI.out.ext hW) (by have:=HL.out;rw [List.length_append,List.length_append,hyl];omega)
   obtain ⟨Au,cu,rfl,_,_⟩:=hu.val
   have hst:=qk7 t.l k hlt
   have HST:=Hd hst
   obtain ⟨x,hxe⟩:∃ x,t.l[k]=x:=⟨_,rfl⟩
   rw [hxe] at a0 a1 a2 hrec HST
   have gB:=Lib.cell?_alloc_some (.cells #[.int .i64 x.k,.int .i64 x.n,.slice Au x.l.length cu] 159) gB0
   clear hr hu hl hcell hst hle hxe hKp gB0
   go_wp2_with fail
   refine (hrec _ bel).mono ?_
   rintro e w5 ⟨rfl,h5⟩
   have H5:=Hd h5
   clear h5
   go_wp2_with fail
   go_roundw
   case rel=>exact ⟨k+1,by omega,by go_num,by show ByI _ _ _ _ _ _;rw [HST.out,← List.append_assoc];exact H5.out⟩
   case measure=>simp [intOf];omega
  ·have hkl:t.l.take k=t.l:=List.take_of_length_le (by omega)
   rw [hkl] at hI
   clear hkl hKp
   go_wp2_with fail
   go_end0
   rw [HKT.out,← List.append_assoc]
   exact ⟨rfl,hI.out⟩
theorem keyT_c:∀ t,qbd t=true→KeyC t:=Tm.ind fun t ih h=>key_of t h fun x hx=>ih x hx ((qkl h).2.2.2 x hx)
theorem key_c (S:Nat→Prop) (x:Lb) (hok:qax x=true) (hsz:x.size≤1000000000) (cs:List Value) (w:World) (hx:RLb S w x cs) :
  Calls Tryz.prog 272 #[.agg cs.toArray] w fun e w'=>e = .returned (.string (qd0 x))∧Ext w w':=by
 have hv8:=qkf hok
 obtain ⟨i1,v,rfl,hv⟩:=id hx
 obtain ⟨A,c,rfl,hc,hc0⟩:=hv.val
 have hv2:qal (fun q=>q<w.heap.size) w x.v [.slice A x.v.length c]:=qal.good.mono hv fun b hb _=>hb
 have HV:=Hd hv2
 have HT:Hid (∀ t∈x.v,KeyC t):=fun t ht=>keyT_c t (hv8.2.2.2 t ht)
 have hg0:=hv8.1
 have hg1:=hv8.2.1
 have hl8:=hv8.2.2.1
 have hkl:(qbl x.v).length=2*x.size:=qno x.v
 have y0:IntKind.i64.wrap (x.g+4)=x.g+4:=IntWalk.i64_in _ (by omega)
 have y1:IntKind.u8.wrap (x.g+4)=x.g+4:=IntWalk.u8_in _ ⟨by omega,by omega⟩
 have y2:IntKind.u8.wrap (x.v.length:Int)=x.v.length:=IntWalk.u8_in _ ⟨by omega,by omega⟩
 clear hx hv hv2 hv8
 go_enter Tryz.func272,Tryz.ntmps272
 go_wp2_with fail
 obtain ⟨W0,hW0⟩:∃ W0,(((w.alloc (.cells #[.int .i64 x.g,.slice A x.v.length c] 61)).alloc (.cells #[.int .u8 (x.g+4),.int .u8 x.v.length] 5)).alloc (.cells #[.slice (some ⟨w.heap.size+1,0,none⟩) 2 2] 306)).alloc (.cells #[.func (.func 287) #[] #[.pointer (some ⟨w.heap.size+1+1,0,none⟩),.pointer (some ⟨w.heap.size+1+1+1,0,none⟩)]] 307)=W0:=⟨_,rfl⟩
 have hX0:Ext w W0:=by rw [← hW0];exact ((((Ext.refl w).alloc _).alloc _).alloc _).alloc _
 have hs0:W0.heap.size=w.heap.size+4:=by rw [← hW0];simp
 obtain ⟨ys,hys⟩:∃ ys,ys=[UInt8.ofNat (x.g+4).toNat,UInt8.ofNat x.v.length]:=⟨_,rfl⟩
 have hyl:ys.length=2:=by rw [hys];rfl
 have hkx:keyLb x=ys++qbl x.v:=by rw [hys];rfl
 have hyc:byCs ys=[.int .u8 (x.g+4),.int .u8 x.v.length]:=by
  have e1:=byte_of (n:=x.g+4) (by omega) (by omega)
  have e2:=byte_of (n:=(x.v.length:Int)) (by omega) (by omega)
  rw [Int.toNat_natCast] at e2
  rw [hys,byCs,List.map_cons,List.map_cons,List.map_nil,e1,e2]
 obtain ⟨W1,hW1⟩:∃ W1,w.alloc (.cells #[.int .i64 x.g,.slice A x.v.length c] 61)=W1:=⟨_,rfl⟩
 have hs1:W1.heap.size=w.heap.size+1:=by rw [← hW1,World.size_alloc]
 obtain ⟨W2,hW2⟩:∃ W2,W1.alloc (.cells #[.int .u8 (x.g+4),.int .u8 x.v.length] 5)=W2:=⟨_,rfl⟩
 have hs2:W2.heap.size=w.heap.size+1+1:=by rw [← hW2,World.size_alloc,hs1]
 obtain ⟨W3,hW3⟩:∃ W3,W2.alloc (.cells #[.slice (some ⟨w.heap.size+1,0,none⟩) 2 2] 306)=W3:=⟨_,rfl⟩
 have hs3:W3.heap.size=w.heap.size+1+1+1:=by rw [← hW3,World.size_alloc,hs2]
 have b1:W0.heap[w.heap.size+1]? = some (.cells #[.int .u8 (x.g+4),.int .u8 x.v.length] 5 (0,0)):=by
  rw [← hW0,hW1,hW2,hW3,Below.heap_alloc _ _ _ (by omega),← hW3,Below.heap_alloc _ _ _ (by omega),← hW2,← hs1]
  exact heap_alloc_new _ _
 have b2:Boxed W0 (w.heap.size+1+1) 306 (.slice (some ⟨w.heap.size+1,0,none⟩) 2 2):=by
  show W0.heap[_]? = _
  rw [← hW0,hW1,hW2,hW3,Below.heap_alloc _ _ _ (by omega),← hW3,← hs2]
  exact heap_alloc_new _ _
 have b3:W0.cell? ⟨w.heap.size+1+1+1,0,none⟩=some (.func (.func 287) #[] #[.pointer (some ⟨w.heap.size+1+1,0,none⟩),.pointer (some ⟨w.heap.size+1+1+1,0,none⟩)]):=by
  rw [← hW0,hW1,hW2,hW3,← hs3,World.cell?_alloc_new];rfl
 clear hs1 hs2 hs3 hW1 hW2 hW3
 clear W1 W2 W3
 have hby:ByI (w.heap.size+1+1) w.heap.size (.slice (some ⟨w.heap.size+1,0,none⟩) 2 2) W0 ys W0 :=
  ⟨Bt.refl _ _,_,b2,⟨_,⟨by rw [hyl,hyc];rfl,.inr ⟨w.heap.size+1,2,_,by rw [hyl],by omega,b1,by omega,by unfold maxLen;omega,rfl,by rw [hyl,hyc];rfl⟩⟩,RBy.flat _⟩,.inl rfl⟩
 rw [hW0]
 clear hW0 b1 b2 hys hyc
 obtain ⟨Ba,hBa⟩:∃ Ba,w.heap.size+1+1+1=Ba:=⟨_,rfl⟩
 obtain ⟨Bb,hBb⟩:∃ Bb,w.heap.size+1+1=Bb:=⟨_,rfl⟩
 rw [hBa,hBb]
 rw [hBa,hBb] at b3
 rw [hBb] at hby
 have hK:∀ q,(q<w.heap.size∨q=Ba)→q≠Bb∧(Value.slice (some ⟨w.heap.size+1,0,none⟩) 2 2).ownBlock≠some q:=by
  intro q hq
  refine ⟨by omega,?_⟩
  intro e
  simp only [Value.ownBlock,Option.some.injEq] at e
  omega
 have hv0:(Value.slice (some ⟨w.heap.size+1,0,none⟩) 2 2).ownBlock≠some Bb:=by
  intro e
  simp only [Value.ownBlock,Option.some.injEq] at e
  omega
 have hHK:=Hd hK
 have hHv0:=Hd hv0
 have hHX0:=Hd hX0
 have hL:Hid (Bb<W0.heap.size∧w.heap.size≤W0.heap.size):=by show _∧_;omega
 have HV0:Hid (qal (fun q=>q<w.heap.size∨q=Ba) W0 x.v [.slice A x.v.length c]):=qal.good.mono (qal.good.move HV.out hX0.kp) fun b _ hb=>.inl hb
 have HB:=Hd hby
 have HKX:=Hd hkx
 have HB3:=Hd b3
 have HKL:=Hd hkl
 have hHS:Hid (w.heap.size<Bb):=by show _<_;omega
 clear hBa hBb hK hv0 hX0 hs0 hby hkx b3 HV hkl
 go_loopw [20] (fun vi wr=>∃ k:Nat,k≤x.v.length∧vi = .int .i64 k∧Hid (ByI Bb w.heap.size (.slice (some ⟨w.heap.size+1,0,none⟩) 2 2) W0 (ys++qbl (x.v.take k)) wr)) (fun vi _=>x.v.length-(intOf vi).toNat)
 case atStart=>exact ⟨0,Nat.zero_le _,rfl,by show ByI _ _ _ _ _ _;rw [List.take_zero,qbl,List.append_nil];exact HB.out⟩
 case round =>
  obtain ⟨k,hk,rfl,hI⟩:=hrel
  have hKp:=hI.out.kp hHK.out
  by_cases hlt:k<x.v.length
  ·obtain ⟨b,off,cs,rfl,hb,hSb,hl,hr,hcell⟩:=HV0.out.get k hlt
   obtain ⟨j1,j2,u,rfl,hu⟩:=(qay ..).1 hr
   have a0:=hKp.cell (hcell.get 0 _) hSb
   have a1:=hKp.cell (hcell.get 1 _) hSb
   have a2:=hKp.cell (hcell.get 2 _) hSb
   simp only [Nat.add_zero] at a0
   have gB0:=hKp.cell HB3.out (.inr rfl)
   have hle:=qo6 x.v (k+1)
   rw [qk7 x.v k hlt,List.length_append] at hle
   have hrec:=fun W (hW:Ext wr W)=>HT.out _ (List.getElem_mem hlt) _ Bb Ba w.heap.size _ W0 _ _ W hHK.out (.inr rfl) hL.out.2 hHv0.out hL.out.1 hr HB3.out (hI.out.ext hW) (by have:=HKL.out;rw [List.length_append,hyl];omega)
   obtain ⟨Au,cu,rfl,_,_⟩:=hu.val
   have hst:=qk7 x.v k hlt
   have HST:=Hd hst
   obtain ⟨y,hxe⟩:∃ y,x.v[k]=y:=⟨_,rfl⟩
   rw [hxe] at a0 a1 a2 hrec HST
   have gB:=Lib.cell?_alloc_some (.cells #[.int .i64 y.k,.int .i64 y.n,.slice Au y.l.length cu] 159) gB0
   clear hr hu hl hcell hst hle hxe hKp gB0
   go_wp2_with fail
   refine (hrec _ bel).mono ?_
   rintro e w5 ⟨rfl,h5⟩
   have H5:=Hd h5
   clear h5
   go_wp2_with fail
   go_roundw
   case rel=>exact ⟨k+1,by omega,by go_num,by show ByI _ _ _ _ _ _;rw [HST.out,← List.append_assoc];exact H5.out⟩
   case measure=>simp [intOf];omega
  ·have hkl:x.v.take k=x.v:=List.take_of_length_le (by omega)
   rw [hkl] at hI
   clear hkl hKp
   obtain ⟨vb,hbx,hown,hat⟩:=hI.out.row
   have q0:=hbx.cell
   obtain ⟨news,hrow,hF⟩:=hown
   obtain rfl:=RBy.cells hF
   have hn2:(ys++qbl x.v).length=(qbl x.v).length+1+1:=by rw [List.length_append,hyl];omega
   rw [hn2] at hrow
   obtain ⟨g,c9,rfl⟩:=ownsRow_succ hrow
   have hcv:=run_convert_bytes_back (P:=Tryz.prog) wr 306 9 5 ⟨g,0,none⟩ c9 (ys++qbl x.v) Tryz.underlying306 Tryz.underlying5 Tryz.underlying9 (fun j hj=>hrow.cells rfl j _ (by rw [byCs,List.getElem?_map,List.getElem?_eq_getElem hj];rfl))
   rw [hn2,← HKX.out] at hcv
   have hXr:Ext w wr:=Bt.new hHX0.out hI.out.bt fun q _ hq=>by
    have h1:=hL.out
    have h2:=hHS.out
    rcases hq with hq | hq
    ·omega
    ·simp only [Value.ownBlock,Option.some.injEq] at hq;omega
   have HXr:=Hd hXr
   clear hXr hat hrow hF hn2 hbx
   go_wp2_with fail
   go_ret
   exact ⟨rfl,HXr.out⟩
end
section
open Go.Shelf
theorem IsMap.lookup2 {κ:Type} [DecidableEq κ] {P:Program} {K:κ→Value} {W:World} {m:Nat} {f:κ→Option Value} (h:IsMap K W m f) {t kt et:TypeId} (ht:P.underlying t=some (.map kt et)) (hk:KeyOk P kt K) {z:Value} (hz:(zeroValue et).run P W = .ok z W) (a:κ) :
  (Instr.lookup t (.map (some m)) (K a) true).run P W = .ok (.tuple #[(f a).getD z,.bool (f a).isSome]) W:=by
 obtain ⟨es,clock,ks,h1,h2,h3,h4,h5⟩:=h
 obtain ⟨d,hd,hs,hc⟩:=hk.kind
 have hf:=qjt hs a es.toList ks 0 h2
 have hlen:es.toList.length=ks.length:=by have:=congrArg List.length h2;simpa using this
 unfold Instr.lookup Instr.findKey
 by_cases hm:a∈ks
 ·rw [dif_pos hm] at hf
  have hi:ks.idxOf a<ks.length:=List.idxOf_lt_length_of_mem hm
  have hv:=h4 _ hi
  rw [List.getElem_idxOf] at hv
  rw [List.getElem?_eq_getElem (by omega)] at hv hf
  simp only [Option.map_some] at hv hf
  simp [run_underlying ht,run_underlying hd,getObj,Sem.run,h1,hc,hf,hv]
 ·rw [dif_neg hm] at hf
  rw [h5 a hm]
  simp [run_underlying ht,run_underlying hd,getObj,Sem.run,h1,hc,hf,hz]
def qc3 (ls:List Lb) (x:Lb):List Lb:=if x∈ls then ls else ls++[x]
def mapF (ls:List Lb) (k:ByteArray):Option Value:=(ls.findIdx? fun y=>decide (qd0 y=k)).map fun i=>.int .i64 (i:Int)
theorem qn7:∀ (ls:List Lb) (x:Lb),qax x=true→(∀ y∈ls,qax y=true)→ls.findIdx? (fun y=>decide (qd0 y=qd0 x))=if x∈ls then some (ls.idxOf x) else none
 | [],x,_,_=>by simp
 | y :: ls,x,hx,h=>by
  have ih:=qn7 ls x hx fun z hz=>h z (by simp [hz])
  have hy:=h y (by simp)
  rw [List.findIdx?_cons,ih]
  by_cases e:y=x
  ·subst e
   simp
  ·have hk:decide (qd0 y=qd0 x)=false:=decide_eq_false fun h'=>e (keyS_inj hy hx h')
   rw [hk]
   have hb:(y == x)=false:=beq_eq_false_iff_ne.2 e
   by_cases hm:x∈ls
   ·simp [hm,List.idxOf_cons,hb]
   ·have:¬ x∈y :: ls:=by simp [hm,Ne.symm e]
    simp [hm,this]
theorem qqc (ls:List Lb) (x:Lb) (hx:qax x=true) (h:∀ y∈ls,qax y=true):mapF ls (qd0 x)=if x∈ls then some (.int .i64 (ls.idxOf x:Int)) else none:=by
 unfold mapF
 rw [qn7 ls x hx h]
 split <;> rfl
theorem qp7 (ls:List Lb) (x:Lb) (hx:qax x=true) (h:∀ y∈ls,qax y=true) (hn:x∉ls):(fun b=>if b=qd0 x then some (Value.int .i64 (ls.length:Int)) else mapF ls b)=mapF (ls++[x]):=by
 funext b
 unfold mapF
 rw [List.findIdx?_append]
 by_cases e:b=qd0 x
 ·subst e
  rw [if_pos rfl,qn7 ls x hx h,if_neg hn]
  simp
 ·rw [if_neg e]
  have:([x].findIdx? fun y=>decide (qd0 y=b))=none:=by simp [Ne.symm e]
  rw [this]
  simp
theorem mapF_nil:mapF []=fun _=>none:=rfl
structure qcu (base B:Nat) (ls:List Lb) (es:List Ed) (ve:Value) (W:World):Prop where
 lt:B<base
 ex:∃ (mo:Option Nat) (vl:Value) (T:Nat→Prop),qah W B 235 [.map mo,vl,ve]∧qab RLb 2 61 base T W ls vl∧qab REd 3 88 base (fun _=>False) W es ve∧(∀ q,T q→base≤q∧mo≠some q∧ve.ownBlock≠some q)∧(∀ q,vl.ownBlock=some q→ve.ownBlock≠some q) ∧
  ((mo=none∧ls=[])∨∃ m,mo=some m∧base≤m∧IsMap Value.string W m (mapF ls))
theorem qcu.ext {base B:Nat} {ls:List Lb} {es:List Ed} {ve:Value} {W W':World} (h:qcu base B ls es ve W) (he:Ext W W'):qcu base B ls es ve W':=by
 obtain ⟨mo,vl,T,h1,h2,h3,h4,h5,h6⟩:=h.ex
 refine ⟨h.lt,mo,vl,T,h1.ext he,h2.ext RLb.good he,h3.ext REd.good he,h4,h5,h6.imp id ?_⟩
 rintro ⟨m,rfl,hm,hp⟩
 exact ⟨m,rfl,hm,hp.move (he.block m hp.lt)⟩
theorem addLb_len (ls:List Lb) (x:Lb):(qc3 ls x).length≤ls.length+1:=by unfold qc3;split <;> simp
theorem addLb_ok {ls:List Lb} {x:Lb} (hx:qax x=true) (h:∀ y∈ls,qax y=true):∀ y∈qc3 ls x,qax y=true:=fun y hy=>by
 unfold qc3 at hy
 split at hy
 ·exact h y hy
 ·rcases List.mem_append.1 hy with hy | hy
  ·exact h y hy
  ·rw [List.mem_singleton.1 hy];exact hx
theorem qcu.at {base B:Nat} {ls:List Lb} {es:List Ed} {ve:Value} {W:World} (h:qcu base B ls es ve W):W.cell? ⟨B,2,none⟩=some ve:=by
 obtain ⟨mo,vl,T,h1,_⟩:=h.ex
 exact h1.cell 2 _
end
section
open Go.Shelf
def cv0 (s:Sy):Cv:=⟨List.replicate s.ls.length false,List.replicate s.es.length false⟩
def qf6 (s:Sy) (ts:List Te):Cv:=ts.foldl (fun c t=>qea s t c) (cv0 s)
open Classical in
noncomputable def covR (s:Sy) (ts:List Te):Cv:=if qa3 s ts=0 then qf6 s ts else ⟨[],[]⟩
theorem qme (s:Sy):∀ (ts:List Te) (c:Cv),(ts.foldl (fun c t=>qea s t c) c).l.length=c.l.length∧(ts.foldl (fun c t=>qea s t c) c).e.length=c.e.length
 | [],_=>⟨rfl,rfl⟩
 | t :: ts,c=>by
  have h1:=qme s ts (qea s t c)
  have h2:=qss s t c
  exact ⟨h1.1.trans h2.1,h1.2.trans h2.2⟩
def CvPost (c:Cv) (err:Int) (w:World) (e:Ending) (w':World):Prop:=∃ v1 v2,e = .returned (.tuple #[v1,v2,.int .i64 err])∧RBs w.heap.size w' c.l v1∧RBs w.heap.size w' c.e v2∧Ext w w'
set_option maxHeartbeats 1000000 in
set_option maxRecDepth 100000 in
theorem Covers_c (S:Nat→Prop) (s:Sy) (cs:List Value) (ts:List Te) (v:Value) (w:World) (hx:RSy S w s cs) (ht:RSl RTe 2 S w ts [v]) :
  Calls Tryz.prog 48 #[.agg cs.toArray,v] w (CvPost (covR s ts) (qa3 s ts) w):=by
 have hak:=fun W (hW:Ext w W)=>qki S s cs ts v W (RSy.good.bel hx hW) ((RSl.good RTe.good).bel ht hW)
 obtain ⟨_,vl,ve,rfl,hvl,hve⟩:=id hx
 obtain ⟨Al,cl,rfl,_,_⟩:=hvl.val
 obtain ⟨Ae,ce,rfl,_,_⟩:=hve.val
 obtain ⟨A,c,rfl,hc,hc0⟩:=ht.val
 have HT:=Hd ht
 clear hx ht hvl hve
 by_cases hE:qa3 s ts=0
 case neg =>
  have hv:covR s ts=⟨[],[]⟩:=if_neg hE
  rw [hv]
  obtain ⟨er,her⟩:∃ er,qa3 s ts=er:=⟨_,rfl⟩
  rw [her] at hak hE ⊢
  have hE':(er == 0)=false:=beq_eq_false_iff_ne.2 hE
  clear her hv
  go_enter Tryz.func48,Tryz.ntmps48
  go_wp2_with fail
  refine (hak _ bel).mono ?_
  rintro e w1 ⟨_,h1⟩
  obtain ⟨rfl,hx1⟩:=h1 hE
  have hX1:Ext w w1:=bel
  clear h1 hx1
  go_wp2_with fail
  go_ret3
  exact ⟨.slice none 0 0,.slice none 0 0,rfl,qab.nil ..,qab.nil ..,hX1⟩
 have hv:covR s ts=qf6 s ts:=if_pos hE
 have hok:=(qf1 hE).1
 have hn:∀ t∈ts,NTe t:=fun t h=>NTe.of_test ((qf1 hE).2.2 t h)
 rw [hv,hE]
 rw [hE] at hak
 clear hE hv
 have hnc:=fun W g (hg:qau (fun _=>True) W g s)=>qq1 (fun _=>True) s g W hg (by have:=hok.2.2.1;omega) (by have:=hok.2.2.2.1;omega)
 go_enter Tryz.func48,Tryz.ntmps48
 go_wp2_with fail
 refine (hak _ bel).mono ?_
 rintro e w1 ⟨h1,_⟩
 obtain ⟨g,rfl,hx1,hg,hS⟩:=h1 rfl
 have hX1:Ext w w1:=bel
 have HS:=Hd (hS.mono (S':=fun k=>k<w1.heap.size) fun k h _=>h)
 clear h1 hx1 hg hS hak
 go_wp2_with fail
 refine (hnc _ g (HS.out.mono fun _ _ _=>trivial)).mono ?_
 rintro e w2 ⟨v1,v2,rfl,hr1,hr2,hap,h2⟩
 obtain ⟨A1,k1,rfl,_,_⟩:=(hr1.sl qad.good (by decide)).val
 obtain ⟨A2,k2,rfl,_,_⟩:=(hr2.sl qad.good (by decide)).val
 have hR0:RCv w1.heap.size w2 (cv0 s) (.slice A1 (List.replicate s.ls.length false).length k1) (.slice A2 (List.replicate s.es.length false).length k2):=⟨hr1,hr2,hap⟩
 have hZ0:∀ q,ZCv (.slice A1 (List.replicate s.ls.length false).length k1) (.slice A2 (List.replicate s.es.length false).length k2) q→w1.heap.size≤q∧q<w2.heap.size:=fun q h=>by
  rcases h with h | h
  ·exact qfq hr1 h
  ·exact qfq hr2 h
 simp only [List.length_replicate] at hR0 hZ0 ⊢
 have HR0:=Hd hR0
 have HZ0:=Hd hZ0
 have HX1:=Hd hX1
 have HX2:=Hd h2
 have hsz2:=h2.size
 clear hr1 hr2 hap hR0 hZ0 h2 hnc
 have HT1:=Hd ((RSl.good RTe.good).mono HT.out (S':=fun k=>k<w1.heap.size) fun b hb _=>by have:=hX1.size;omega)
 go_wp2_with fail
 obtain ⟨Wb,hWb⟩:∃ Wb,w2.alloc (.cells #[.slice A1 s.ls.length k1,.slice A2 s.es.length k2] 145)=Wb:=⟨_,rfl⟩
 have hXb:Ext w2 Wb:=by rw [← hWb];exact (Ext.refl _).alloc _
 have hb0:Wb.cell? ⟨w2.heap.size,0,none⟩=some (.slice A1 s.ls.length k1):=by subst hWb;go_simp
 have hb1:Wb.cell? ⟨w2.heap.size,1,none⟩=some (.slice A2 s.es.length k2):=by subst hWb;go_simp
 have hbs:w2.heap.size<Wb.heap.size:=by rw [← hWb];simp
 rw [hWb]
 clear hWb
 go_loopw [25] (fun vi wr=>∃ k:Nat,k≤ts.length∧vi = .int .i64 k∧RCv w1.heap.size wr ((ts.take k).foldl (fun c t=>qea s t c) (cv0 s)) (.slice A1 s.ls.length k1) (.slice A2 s.es.length k2)∧wr.cell? ⟨w2.heap.size,0,none⟩=some (.slice A1 s.ls.length k1)∧wr.cell? ⟨w2.heap.size,1,none⟩=some (.slice A2 s.es.length k2)∧Hid (Ext w1 wr)∧w2.heap.size<wr.heap.size) (fun vi _=>ts.length-(intOf vi).toNat)
 case atStart=>exact ⟨0,Nat.zero_le _,rfl,HR0.out.ext hXb,hb0,hb1,HX2.out.trans' hXb,hbs⟩
 case round =>
  obtain ⟨k,hk,rfl,hrc,q0,q1,hE,hsz⟩:=hrel
  have HRC:=Hd hrc
  clear hrc
  by_cases hlt:k<ts.length
  ·obtain ⟨b,off,cs,rfl,hb,hS2,hl,hr,hcell⟩:=((RSl.good RTe.good).bel HT1.out (HX1.out.trans' hE.out)).get k hlt
   obtain ⟨v0,v1,rfl,ha0,ha1⟩:=id hr
   have a0:=hcell.get 0 _
   have a1:=hcell.get 1 _
   simp only [Nat.add_zero] at a0
   have hnt:=hn _ (List.getElem_mem hlt)
   have hfl:=qme s (ts.take k) (cv0 s)
   have hcv:=fun X (hX:Ext wr X)=>qpp (fun k=>k<w1.heap.size) s hok g ts[k] ((ts.take k).foldl (fun c t=>qea s t c) (cv0 s)) w1.heap.size _ _ v0 v1 X (HS.out.bel (hE.out.trans' hX)) (HRC.out.ext hX) (fun _ h=>h) (qaa.good.bel ha0 hX) (qaa.good.bel ha1 hX) (by rw [hfl.1];simp [cv0]) (by rw [hfl.2];simp [cv0]) hnt.1 hnt.2
   obtain ⟨B0,d0,rfl,_,_⟩:=ha0.val
   obtain ⟨B1,d1,rfl,_,_⟩:=ha1.val
   clear ha0 ha1 hr hl hcell hS2 hfl
   go_wp2_with fail
   refine (hcv _ bel).mono ?_
   rintro e w5 ⟨rfl,hr5,hb5⟩
   have hx4:Ext wr (wr.alloc (.cells #[.slice B0 ts[k].tr.length d0,.slice B1 ts[k].mu.length d1] 40)):=(Ext.refl wr).alloc _
   have hne:¬ ZCv (.slice A1 s.ls.length k1) (.slice A2 s.es.length k2) w2.heap.size:=fun h=>by have:=HZ0.out _ h;omega
   have q0':=hb5.cell (Ext.keep hx4 q0) hne
   have q1':=hb5.cell (Ext.keep hx4 q1) hne
   have hX5:Ext w1 w5:=Bt.new (hE.out.trans' hx4) hb5 fun i _ h=>(HZ0.out i h).1
   have hz5:=hb5.size
   have HR5:=Hd hr5
   have HX5:=Hd hX5
   clear hr5 hb5 hX5 q0 q1 hcv
   go_wp2_with fail
   go_roundw
   case rel =>
    refine ⟨k+1,by omega,by go_num,?_,q0',q1',HX5.out,by simp at hz5;omega⟩
    rw [List.take_succ_eq_append_getElem hlt,List.foldl_append]
    exact HR5.out
   case measure=>simp [intOf];omega
  ·obtain rfl:k=ts.length:=by omega
   rw [List.take_length] at HRC
   go_wp2_with fail
   (refine qaw (by kernel_rfl) (by kernel_rfl) ?_;(repeat (first | go_big_quiet_step ((fail)) | quiet_step ((fail))));refine wpQuiet_nil ?_)
   intro w5 hx5
   have hX5:Ext w w5:=HX1.out.trans' (hE.out.trans' hx5)
   go_wp2_with fail
   go_ret3
   refine ⟨.slice A1 s.ls.length k1,.slice A2 s.es.length k2,rfl,?_,?_,hX5⟩
   ·exact (HRC.out.l.ext qad.good hx5).base HX1.out.size
   ·exact (HRC.out.e.ext qad.good hx5).base HX1.out.size
end
section
open Go.ChangeShapes Go.WideShapes Go.ChangeAt
section
variable {H:Type} {enc:TypeId×Value→H} {W:World} {sp:Nat→Bool} {held:Bool}
theorem qsa:∀ (l:List Nat) (es:List (DataW H)),l.length=es.length→(∀ i,(h:i<l.length)→(h':i<es.length)→l[i]≤Rows.uptoBulk es[i])→l.sum≤Rows.uptoBulkAll es
 | [],[],_,_=>by simp [Rows.uptoBulkAll]
 | [],_ :: _,h,_=>by simp at h
 | _ :: _,[],h,_=>by simp at h
 | x :: l,e :: es,h,hi=>by
  rw [List.sum_cons,Rows.uptoBulkAll]
  have h0:=hi 0 (by simp) (by simp)
  have:=qsa l es (by simpa using h) fun i h1 h2=>hi (i+1) (Nat.succ_lt_succ h1) (Nat.succ_lt_succ h2)
  simp only [List.getElem_cons_zero] at h0
  omega
theorem qhm {α:Type} {R:Rdr α} {k:Nat} (hk:0<k) {t te:TypeId} {fuel:Nat} {cs:List Value} {x:DataW H×List MemPlace} (sz:α→Nat) (ht:Tryz.prog.underlying t=some (.slice te)) (hc:Tryz.prog.cellsOf te=k)
  (h:DataW.trod enc Tryz.prog W 0 sp held fuel t cs=some x) (hel:∀ n,n<fuel→∀ cs y,DataW.trod enc Tryz.prog W 0 sp held n te cs=some y→cs.length=k∧∃ a,R (fun _=>True) W a cs∧sz a≤Rows.uptoBulk y.1) :
  ∃ l v,cs=[v]∧RSl R k (fun _=>True) W l [v]∧(l.map sz).sum≤Rows.uptoBulk x.1:=by
 rcases DataW.trod_slice ht h with ⟨rfl,rfl⟩ | ⟨a,len,cap,elems,rest,n,rfl,rfl,rfl,_,h1,h2,h3,h4,_,_⟩
 ·exact ⟨[],_,rfl,⟨none,0,rfl,Nat.le_refl _,by decide,.inl rfl⟩,by simp⟩
 ·have hx:∀ i:Fin len,∃ a' ds,R (fun _=>True) W a' ds∧ds.length=k∧W.cells? 0 (a.add (i.1*k)) k=some ds∧sz a'≤Rows.uptoBulk (elems[i.1]'(by omega)).1:=fun i=>by
   have hi:=h4 i.1 i.2
   rw [hc,List.getElem?_eq_getElem (by omega)] at hi
   obtain ⟨ds,hd,hy⟩:=Option.bind_eq_some_iff.1 hi
   obtain ⟨hl,a',ha,hs⟩:=hel n (Nat.lt_succ_self n) ds _ hy
   exact ⟨a',ds,ha,hl,hd,hs⟩
  obtain ⟨f,hf⟩:=Classical.axiomOfChoice hx
  have hlen:(List.ofFn f).length=len:=List.length_ofFn
  have hget:∀ i,(h:i<len)→(List.ofFn f)[i]'(by rw [hlen];exact h)=f ⟨i,h⟩:=fun i h=>by simp
  refine ⟨List.ofFn f,_,rfl,⟨some a,cap,by rw [hlen],by rw [hlen];exact h1,by unfold maxLen at h2;omega,?_⟩,?_⟩
  ·by_cases h0:len=0
   ·left
    exact List.length_eq_zero_iff.1 (by rw [hlen];exact h0)
   ·right
    obtain ⟨b,off,spot⟩:=a
    obtain ⟨ds,_,hl0,hc0,_⟩:=hf ⟨0,by omega⟩
    obtain ⟨_,_,hcell0⟩:=World.cells?_some hc0
    have g0:=hcell0 0 hk
    rw [List.getElem?_eq_getElem (by omega)] at g0
    have hspot:spot=none:=by simpa [Addr.add] using World.cell?_spot g0
    subst hspot
    refine ⟨b,off,rfl,World.block_lt_of_cell? W _ (by simpa [Addr.add] using g0),trivial,qcp.of_get fun i hi=>?_⟩
    rw [hlen] at hi
    obtain ⟨ds,hr,hl,hcs,_⟩:=hf ⟨i,hi⟩
    obtain ⟨_,_,hcell⟩:=World.cells?_some hcs
    refine ⟨ds,hl,by rw [hget i hi];exact hr,fun j u hj=>?_⟩
    have hjk:j<k:=by rw [← hl];exact (List.getElem?_eq_some_iff.1 hj).1
    have:=hcell j hjk
    rw [hj] at this
    rw [Addr.add_lit,Addr.add_lit] at this
    exact this
  ·have hb:=qsa ((List.ofFn f).map sz) (elems.map (·.1)) (by simp [h3]) fun i h h'=>by
    have hi:i<len:=by simpa using h
    obtain ⟨_,_,_,_,hs⟩:=hf ⟨i,hi⟩
    simpa using hs
   simp only [Rows.uptoBulk]
   omega
theorem qhd {n:Int} (h:(Lit.int .i64 n).wf=true):I64 n:=by
 simp only [Lit.wf,Bool.and_eq_true,decide_eq_true_eq] at h
 have h1:IntKind.i64.min = -9223372036854775808:=by decide
 have h2:IntKind.i64.max=9223372036854775807:=by decide
 rw [h1,h2] at h
 unfold I64
 omega
theorem list2 {α:Type}:∀ {l:List α},l.length=2→∃ a b,l=[a,b]
 | [a,b],_=>⟨a,b,rfl⟩
theorem qip {α:Type}:∀ {l:List α},l.length=3→∃ a b c,l=[a,b,c]
 | [a,b,c],_=>⟨a,b,c,rfl⟩
theorem k3:Tryz.prog.cellsOf 3=1:=by kernel_rfl
theorem k59:Tryz.prog.cellsOf 59=1:=by kernel_rfl
theorem k22:Tryz.prog.cellsOf 22=1:=by kernel_rfl
theorem k23:Tryz.prog.cellsOf 23=1:=by kernel_rfl
theorem k159:Tryz.prog.cellsOf 159=3:=by kernel_rfl
theorem k61:Tryz.prog.cellsOf 61=2:=by kernel_rfl
theorem k88:Tryz.prog.cellsOf 88=3:=by kernel_rfl
theorem k25:Tryz.prog.cellsOf 25=3:=by kernel_rfl
theorem qnf:∀ l:List Tm,(l.map Tm.size).sum=Tm.sizes l
 | []=>by rw [Tm.sizes];rfl
 | t :: ts=>by rw [Tm.sizes,List.map_cons,List.sum_cons,qnf ts]
theorem open_tm:∀ (fuel:Nat) (cs:List Value) (x:DataW H×List MemPlace),DataW.trod enc Tryz.prog W 0 sp held fuel 159 cs=some x→cs.length=3∧∃ t:Tm,RTm (fun _=>True) W t cs∧t.size≤Rows.uptoBulk x.1:=by
 intro fuel
 induction fuel using Nat.strongRecOn with
 | _ fuel ih =>
 intro cs x h
 obtain ⟨xs,n,rfl,rfl,hl,hlen,hf⟩:=DataW.trod_struct Tryz.underlying159 h
 have hl3:cs.length=3:=by rw [hl,k159]
 obtain ⟨c0,c1,c2,rfl⟩:=qip hl3
 obtain ⟨y0,y1,y2,rfl⟩:=qip (show xs.length=3 from hlen)
 clear hl hlen hl3
 have g0:DataW.trod enc Tryz.prog W 0 sp held n 3 (([c0,c1,c2].drop 0).take (Tryz.prog.cellsOf 3))=some y0:=hf 0 _ rfl
 rw [k3] at g0
 have g1:DataW.trod enc Tryz.prog W 0 sp held n 3 (([c0,c1,c2].drop 1).take (Tryz.prog.cellsOf 3))=some y1:=hf 1 _ rfl
 rw [k3] at g1
 have g2:DataW.trod enc Tryz.prog W 0 sp held n 59 (([c0,c1,c2].drop 2).take (Tryz.prog.cellsOf 59))=some y2:=hf 2 _ rfl
 rw [k59] at g2
 obtain ⟨n0,e0,_,w0⟩:=DataW.trod_int Tryz.underlying3 g0
 obtain ⟨n1,e1,_,w1⟩:=DataW.trod_int Tryz.underlying3 g1
 obtain ⟨l,v,e2,hr,hs⟩:=qhm (R:=RTm) (k:=3) (by decide) Tm.size Tryz.underlying59 k159 g2 (fun m hm cs y hy=>ih m (by omega) cs y hy)
 have f0:c0 = .int .i64 n0:=by injection e0
 have f1:c1 = .int .i64 n1:=by injection e1
 have f2:c2=v:=by injection e2
 subst f0 f1 f2
 refine ⟨rfl,.mk n0 n1 l,(qay ..).2 ⟨qhd w0,qhd w1,_,rfl,hr⟩,?_⟩
 rw [qnf] at hs
 rw [Tm.size]
 simp only [List.map_cons,List.map_nil,Rows.uptoBulk,Rows.uptoBulkAll]
 omega
theorem open_lb (fuel:Nat) (cs:List Value) (x:DataW H×List MemPlace) (h:DataW.trod enc Tryz.prog W 0 sp held fuel 61 cs=some x):cs.length=2∧∃ a:Lb,RLb (fun _=>True) W a cs∧a.size≤Rows.uptoBulk x.1:=by
 obtain ⟨xs,n,rfl,rfl,hl,hlen,hf⟩:=DataW.trod_struct Tryz.underlying61 h
 have hl3:cs.length=2:=by rw [hl,k61]
 obtain ⟨c0,c1,rfl⟩:=list2 hl3
 obtain ⟨y0,y1,rfl⟩:=list2 (show xs.length=2 from hlen)
 clear hl hlen hl3
 have g0:DataW.trod enc Tryz.prog W 0 sp held n 3 (([c0,c1].drop 0).take (Tryz.prog.cellsOf 3))=some y0:=hf 0 _ rfl
 rw [k3] at g0
 have g1:DataW.trod enc Tryz.prog W 0 sp held n 59 (([c0,c1].drop 1).take (Tryz.prog.cellsOf 59))=some y1:=hf 1 _ rfl
 rw [k59] at g1
 obtain ⟨n0,e0,_,w0⟩:=DataW.trod_int Tryz.underlying3 g0
 obtain ⟨l,v,e2,hr,hs⟩:=qhm (R:=RTm) (k:=3) (by decide) Tm.size Tryz.underlying59 k159 g1 (fun m _ cs y hy=>open_tm m cs y hy)
 have f0:c0 = .int .i64 n0:=by injection e0
 have f2:c1=v:=by injection e2
 subst f0 f2
 refine ⟨rfl,⟨n0,l⟩,⟨qhd w0,_,rfl,hr⟩,?_⟩
 rw [qnf] at hs
 simp only [List.map_cons,List.map_nil,Rows.uptoBulk,Rows.uptoBulkAll]
 show Tm.sizes l≤_
 omega
theorem open_ed (fuel:Nat) (cs:List Value) (x:DataW H×List MemPlace) (h:DataW.trod enc Tryz.prog W 0 sp held fuel 88 cs=some x):cs.length=3∧∃ a:Ed,REd (fun _=>True) W a cs∧1≤Rows.uptoBulk x.1:=by
 obtain ⟨xs,n,rfl,rfl,hl,hlen,hf⟩:=DataW.trod_struct Tryz.underlying88 h
 have hl3:cs.length=3:=by rw [hl,k88]
 obtain ⟨c0,c1,c2,rfl⟩:=qip hl3
 obtain ⟨y0,y1,y2,rfl⟩:=qip (show xs.length=3 from hlen)
 clear hl hlen hl3
 have g0:DataW.trod enc Tryz.prog W 0 sp held n 3 (([c0,c1,c2].drop 0).take (Tryz.prog.cellsOf 3))=some y0:=hf 0 _ rfl
 rw [k3] at g0
 have g1:DataW.trod enc Tryz.prog W 0 sp held n 3 (([c0,c1,c2].drop 1).take (Tryz.prog.cellsOf 3))=some y1:=hf 1 _ rfl
 rw [k3] at g1
 have g2:DataW.trod enc Tryz.prog W 0 sp held n 3 (([c0,c1,c2].drop 2).take (Tryz.prog.cellsOf 3))=some y2:=hf 2 _ rfl
 rw [k3] at g2
 obtain ⟨n0,e0,_,w0⟩:=DataW.trod_int Tryz.underlying3 g0
 obtain ⟨n1,e1,_,w1⟩:=DataW.trod_int Tryz.underlying3 g1
 obtain ⟨n2,e2,_,w2⟩:=DataW.trod_int Tryz.underlying3 g2
 have f0:c0 = .int .i64 n0:=by injection e0
 have f1:c1 = .int .i64 n1:=by injection e1
 have f2:c2 = .int .i64 n2:=by injection e2
 subst f0 f1 f2
 refine ⟨rfl,⟨n0,n1,n2⟩,⟨qhd w0,qhd w1,qhd w2,rfl⟩,?_⟩
 simp only [Rows.uptoBulk]
 omega
theorem qmr:∀ (l:List Nat) (n:Nat),n∈l→n≤l.sum
 | x :: l,n,h=>by
  rw [List.sum_cons]
  rcases List.mem_cons.1 h with rfl | h
  ·omega
  ·have:=qmr l n h;omega
theorem open_sy (fuel:Nat) (cs:List Value) (x:DataW H×List MemPlace) (h:DataW.trod enc Tryz.prog W 0 sp held fuel 25 cs=some x):cs.length=3∧∃ s:Sy,RSy (fun _=>True) W s cs∧(∀ a∈s.ls,a.size≤Rows.uptoBulk x.1):=by
 obtain ⟨xs,n,rfl,rfl,hl,hlen,hf⟩:=DataW.trod_struct Tryz.underlying25 h
 have hl3:cs.length=3:=by rw [hl,k25]
 obtain ⟨c0,c1,c2,rfl⟩:=qip hl3
 obtain ⟨y0,y1,y2,rfl⟩:=qip (show xs.length=3 from hlen)
 clear hl hlen hl3
 have g0:DataW.trod enc Tryz.prog W 0 sp held n 3 (([c0,c1,c2].drop 0).take (Tryz.prog.cellsOf 3))=some y0:=hf 0 _ rfl
 rw [k3] at g0
 have g1:DataW.trod enc Tryz.prog W 0 sp held n 22 (([c0,c1,c2].drop 1).take (Tryz.prog.cellsOf 22))=some y1:=hf 1 _ rfl
 rw [k22] at g1
 have g2:DataW.trod enc Tryz.prog W 0 sp held n 23 (([c0,c1,c2].drop 2).take (Tryz.prog.cellsOf 23))=some y2:=hf 2 _ rfl
 rw [k23] at g2
 obtain ⟨n0,e0,_,w0⟩:=DataW.trod_int Tryz.underlying3 g0
 obtain ⟨ls,v,e1,hr1,hs1⟩:=qhm (R:=RLb) (k:=2) (by decide) Lb.size Tryz.underlying22 k61 g1 (fun m _ cs y hy=>open_lb m cs y hy)
 obtain ⟨es,u,e2,hr2,hs2⟩:=qhm (R:=REd) (k:=3) (by decide) (fun _=>1) Tryz.underlying23 k88 g2 (fun m _ cs y hy=>open_ed m cs y hy)
 have f0:c0 = .int .i64 n0:=by injection e0
 have f1:c1=v:=by injection e1
 have f2:c2=u:=by injection e2
 subst f0 f1 f2
 refine ⟨rfl,⟨n0,ls,es⟩,⟨qhd w0,_,_,rfl,hr1,hr2⟩,fun a ha=>?_⟩
 have h9:a.size≤(ls.map Lb.size).sum:=qmr _ _ (List.mem_map_of_mem (f:=Lb.size) (show a∈ls from ha))
 simp only [List.map_cons,List.map_nil,Rows.uptoBulk,Rows.uptoBulkAll]
 omega
end
end
section
open Go.ChangeShapes Go.WideShapes Go.ChangeAt
theorem own:ownKnob Tryz.prog.godebug=none:=by kernel_rfl
theorem laid:laidOutB Tryz.prog=true:=by kernel_rfl
theorem stays {t:TypeId} (hrec:Tryz.prog.readableRec t=true) (hrow:t<Tryz.prog.types.size) {H:Type} {enc:TypeId×Value→H} {W W':World} {v:Value} {d:DataW H} {ps:List MemPlace} (h:DataW.Trod enc Tryz.prog W 0 (fun _=>true) true t v d ps) (hx:Ext W W') (hlt:∀ p∈ps,p.block<W.heap.size) (sp:Nat→Bool) (hs:∀ p∈ps,sp p.block=true):DataW.Trod enc Tryz.prog W' 0 sp true t v d ps:=by
 obtain ⟨n,hn⟩:=h
 exact ⟨n,DataW.trod_stays (kids_book laid hrec) (book_sized hrec) (fun h=>by cases h) ⟨hrow,book_self t⟩ hn (fun p hp=>Below.same hx (hlt p hp)) hs⟩
theorem post_ext {H:Type} {enc:TypeId×Value→H} {P:Program} {f:Func} {s:ChangeSpec} {apart fresh handsOn again:Bool} {W W':World} {args:Array Value} {v:Value} {ds gs:List (DataW H)} {before pa pv:List MemPlace}
  (hW:DataW.Whole enc P f.params.toList s.vars apart W args.toList ds gs before) (hX:Ext W W')
  (hres:∀ (b:Nat) (sp:Nat→Bool) (hd:Bool),DataW.TrodAll enc P W' b sp hd f.resultTypes.toList (v.resultList f.resultTypes.size) (s.fn H (ds++gs)).results [])
  (hargs:∀ sp:Nat→Bool,(∀ p∈before,sp p.block=true)→DataW.TrodAll enc P W' 0 sp true f.params.toList args.toList (s.fn H (ds++gs)).args pa)
  (hvars:∀ sp:Nat→Bool,(∀ p∈before,sp p.block=true)→DataW.TrodVars enc P W' sp s.vars (s.fn H (ds++gs)).vars pv) (hps:before=pa++pv)
  (hok:∀ (j:Nat) (t:TypeId) (r:Value),f.resultTypes[j]? = some t→(v.resultList f.resultTypes.size)[j]? = some r→Value.okWide P W' .any 0 t r):s.post enc P f apart fresh handsOn again W args v W':=by
 have hlt:=hW.lt
 have hold:∀ p∈before,(fun b=>decide (b<W.heap.size)) p.block=true:=fun p hp=>decide_eq_true (hlt p hp)
 refine ⟨ds,gs,before,[],pa,pv,hW,hres _ _ _,hargs _ hold,hvars _ hold,Below.frame hX _,fun _=>⟨hok,_,_,([]++pa)++pv,⟨[]++pa,pv,trodAll_append (hargs _ fun _ _=>rfl) (hres _ _ _),hvars _ fun _ _=>rfl,rfl,fun b off hp=>?_,fun ha=>?_⟩,fun p hp _=>?_⟩⟩
 ·have hb:MemPlace.cell b off∈before:=by rw [hps];simpa using hp
  obtain ⟨_,_,_,_,_,hz,_⟩:=hW
  exact (Below.frozen hX (p:=⟨b,off,none⟩) (hlt _ hb)).trans (hz b off hb)
 ·obtain ⟨_,_,_,_,_,_,hn⟩:=hW
  have:=hn ha
  rw [hps] at this
  simpa using this
 ·rw [hps]
  simpa using hp
section
variable {H:Type} {enc:TypeId×Value→H} {W:World} {sp:Nat→Bool} {held:Bool}
theorem open_lb1 (fuel:Nat) (cs:List Value) (x:DataW H×List MemPlace) (h:DataW.trod enc Tryz.prog W 0 sp held fuel 61 cs=some x):cs.length=2∧∃ a:Lb,RLb (fun _=>True) W a cs∧1≤Rows.uptoBulk x.1:=by
 obtain ⟨h1,a,h2,_⟩:=open_lb fuel cs x h
 obtain ⟨xs,n,rfl,rfl,hl,hlen,hf⟩:=DataW.trod_struct Tryz.underlying61 h
 refine ⟨h1,a,h2,?_⟩
 simp only [Rows.uptoBulk]
 omega
theorem qll (fuel:Nat) (cs:List Value) (x:DataW H×List MemPlace) (h:DataW.trod enc Tryz.prog W 0 sp held fuel 22 cs=some x):cs.length=1∧∃ l:List Lb,qaa (fun _=>True) W l cs∧l.length≤Rows.uptoBulk x.1:=by
 obtain ⟨l,v,rfl,hr,hs⟩:=qhm (R:=RLb) (k:=2) (by decide) (fun _=>1) Tryz.underlying22 k61 h (fun m _ cs y hy=>open_lb1 m cs y hy)
 refine ⟨rfl,l,hr,?_⟩
 have e:∀ l:List Lb,(l.map fun _=>1).sum=l.length:=by
  intro l
  induction l with
  | nil=>rfl
  | cons x l ih=>rw [List.map_cons,List.sum_cons,ih,List.length_cons,Nat.add_comm]
 rw [e] at hs
 exact hs
end
end
end Go.Proofs.YtegenalcheooeaaGreat
