/- Of the proof of a law of the suites: LPdqA. -/
import Derived.Test.YtegenalcheooeaaGreatB18
import Derived.Test.YtegenalcheooeaaGreatB20
import Derived.Test.YtegenalcheooeaaGreatLaid
import Derived.Shelf.Small.Bits
import Derived.Ground.Names2Prog
set_option linter.unusedSectionVars false
set_option linter.unusedSimpArgs false
set_option linter.unusedVariables false
namespace Go.Proofs.YtegenalcheooeaaGreat
open Go.RowKit
attribute [local go_sem] cell?_exto
section
set_option maxHeartbeats 1000000
set_option maxRecDepth 100000
/- sort.Slice at whole numbers: the choice of a pivot,and the look at whether all is in order: walked. -/
open Go.Shelf Go.Sort Go.Lib
theorem Bt.side {Z:Nat->Prop} {a b c:World} {gs:Nat} (h:Bt Z a b) (k:Bt (fun q=>q=gs) b c) (hg:a.heap.size<=gs):Bt Z a c :=
 ⟨k.os.trans h.os,k.tape.trans h.tape,k.output.trans h.output,Nat.le_trans h.size k.size,fun q hq hz=>(k.block q (Nat.lt_of_lt_of_le hq h.size) (by omega)).trans (h.block q hq hz)⟩
theorem qbk.side {base:Nat} {W W':World} {d:Array Int} {g n c gs:Nat} (h:qbk base W d g n c) (k:Bt (fun q=>q=gs) W W') (hg:g≠gs):qbk base W' d g n c :=
 qab.bt h qac.good k fun q _ hq=>⟨id,fun e=>hg ((show g=q by simpa [Value.ownBlock] using e).trans hq)⟩
abbrev qhn (lf:Nat) (lb:Array Value) (sf:Nat) (sb:Array Value):Value:=.agg #[.func (.func lf) #[] lb,.func (.func sf) #[] sb]
def OrdP (i j gs:Nat) (k:Int) (w:World) (e:Ending) (w':World):Prop:=∃ (x y:Nat) (k':Int),e = .returned (.tuple #[.int .i64 (x:Int),.int .i64 (y:Int)])∧((x=i∧y=j)∨(x=j∧y=i))∧k<=k'∧k'<=k+1∧qae w' gs 3 [.int .i64 k']∧Bt (fun q=>q=gs) w w'
theorem order2_c (lf:Nat) (lb:Array Value) (sf:Nat) (sb:Array Value) (lt:Int->Int->Bool) (p:Int->Prop) (base g n c i j gs:Nat) (k:Int) (d:Array Int) (W0 w:World) (el:∀ args w,(callFunc lf args).run Tryz.prog w = .ok (.enter lf args) w)
  (hless:qdt lf lb lt p base g n c W0) (hW:Bt (fun q=>q=g) W0 w) (hrow:qbk base w d g n c) (hd:d.size=n) (hp:∀ x∈d.toList,p x) (hn:n<=1000) (hi:i<n) (hj:j<n) (hbx:qae w gs 3 [.int .i64 k]) (hk:0<=k∧k<=100) :
  Calls Tryz.prog 327 #[qhn lf lb sf sb,.int .i64 i,.int .i64 j,.pointer (some ⟨gs,0,none⟩)] w (OrdP i j gs k w):=by
 have hX:Ext w (w.alloc (.cells #[.func (.func lf) #[] lb,.func (.func sf) #[] sb] 299)):=(Ext.refl w).alloc _
 have hl:=hless _ d (hW.ext hX) (hrow.ext qac.good hX) hd hp j i hj hi
 have HBX:=Hd hbx
 have HX:=Hd hX
 clear hless hW hrow hp hX hbx
 cases hlv:lt d[j]! d[i]! with
 | false =>
  rw [hlv] at hl
  clear hlv
  go_enter Tryz.func327,Tryz.ntmps327
  go_wp2_with (go_at_fn lf;refine hl.mono ?_;rintro e w' ⟨rfl,hx⟩)
  have hE:Ext w w':=HX.out.trans' hx
  go_ret2
  exact ⟨i,j,k,rfl,.inl ⟨rfl,rfl⟩,by omega,by omega,HBX.out.ext hE,hE.bt⟩
 | true =>
  rw [hlv] at hl
  clear hlv
  go_enter Tryz.func327,Tryz.ntmps327
  go_wp2_with (go_at_fn lf;refine hl.mono ?_;rintro e w' ⟨rfl,hx⟩;have hb:=HBX.out.ext (HX.out.trans' hx);have x0:=hb.cell 0 _;have xz:=hb.lt;have xf:=hb.frozen 0;have HB:=Hd hb;clear hb)
  have hE:Ext w w':=HX.out.trans' hx
  go_ret2
  exact ⟨j,i,k+1,rfl,.inr ⟨rfl,rfl⟩,by omega,by omega,HB.out.set 0 _,Bt.set (Z:=fun q=>q=gs) (p:=⟨gs,0,none⟩) hE.bt (.inr rfl) _⟩
def MedP (i j l gs:Nat) (k:Int) (w:World) (e:Ending) (w':World):Prop:=∃ (x:Nat) (k':Int),e = .returned (.int .i64 (x:Int))∧(x=i∨x=j∨x=l)∧k<=k'∧k'<=k+3∧qae w' gs 3 [.int .i64 k']∧Bt (fun q=>q=gs) w w'
theorem median_c (lf:Nat) (lb:Array Value) (sf:Nat) (sb:Array Value) (lt:Int->Int->Bool) (p:Int->Prop) (base g n c i j l gs:Nat) (k:Int) (d:Array Int) (W0 w:World) (el:∀ args w,(callFunc lf args).run Tryz.prog w = .ok (.enter lf args) w)
  (hless:qdt lf lb lt p base g n c W0) (hW:Bt (fun q=>q=g) W0 w) (hrow:qbk base w d g n c) (hd:d.size=n) (hp:∀ x∈d.toList,p x) (hn:n<=1000) (hi:i<n) (hj:j<n) (hl:l<n) (hbx:qae w gs 3 [.int .i64 k]) (hk:0<=k∧k<=90) (hgs:g≠gs) (hgs0:W0.heap.size<=gs) :
  Calls Tryz.prog 321 #[qhn lf lb sf sb,.int .i64 i,.int .i64 j,.int .i64 l,.pointer (some ⟨gs,0,none⟩)] w (MedP i j l gs k w):=by
 have ho:=fun W (hW:Bt (fun q=>q=g) W0 W) hrow x y hx hy kk hbx hk=>order2_c lf lb sf sb lt p base g n c x y gs kk d W0 W el hless hW hrow hd hp hn hx hy hbx hk
 have hX:Ext w (w.alloc (.cells #[.func (.func lf) #[] lb,.func (.func sf) #[] sb] 299)):=(Ext.refl w).alloc _
 have hB:qae (w.alloc (.cells #[.func (.func lf) #[] lb,.func (.func sf) #[] sb] 299)) w.heap.size 299 [.func (.func lf) #[] lb,.func (.func sf) #[] sb]:=qae.new _ _ _
 have hgz:=hbx.lt
 have hne:¬ w.heap.size=gs:=by omega
 have ho1:=ho _ (hW.ext hX) (hrow.ext qac.good hX) i j hi hj k (hbx.ext hX) (by omega)
 have HW:=Hd (hW.ext hX)
 have HR:=Hd (hrow.ext qac.good hX)
 have HO:=Hd ho
 have HX:=Hd hX
 have HB:=Hd hB
 clear hless hW hrow hp hX hbx ho hB
 go_enter Tryz.func321,Tryz.ntmps321
 go_wp2_with fail
 refine ho1.mono ?_
 rintro e w1 ⟨x,y,k1,rfl,hxy,hk1,hk1',hb1,ht1⟩
 have hx:x<n:=by omega
 have hy:y<n:=by omega
 have HB1:=Hd (HB.out.bt ht1 hne)
 have b0:=HB1.out.cell 0 _
 have b1:=HB1.out.cell 1 _
 have bz:=HB1.out.lt
 have HW1:=Hd (HW.out.side ht1 hgs0)
 have HR1:=Hd (qbk.side HR.out ht1 hgs)
 have ho2:=HO.out _ HW1.out HR1.out y l hy hl k1 hb1 (by omega)
 have HT1:=Hd ht1
 clear ht1 hb1 ho1
 go_wp2_with fail
 refine ho2.mono ?_
 rintro e w2 ⟨y2,z2,k2,rfl,hyz,hk2,hk2',hb2,ht2⟩
 have hy2:y2<n:=by omega
 clear b0 b1 bz
 have HB2:=Hd (HB1.out.bt ht2 hne)
 have b0:=HB2.out.cell 0 _
 have b1:=HB2.out.cell 1 _
 have bz:=HB2.out.lt
 have HW2:=Hd (HW1.out.side ht2 hgs0)
 have HR2:=Hd (qbk.side HR1.out ht2 hgs)
 have ho3:=HO.out _ HW2.out HR2.out x y2 hx hy2 k2 hb2 (by omega)
 have HT2:=Hd (HT1.out.trans ht2)
 clear ht2 hb2 ho2
 go_wp2_with fail
 refine ho3.mono ?_
 rintro e w3 ⟨x3,y3,k3,rfl,hxy3,hk3,hk3',hb3,ht3⟩
 go_wp2_with fail
 go_ret
 exact ⟨y3,k3,rfl,by omega,by omega,by omega,hb3,(Ext.bt (Z:=fun q=>q=gs) HX.out).trans (HT2.out.trans ht3)⟩
end
end Go.Proofs.YtegenalcheooeaaGreat
