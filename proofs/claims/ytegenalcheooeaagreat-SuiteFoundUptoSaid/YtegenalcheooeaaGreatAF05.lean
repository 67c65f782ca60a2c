/- Of the proof of a law of the suites: LPdqC, LPdqP, LPdqB, LPdqD, LPdqE, LSlice3, LCompF, LSort16. -/
import Derived.Test.YtegenalcheooeaaGreatAF02
import Derived.Test.YtegenalcheooeaaGreatAF04
import Derived.Test.YtegenalcheooeaaGreatB20
import Derived.Test.YtegenalcheooeaaGreatB21
import Derived.Test.YtegenalcheooeaaGreatLaid
import Derived.Deep.CutBlock
import Derived.Sort.AssemblyPlain
import Derived.Shelf.SlSortFunc.Xorshift
import Derived.Laws.Bits64b
import Derived.Ground.Names2Prog
import Derived.Laws.StructEq
set_option linter.unusedSectionVars false
set_option linter.unusedSimpArgs false
set_option linter.unusedVariables false
namespace Go.Proofs.YtegenalcheooeaaGreat
open Go.RowKit
attribute [local go_sem] cell?_exto
section
open Go.Shelf Go.Sort Go.Lib
structure Prt (lt:Int->Int->Bool) (a b:Nat) (d:Array Int) (i j:Nat) (dk:Array Int):Prop where
 ai:a<i
 ij:i<=j+1
 jb:j<b
 bs:b<=d.size
 perm:PermIn a b d dk
 lo:∀ k,a<k->k<i->lt dk[k]! dk[a]! = true
 hi:∀ k,j<k->k<b->lt dk[k]! dk[a]! = false
variable {lt:Int->Int->Bool} {a b:Nat} {d:Array Int} {i j:Nat} {dk:Array Int}
theorem Prt.size (h:Prt lt a b d i j dk):dk.size=d.size:=h.perm.1
theorem Prt.up (h:Prt lt a b d i j dk) (hij:i<=j) (hl:lt dk[i]! dk[a]! = true):Prt lt a b d (i+1) j dk :=
 ⟨by have:=h.ai;omega,by omega,h.jb,h.bs,h.perm,fun k h1 h2=>by
  by_cases hk:k=i
  ·rw [hk];exact hl
  ·exact h.lo k h1 (by omega),h.hi⟩
theorem Prt.down (h:Prt lt a b d i j dk) (hij:i<=j) (hl:lt dk[j]! dk[a]! = false):Prt lt a b d i (j-1) dk :=
 ⟨h.ai,by omega,by have:=h.jb;omega,h.bs,h.perm,h.lo,fun k h1 h2=>by
  by_cases hk:k=j
  ·rw [hk];exact hl
  ·exact h.hi k (by omega) h2⟩
theorem Prt.start (ha:a<=i) (hi:i<b) (hb:b<=d.size):Prt lt a b d (a+1) (b-1) (swp d a i) :=
 ⟨by omega,by omega,by omega,hb,swp_permIn d a b a i (Nat.le_refl _) (by omega) ha hi hb,fun k h1 h2=>by omega,fun k h1 h2=>by omega⟩
theorem Prt.swap (h:Prt lt a b d i j dk) (hij:i<=j) (h1:lt dk[i]! dk[a]! = false) (h2:lt dk[j]! dk[a]! = true):i<j∧Prt lt a b d (i+1) (j-1) (swp dk i j):=by
 have hne:i≠j:=fun e=>by rw [e,h2] at h1;cases h1
 have hs:=h.size
 have hb:=h.bs
 have hj:=h.jb
 have ha:=h.ai
 have g:=swp_get dk (i:=i) (j:=j) (by omega) (by omega)
 have g0:(swp dk i j)[a]! = dk[a]! := by rw [g,if_neg (by omega),if_neg (by omega)]
 refine ⟨by omega,by omega,by omega,by omega,hb,permIn_trans _ _ _ a b h.perm (swp_permIn dk a b i j (by omega) (by omega) (by omega) (by omega) (by omega)),fun k k1 k2=>?_,fun k k1 k2=>?_⟩
 ·rw [g0,g]
  by_cases e:k=i
  ·rw [if_neg (by omega),if_pos e];exact h2
  ·rw [if_neg (by omega),if_neg e];exact h.lo k k1 (by omega)
 ·rw [g0,g]
  by_cases e:k=j
  ·rw [if_pos e];exact h1
  ·rw [if_neg e,if_neg (by omega)];exact h.hi k (by omega) k2
structure Prtd (lt:Int->Int->Bool) (a b:Nat) (d:Array Int) (m:Nat) (d':Array Int):Prop where
 am:a<=m
 mb:m<b
 perm:PermIn a b d d'
 lo:∀ k,a<=k->k<m->lt d'[k]! d'[m]! = true
 hi:∀ k,m<k->k<b->lt d'[k]! d'[m]! = false
theorem Prt.done (h:Prt lt a b d i j dk) (hij:j<i):Prtd lt a b d j (swp dk j a):=by
 have hs:=h.size
 have hb:=h.bs
 have hj:=h.jb
 have ha:=h.ai
 have hi:=h.ij
 have g:=swp_get dk (i:=j) (j:=a) (by omega) (by omega)
 have gm:(swp dk j a)[j]! = dk[a]! := by
  rw [g]
  by_cases e:j=a
  ·rw [if_pos e,e]
  ·rw [if_neg e,if_pos rfl]
 refine ⟨by omega,by omega,permIn_trans _ _ _ a b h.perm (swp_permIn dk a b j a (by omega) (by omega) (by omega) (by omega) (by omega)),fun k k1 k2=>?_,fun k k1 k2=>?_⟩
 ·rw [gm,g]
  by_cases e:k=a
  ·rw [if_pos e];exact h.lo j (by omega) (by omega)
  ·rw [if_neg e,if_neg (by omega)];exact h.lo k (by omega) (by omega)
 ·rw [gm,g,if_neg (by omega),if_neg (by omega)]
  exact h.hi k (by omega) k2
structure StR (base g n c:Nat) (p:Int->Prop) (W1:World) (dk:Array Int) (W:World):Prop where
 row:qbn base W dk g n c
 size:dk.size=n
 all:∀ x∈dk.toList,p x
 bt:Bt (fun q=>q=g) W1 W
theorem StR.ext {base g n c:Nat} {p:Int->Prop} {W1 W W':World} {dk:Array Int} (h:StR base g n c p W1 dk W) (hx:Ext W W'):StR base g n c p W1 dk W':=⟨h.row.ext qac.good hx,h.size,h.all,h.bt.ext hx⟩
theorem StR.less {lf:Nat} {lb:Array Value} {lt:Int->Int->Bool} {base g n c:Nat} {p:Int->Prop} {W1 W:World} {dk:Array Int} (h:StR base g n c p W1 dk W) (hl:qd6 lf lb lt p base g n c W1) (i j:Nat) (hi:i<n) (hj:j<n) :
  Calls Tryz.prog lf (#[.int .i64 i,.int .i64 j]++lb) W fun e w'=>e = .returned (.bool (lt dk[i]! dk[j]!))∧Ext W w':=hl W dk h.bt h.row h.size h.all i j hi hj
theorem StR.swap {sf:Nat} {sb:Array Value} {base g n c:Nat} {p:Int->Prop} {W1 W:World} {dk:Array Int} (h:StR base g n c p W1 dk W) (hs:qgl sf sb base g n c) (i j:Nat) (hi:i<n) (hj:j<n) (h2:2<=n) :
  ∃ W',(callFunc sf (#[.int .i64 i,.int .i64 j]++sb)).run Tryz.prog W = .ok (.value (.tuple #[])) W'∧StR base g n c p W1 (swp dk i j) W':=by
 have h1:=qbn.swap h.row h.size hi hj
 exact ⟨_,hs W dk h.row h.size i j hi hj h2,h1.1,by rw [<- h.size];simp [swp],qoe h.all (by have:=h.size;omega) (by have:=h.size;omega),h.bt.trans h1.2⟩
def PartP (lt:Int->Int->Bool) (base g n c:Nat) (p:Int->Prop) (a b:Nat) (d:Array Int) (w:World) (e:Ending) (w':World):Prop:=∃ (m:Nat) (fl:Bool) (d':Array Int),e = .returned (.tuple #[.int .i64 (m:Int),.bool fl])∧Prtd lt a b d m d'∧StR base g n c p w d' w'
set_option maxHeartbeats 2000000 in
set_option maxRecDepth 100000 in
theorem qub (lf:Nat) (lb:Array Value) (sf:Nat) (sb:Array Value) (lt:Int->Int->Bool) (p:Int->Prop) (base g n c a b piv:Nat) (d:Array Int) (w:World) (el:∀ args w,(callFunc lf args).run Tryz.prog w = .ok (.enter lf args) w)
  (hless:qd6 lf lb lt p base g n c w) (hswap:qgl sf sb base g n c) (hrow:qbn base w d g n c) (hd:d.size=n) (hp:∀ x∈d.toList,p x) (hn:n<=1000) (ha:a<=piv) (hpb:piv<b) (hbn:b<=n) (h2:2<=n) (hg:g<w.heap.size) :
  Calls Tryz.prog 305 #[qin lf lb sf sb,.int .i64 a,.int .i64 b,.int .i64 piv] w (PartP lt base g n c p a b d w):=by
 obtain ⟨W1,hW1⟩:∃ W1,w.alloc (.cells #[.func (.func lf) #[] lb,.func (.func sf) #[] sb] 299)=W1:=⟨_,rfl⟩
 have hX1:Ext w W1:=by rw [<- hW1];exact (Ext.refl w).alloc _
 have hB:qaf W1 w.heap.size 299 [.func (.func lf) #[] lb,.func (.func sf) #[] sb]:=by rw [<- hW1];exact qaf.new w _ _
 have b0:=hB.cell 0 _
 have b1:=hB.cell 1 _
 have bz:=hB.lt
 have hl1:=hless.on hX1.bt
 have hgw:¬ (w.heap.size=g):=by omega
 have hst:StR base g n c p W1 d W1:=⟨hrow.ext qac.good hX1,hd,hp,Bt.refl _ _⟩
 obtain ⟨W2,hs2,hst2⟩:=hst.swap hswap a piv (by omega) (by omega) h2
 have hpr:Prt lt a b d (a+1) (b-1) (swp d a piv):=Prt.start ha hpb (by omega)
 obtain ⟨d1,hd1⟩:∃ d1,swp d a piv=d1:=⟨_,rfl⟩
 rw [hd1] at hst2 hpr
 obtain ⟨j0,hj0⟩:∃ j0,b-1=j0:=⟨_,rfl⟩
 have yb:((b:Int)-1)=(j0:Int):=by omega
 rw [hj0] at hpr
 have HPR:=Hd hpr
 have HST:=Hd hst2
 have HS2:=Hd hs2
 have HB:=Hd hB
 have HX:Hid (Bt (fun q=>q=g) w W1):=hX1.bt
 clear hless hrow hp hX1 hst hst2 hpr hs2 hd1 hB hj0
 go_enter Tryz.func305,Tryz.ntmps305
 go_wp2_with fail
 rw [HS2.out,Oper.upon_value]
 clear b0 b1 bz hW1
 go_upto_block 0 with (fail)
 go_cut [10] (fun v10 wx=>∃ i:Nat,v10 = .int .i64 (i:Int)∧0<=i∧Hid (Prt lt a b d i j0 d1)∧Hid (j0<i∨lt d1[i]! d1[a]! = false)∧Hid (StR base g n c p W1 d1 wx))
 case first =>
  go_wp2_with fail
  go_loopw [10] (fun vi wr=>∃ i:Nat,vi = .int .i64 (i:Int)∧0<=i∧Hid (Prt lt a b d i j0 d1)∧Hid (StR base g n c p W1 d1 wr)) (fun vi _=>b-(intOf vi).toNat)
  case atStart=>exact ⟨a+1,by go_num,Nat.zero_le _,HPR.out,HST.out⟩
  case round =>
   obtain ⟨i,rfl,hlo,hP,hS⟩:=hrel
   have hbx:=HB.out.bt hS.out.bt hgw
   have c0:=hbx.cell 0 _
   have c1:=hbx.cell 1 _
   have cz:=hbx.lt
   clear hbx
   have k1:=hP.out.ai
   have k2:=hP.out.jb
   have k3:=hP.out.ij
   by_cases hij:i<=j0
   ·have hl:=hS.out.less hl1 i a (by omega) (by omega)
    cases hlv:lt d1[i]! d1[a]! with
    | true =>
     rw [hlv] at hl
     have HN:=Hd (hP.out.up hij hlv)
     clear hlv hP
     go_wp2_with (go_at_fn lf;refine hl.mono ?_;rintro e w' ⟨rfl,hx⟩)
     go_roundw
     case rel=>exact ⟨i+1,by go_num,by omega,HN.out,hS.out.ext hx⟩
     case measure=>simp [intOf];omega
    | false =>
     rw [hlv] at hl
     have HV:=Hd hlv
     clear hlv
     go_wp2_with (go_at_fn lf;refine hl.mono ?_;rintro e w' ⟨rfl,hx⟩)
     go_meet
     exact ⟨i,rfl,hlo,hP,.inr HV.out,hS.out.ext hx⟩
   ·go_wp2_with fail
    go_meet
    exact ⟨i,rfl,hlo,hP,.inl (by omega),hS⟩
 case rest =>
 obtain ⟨i,rfl,hlo,hP,hi,hS⟩:=hcut
 go_upto_block 2 with (fail)
 go_cut [11] (fun v11 wx=>∃ j:Nat,v11 = .int .i64 (j:Int)∧j<=j0∧Hid (Prt lt a b d i j d1)∧Hid (j<i∨lt d1[j]! d1[a]! = true)∧Hid (StR base g n c p W1 d1 wx))
 case first =>
  go_wp2_with fail
  go_loopw [11] (fun vi wr=>∃ j:Nat,vi = .int .i64 (j:Int)∧j<=j0∧Hid (Prt lt a b d i j d1)∧Hid (StR base g n c p W1 d1 wr)) (fun vi _=>(intOf vi).toNat)
  case atStart=>exact ⟨j0,rfl,Nat.le_refl _,hP,hS⟩
  case round =>
   obtain ⟨j,rfl,hhi,hP,hS⟩:=hrel
   have hbx:=HB.out.bt hS.out.bt hgw
   have c0:=hbx.cell 0 _
   have c1:=hbx.cell 1 _
   have cz:=hbx.lt
   clear hbx
   have k1:=hP.out.ai
   have k2:=hP.out.jb
   have k3:=hP.out.ij
   by_cases hij:i<=j
   ·have hl:=hS.out.less hl1 j a (by omega) (by omega)
    cases hlv:lt d1[j]! d1[a]! with
    | false =>
     rw [hlv] at hl
     have HN:=Hd (hP.out.down hij hlv)
     clear hlv hP
     go_wp2_with (go_at_fn lf;refine hl.mono ?_;rintro e w' ⟨rfl,hx⟩)
     go_roundw
     case rel=>exact ⟨j-1,by go_num,by omega,HN.out,hS.out.ext hx⟩
     case measure=>simp [intOf];omega
    | true =>
     rw [hlv] at hl
     have HV:=Hd hlv
     clear hlv
     go_wp2_with (go_at_fn lf;refine hl.mono ?_;rintro e w' ⟨rfl,hx⟩)
     go_meet
     exact ⟨j,rfl,hhi,hP,.inr HV.out,hS.out.ext hx⟩
   ·go_wp2_with fail
    go_meet
    exact ⟨j,rfl,hhi,hP,.inl (by omega),hS⟩
 case rest =>
 clear hP hS
 obtain ⟨j,rfl,hhi,hP,hj,hS⟩:=hcut
 have k1:=hP.out.ai
 have k2:=hP.out.jb
 have k3:=hP.out.ij
 have hbx:=HB.out.bt hS.out.bt hgw
 have c0:=hbx.cell 0 _
 have c1:=hbx.cell 1 _
 have cz:=hbx.lt
 clear hbx
 by_cases hij:j<i
 ·obtain ⟨W3,hs3,hst3⟩:=hS.out.swap hswap j a (by omega) (by omega) h2
  have HS3:=Hd hs3
  have HST3:=Hd hst3
  have HD:=Hd (hP.out.done hij)
  clear hs3 hst3 hi hj
  go_wp2_with fail
  rw [HS3.out,Oper.upon_value]
  go_wp2_with fail
  go_ret2
  exact ⟨j,true,_,rfl,HD.out,HST3.out.row,HST3.out.size,HST3.out.all,HX.out.trans HST3.out.bt⟩
 ·have hi':=hi.out.resolve_left (by omega)
  have hj':=hj.out.resolve_left hij
  obtain ⟨hlt,hP2⟩:=hP.out.swap (by omega) hi' hj'
  obtain ⟨W3,hs3,hst3⟩:=hS.out.swap hswap i j (by omega) (by omega) h2
  have HS3:=Hd hs3
  have HST3:=Hd hst3
  have HP3:=Hd hP2
  obtain ⟨d2,hd2⟩:∃ d2,swp d1 i j=d2:=⟨_,rfl⟩
  rw [hd2] at HST3 HP3
  clear hs3 hst3 hi hj hi' hj' hP2 hd2 hS hP
  go_wp2_with fail
  rw [HS3.out,Oper.upon_value]
  clear c0 c1 cz
  go_upto_block 4 with (fail)
  go_cut [10,11] (fun v10 v11 wx=>∃ (i j:Nat) (dk:Array Int),v10 = .int .i64 (i:Int)∧v11 = .int .i64 (j:Int)∧j<i∧Hid (Prt lt a b d i j dk)∧Hid (StR base g n c p W1 dk wx))
  case first =>
   go_wp2_with fail
   go_loopw [10,11] (fun v10 v11 wr=>∃ (i j:Nat) (dk:Array Int),v10 = .int .i64 (i:Int)∧v11 = .int .i64 (j:Int)∧Hid (Prt lt a b d i j dk)∧Hid (StR base g n c p W1 dk wr)) (fun vi vj _=>(intOf vj).toNat+1-(intOf vi).toNat)
   case atStart=>exact ⟨i+1,j-1,d2,by go_num,by go_num,HP3.out,HST3.out⟩
   case round =>
    clear HST3 HP3 k1 k2 k3 hij hlt
    obtain ⟨i0,j0,dk,rfl,rfl,hP,hS⟩:=hrel
    have q1:=hP.out.ai
    have q2:=hP.out.jb
    have q3:=hP.out.ij
    go_upto_block 6 with (fail)
    go_cut [10] (fun v10 wx=>∃ i:Nat,v10 = .int .i64 (i:Int)∧i0<=i∧Hid (Prt lt a b d i j0 dk)∧Hid (j0<i∨lt dk[i]! dk[a]! = false)∧Hid (StR base g n c p W1 dk wx))
    case first =>
     go_wp2_with fail
     go_loopw [10] (fun vi wr=>∃ i:Nat,vi = .int .i64 (i:Int)∧i0<=i∧Hid (Prt lt a b d i j0 dk)∧Hid (StR base g n c p W1 dk wr)) (fun vi _=>b-(intOf vi).toNat)
     case atStart=>exact ⟨i0,rfl,Nat.le_refl _,hP,hS⟩
     case round =>
      obtain ⟨i,rfl,hlo,hP,hS⟩:=hrel
      have hbx:=HB.out.bt hS.out.bt hgw
      have c0:=hbx.cell 0 _
      have c1:=hbx.cell 1 _
      have cz:=hbx.lt
      clear hbx
      have k1:=hP.out.ai
      have k2:=hP.out.jb
      have k3:=hP.out.ij
      by_cases hij:i<=j0
      ·have hl:=hS.out.less hl1 i a (by omega) (by omega)
       cases hlv:lt dk[i]! dk[a]! with
       | true =>
        rw [hlv] at hl
        have HN:=Hd (hP.out.up hij hlv)
        clear hlv hP
        go_wp2_with (go_at_fn lf;refine hl.mono ?_;rintro e w' ⟨rfl,hx⟩)
        go_roundw
        case rel=>exact ⟨i+1,by go_num,by omega,HN.out,hS.out.ext hx⟩
        case measure=>simp [intOf];omega
       | false =>
        rw [hlv] at hl
        have HV:=Hd hlv
        clear hlv
        go_wp2_with (go_at_fn lf;refine hl.mono ?_;rintro e w' ⟨rfl,hx⟩)
        go_meet
        exact ⟨i,rfl,hlo,hP,.inr HV.out,hS.out.ext hx⟩
      ·go_wp2_with fail
       go_meet
       exact ⟨i,rfl,hlo,hP,.inl (by omega),hS⟩
    case rest =>
    clear hP hS
    obtain ⟨i,rfl,hlo,hP,hi,hS⟩:=hcut
    go_upto_block 8 with (fail)
    go_cut [11] (fun v11 wx=>∃ j:Nat,v11 = .int .i64 (j:Int)∧j<=j0∧Hid (Prt lt a b d i j dk)∧Hid (j<i∨lt dk[j]! dk[a]! = true)∧Hid (StR base g n c p W1 dk wx))
    case first =>
     go_wp2_with fail
     go_loopw [11] (fun vi wr=>∃ j:Nat,vi = .int .i64 (j:Int)∧j<=j0∧Hid (Prt lt a b d i j dk)∧Hid (StR base g n c p W1 dk wr)) (fun vi _=>(intOf vi).toNat)
     case atStart=>exact ⟨j0,rfl,Nat.le_refl _,hP,hS⟩
     case round =>
      obtain ⟨j,rfl,hhi,hP,hS⟩:=hrel
      have hbx:=HB.out.bt hS.out.bt hgw
      have c0:=hbx.cell 0 _
      have c1:=hbx.cell 1 _
      have cz:=hbx.lt
      clear hbx
      have k1:=hP.out.ai
      have k2:=hP.out.jb
      have k3:=hP.out.ij
      by_cases hij:i<=j
      ·have hl:=hS.out.less hl1 j a (by omega) (by omega)
       cases hlv:lt dk[j]! dk[a]! with
       | false =>
        rw [hlv] at hl
        have HN:=Hd (hP.out.down hij hlv)
        clear hlv hP
        go_wp2_with (go_at_fn lf;refine hl.mono ?_;rintro e w' ⟨rfl,hx⟩)
        go_roundw
        case rel=>exact ⟨j-1,by go_num,by omega,HN.out,hS.out.ext hx⟩
        case measure=>simp [intOf];omega
       | true =>
        rw [hlv] at hl
        have HV:=Hd hlv
        clear hlv
        go_wp2_with (go_at_fn lf;refine hl.mono ?_;rintro e w' ⟨rfl,hx⟩)
        go_meet
        exact ⟨j,rfl,hhi,hP,.inr HV.out,hS.out.ext hx⟩
      ·go_wp2_with fail
       go_meet
       exact ⟨j,rfl,hhi,hP,.inl (by omega),hS⟩
    case rest =>
    clear hP hS
    obtain ⟨j,rfl,hhi,hP,hj,hS⟩:=hcut
    have k1:=hP.out.ai
    have k2:=hP.out.jb
    have k3:=hP.out.ij
    have hbx:=HB.out.bt hS.out.bt hgw
    have c0:=hbx.cell 0 _
    have c1:=hbx.cell 1 _
    have cz:=hbx.lt
    clear hbx
    by_cases hij:j<i
    ·go_wp2_with fail
     go_meet
     exact ⟨i,j,dk,rfl,rfl,hij,hP,hS⟩
    ·have hi':=hi.out.resolve_left (by omega)
     have hj':=hj.out.resolve_left hij
     obtain ⟨hlt,hP2⟩:=hP.out.swap (by omega) hi' hj'
     obtain ⟨W4,hs4,hst4⟩:=hS.out.swap hswap i j (by omega) (by omega) h2
     have HS4:=Hd hs4
     have HST4:=Hd hst4
     have HP4:=Hd hP2
     clear hs4 hst4 hi hj hi' hj' hP2 hS hP
     go_wp2_with fail
     rw [HS4.out,Oper.upon_value]
     go_wp2_with fail
     go_roundw
     case rel=>exact ⟨i+1,j-1,_,by go_num,by go_num,HP4.out,HST4.out⟩
     case measure=>simp [intOf];omega
  case rest =>
  clear HST3 HP3 k1 k2 k3 hij hlt
  obtain ⟨i,j,dk,rfl,rfl,hij,hP,hS⟩:=hcut
  have k1:=hP.out.ai
  have k2:=hP.out.jb
  have k3:=hP.out.ij
  have hbx:=HB.out.bt hS.out.bt hgw
  have c0:=hbx.cell 0 _
  have c1:=hbx.cell 1 _
  have cz:=hbx.lt
  obtain ⟨W5,hs5,hst5⟩:=hS.out.swap hswap j a (by omega) (by omega) h2
  have HS5:=Hd hs5
  have HST5:=Hd hst5
  have HD:=Hd (hP.out.done hij)
  clear hs5 hst5 hbx hS hP
  go_wp2_with fail
  rw [HS5.out,Oper.upon_value]
  go_wp2_with fail
  go_ret2
  exact ⟨j,false,_,rfl,HD.out,HST5.out.row,HST5.out.size,HST5.out.all,HX.out.trans HST5.out.bt⟩
end
section
open Go.Sort
theorem qkn {n:Nat} {d dk:Array Int} (h:PermIn 0 n d dk) (hn:d.size=n):dk.toList.Perm d.toList:=by
 obtain ⟨hs,_,hp⟩:=h
 have e1:dk.extract 0 n=dk:=by rw [<- hn,<- hs];exact Array.extract_size
 have e2:d.extract 0 n=d:=by rw [<- hn];exact Array.extract_size
 rwa [e1,e2] at hp
theorem mem_get {d:Array Int} {k:Nat} (h:k<d.size):d[k]! ∈ d.toList:=by
 rw [getElem!_pos d k h]
 exact Array.mem_toList_iff.2 (Array.getElem_mem h)
theorem nodup_get {d:Array Int} (hd:d.toList.Nodup) {i j:Nat} (hij:i<j) (hj:j<d.size):d[i]! ≠ d[j]! := by
 have h:=List.pairwise_iff_getElem.1 hd i j (by simp;omega) (by simpa using hj) hij
 rw [getElem!_pos d i (by omega),getElem!_pos d j hj]
 simpa using h
def Tot (lt:Int->Int->Bool) (d:Array Int):Prop:=d.toList.Nodup∧∀ x∈d.toList,∀ y∈d.toList,x≠y->lt x y=false->lt y x=true
section
variable {lt:Int->Int->Bool} {n:Nat} {d:Array Int}
theorem qoy (hS:SWO lt) {A m B:Nat} {e:Array Int} (h1:∀ k,A<=k->k<m->lt e[k]! e[m]! = true) (h2:∀ k,m<k->k<B->lt e[k]! e[m]! = false) (s1:SortedIn lt A m e) (s2:SortedIn lt (m+1) B e):SortedIn lt A B e:=by
 intro i j hi hij hj
 by_cases hjm:j<m
 ·exact s1 i j hi hij hjm
 by_cases hjm':j=m
 ·subst hjm'
  exact hS.asymmA (h1 i hi hij)
 by_cases him:m+1<=i
 ·exact s2 i j him hij hj
 by_cases him':i=m
 ·subst him'
  exact h2 j hij hj
 have a1:=h1 i hi (by omega)
 have a2:=h2 j (by omega) hj
 cases hc:lt e[j]! e[i]! with
 | false=>rfl
 | true=>rw [hS.trans _ _ _ hc a1] at a2;cases a2
structure Pq (lt:Int->Int->Bool) (n:Nat) (d:Array Int) (A B:Nat) (dk:Array Int):Prop where
 ab:A<=B
 bn:B<=n
 sz:d.size=n
 perm:PermIn 0 n d dk
 bel:A=0∨∀ k,A<=k->k<B->lt dk[A-1]! dk[k]! = true
 fin:∀ e,PermIn A B dk e->SortedIn lt A B e->PermIn 0 n d e∧SortedIn lt 0 n e
theorem Pq.start (hn:d.size=n):Pq lt n d 0 n d:=⟨Nat.zero_le _,Nat.le_refl _,hn,permIn_refl d 0 n,.inl rfl,fun e h1 h2=>⟨h1,h2⟩⟩
theorem Pq.size {A B:Nat} {dk:Array Int} (h:Pq lt n d A B dk):dk.size=n:=h.perm.1.trans h.sz
theorem Pq.turn {A B:Nat} {dk d1:Array Int} (h:Pq lt n d A B dk) (hp:PermIn A B dk d1):Pq lt n d A B d1:=by
 have hs:=h.size
 have hb:=h.bn
 refine ⟨h.ab,hb,h.sz,permIn_trans _ _ _ 0 n h.perm (permIn_mono dk d1 A B 0 n (Nat.zero_le _) hb (by omega) hp),?_,fun e h1 h2=>h.fin e (permIn_trans _ _ _ A B hp h1) h2⟩
 rcases h.bel with h0 | h0
 ·exact .inl h0
 ·by_cases hA:A=0
  ·exact .inl hA
  ·refine .inr fun k k1 k2=>?_
   rw [hp.2.1 (A-1) (.inl (by omega))]
   exact permIn_all dk d1 A B (fun x=>lt dk[A-1]! x=true) (by omega) hp h0 k k1 k2
theorem Pq.tot {A B:Nat} {dk:Array Int} (h:Pq lt n d A B dk) (ht:Tot lt d):Tot lt dk:=by
 have hp:=qkn h.perm h.sz
 exact ⟨hp.nodup_iff.2 ht.1,fun x hx y hy=>ht.2 x (hp.mem_iff.1 hx) y (hp.mem_iff.1 hy)⟩
theorem Pq.left (hS:SWO lt) (ht:Tot lt d) {A B m:Nat} {dk d2 d3:Array Int} (h:Pq lt n d A B dk) (hm:Prtd lt A B dk m d2) (hp:PermIn A m d2 d3) (hs:SortedIn lt A m d3):Pq lt n d (m+1) B d3:=by
 have h2:=h.turn hm.perm
 have z2:=h2.size
 have am:=hm.am
 have mb:=hm.mb
 have bn:=h.bn
 have h3:=h2.turn (permIn_mono d2 d3 A m A B (Nat.le_refl _) (by omega) (by omega) hp)
 have z3:=h3.size
 have t3:=h3.tot ht
 have em:d3[m]! = d2[m]! := hp.2.1 m (.inr (Nat.le_refl _))
 have hi3:∀ k,m<k->k<B->lt d3[k]! d3[m]! = false:=fun k k1 k2=>by rw [em,hp.2.1 k (.inr (by omega))];exact hm.hi k k1 k2
 have lo3:∀ k,A<=k->k<m->lt d3[k]! d3[m]! = true:=fun k k1 k2=>by
  rw [em]
  exact permIn_all d2 d3 A m (fun x=>lt x d2[m]! = true) (by omega) hp hm.lo k k1 k2
 refine ⟨by omega,bn,h.sz,h3.perm,.inr fun k k1 k2=>?_,fun e h1 h4=>?_⟩
 ·rw [Nat.add_sub_cancel]
  exact t3.2 _ (mem_get (by omega)) _ (mem_get (by omega)) (fun he=>nodup_get t3.1 (show m<k by omega) (by omega) he.symm) (hi3 k (by omega) k2)
 ·refine h3.fin e (permIn_mono d3 e (m+1) B A B (by omega) (Nat.le_refl _) (by omega) h1) (qoy (m:=m) hS (fun k k1 k2=>?_) (fun k k1 k2=>?_) (fun i j i1 i2 i3=>?_) h4)
  ·rw [h1.2.1 k (.inl (by omega)),h1.2.1 m (.inl (by omega))]
   exact lo3 k k1 k2
  ·rw [h1.2.1 m (.inl (by omega))]
   exact permIn_all d3 e (m+1) B (fun x=>lt x d3[m]! = false) (by omega) h1 (fun k k1 k2=>hi3 k (by omega) k2) k (by omega) k2
  ·rw [h1.2.1 i (.inl (by omega)),h1.2.1 j (.inl (by omega))]
   exact hs i j i1 i2 i3
theorem Pq.right (hS:SWO lt) {A B m:Nat} {dk d2 d3:Array Int} (h:Pq lt n d A B dk) (hm:Prtd lt A B dk m d2) (hp:PermIn (m+1) B d2 d3) (hs:SortedIn lt (m+1) B d3):Pq lt n d A m d3:=by
 have h2:=h.turn hm.perm
 have z2:=h2.size
 have am:=hm.am
 have mb:=hm.mb
 have bn:=h.bn
 have h3:=h2.turn (permIn_mono d2 d3 (m+1) B A B (by omega) (Nat.le_refl _) (by omega) hp)
 have z3:=h3.size
 have em:d3[m]! = d2[m]! := hp.2.1 m (.inl (by omega))
 have hi3:∀ k,m<k->k<B->lt d3[k]! d3[m]! = false:=fun k k1 k2=>by
  rw [em]
  exact permIn_all d2 d3 (m+1) B (fun x=>lt x d2[m]! = false) (by omega) hp (fun k k1 k2=>hm.hi k (by omega) k2) k (by omega) k2
 have lo3:∀ k,A<=k->k<m->lt d3[k]! d3[m]! = true:=fun k k1 k2=>by
  rw [em,hp.2.1 k (.inl (by omega))]
  exact hm.lo k k1 k2
 refine ⟨am,by omega,h.sz,h3.perm,?_,fun e h1 h4=>?_⟩
 ·rcases h3.bel with h0 | h0
  ·exact .inl h0
  ·exact .inr fun k k1 k2=>h0 k k1 (by omega)
 ·refine h3.fin e (permIn_mono d3 e A m A B (Nat.le_refl _) (by omega) (by omega) h1) (qoy (m:=m) hS (fun k k1 k2=>?_) (fun k k1 k2=>?_) h4 (fun i j i1 i2 i3=>?_))
  ·rw [h1.2.1 m (.inr (Nat.le_refl _))]
   exact permIn_all d3 e A m (fun x=>lt x d3[m]! = true) (by omega) h1 lo3 k k1 k2
  ·rw [h1.2.1 k (.inr (by omega)),h1.2.1 m (.inr (Nat.le_refl _))]
   exact hi3 k k1 k2
  ·rw [h1.2.1 i (.inr (by omega)),h1.2.1 j (.inr (by omega))]
   exact hs i j i1 i2 i3
theorem one_order (hS:SWO lt) (ht:Tot lt d) (hn:d.size=n) {e:Array Int} (hp:PermIn 0 n d e) (hs:SortedIn lt 0 n e):e=insertionSort lt d 0 n:=by
 have hi:=insertionSort_holds hS d 0 n (Nat.zero_le _) (by omega)
 have sorted:∀ {a:Array Int},a.size=n->SortedIn lt 0 n a->a.toList.Pairwise fun x y=>lt y x=false:=fun {a} hz h=>by
  rw [List.pairwise_iff_getElem]
  intro i j h1 h2 h3
  have h1':i<a.size:=by simpa using h1
  have h2':j<a.size:=by simpa using h2
  have:=h i j (Nat.zero_le _) h3 (by omega)
  rw [getElem!_pos a j h2',getElem!_pos a i h1'] at this
  simpa using this
 have p1:=qkn hp hn
 have p2:=qkn hi.1 hn
 apply Array.toList_inj.1
 refine List.Perm.eq_of_pairwise (le:=fun x y=>lt y x=false) (fun a b ha hb h1 h2=>?_) (sorted (hp.1.trans hn) hs) (sorted (hi.1.1.trans hn) hi.2) (p1.trans p2.symm)
 apply Classical.byContradiction
 intro hne
 have:=ht.2 b (p2.mem_iff.1 hb) a (p1.mem_iff.1 ha) (fun h=>hne h.symm) h1
 rw [h2] at this
 cases this
end
end
section
set_option maxHeartbeats 1000000
set_option maxRecDepth 100000
/- sort.Slice at whole numbers: the choice of a pivot,and the look at whether all is in order: walked. -/
open Go.Shelf Go.Sort Go.Lib
def ChoP (a b:Nat) (w:World) (e:Ending) (w':World):Prop:=∃ (m:Nat) (h:Int),e = .returned (.tuple #[.int .i64 (m:Int),.int .i64 h])∧a<=m∧m<b∧(h=0∨h=1)∧Ext w w'
theorem choose_c (lf:Nat) (lb:Array Value) (sf:Nat) (sb:Array Value) (lt:Int->Int->Bool) (p:Int->Prop) (base g n c a b l:Nat) (hbl:b=a+l) (d:Array Int) (w:World) (el:∀ args w,(callFunc lf args).run Tryz.prog w = .ok (.enter lf args) w)
  (hless:qd6 lf lb lt p base g n c w) (hrow:qbn base w d g n c) (hd:d.size=n) (hp:∀ x∈d.toList,p x) (hn:n<=1000) (hl8:8<=l) (hl50:l<50) (hbn:b<=n) (hg:g<w.heap.size) :
  Calls Tryz.prog 301 #[qin lf lb sf sb,.int .i64 a,.int .i64 b] w (ChoP a b w):=by
 obtain ⟨q,hq⟩:∃ q,l / 4=q:=⟨_,rfl⟩
 have y1:(b:Int)-(a:Int)=(l:Int):=by omega
 have y2:(l:Int) / 4=(q:Int):=by omega
 have y3:(l:Int).tdiv 4=(q:Int):=by rw [Int.tdiv_eq_ediv_of_nonneg (by omega)];exact y2
 obtain ⟨W1,hW1⟩:∃ W1,(w.alloc (.cells #[.func (.func lf) #[] lb,.func (.func sf) #[] sb] 299)).alloc (.cells #[.int .i64 0] 3)=W1:=⟨_,rfl⟩
 have hX:Ext w W1:=by rw [<- hW1];exact ((Ext.refl w).alloc _).alloc _
 have hB:qaf W1 w.heap.size 299 [.func (.func lf) #[] lb,.func (.func sf) #[] sb]:=by rw [<- hW1];exact (qaf.new w _ _).ext ((Ext.refl _).alloc _)
 have hS:qaf W1 (w.heap.size+1) 3 [.int .i64 0]:=by rw [<- hW1];have:=qaf.new (w.alloc (.cells #[.func (.func lf) #[] lb,.func (.func sf) #[] sb] 299)) 3 [.int .i64 0];rwa [World.size_alloc] at this
 have hme:=median_c lf lb sf sb lt p base g n c (a+q) (a+q*2) (a+q*3) (w.heap.size+1) 0 d w W1 el hless hX.bt (hrow.ext qac.good hX) hd hp hn (by omega) (by omega) (by omega) hS (by omega) (by omega) (by omega)
 have HME:=Hd hme
 have HW:=Hd hW1
 have b0:=hB.cell 0 _
 have b1:=hB.cell 1 _
 have bz:=hB.lt
 have HX:=Hd hX
 have hq1:q<=12:=by omega
 have hq2:a+q*3<b:=by omega
 clear hless hrow hp hX hme hW1 hB hS hq hbl
 go_enter Tryz.func301,Tryz.ntmps301
 go_wp2_with fail
 rw [HW.out]
 have hme:=HME.out
 rw [show ((a+q:Nat):Int)=(a:Int)+q by omega,show ((a+q*2:Nat):Int)=(a:Int)+q*2 by omega,show ((a+q*3:Nat):Int)=(a:Int)+q*3 by omega] at hme
 refine hme.mono ?_
 rintro e w' ⟨x,k',rfl,hx,hk1,hk2,hb',ht'⟩
 have x0:=hb'.cell 0 _
 have xz:=hb'.lt
 have hE:Ext w w':=Bt.new HX.out ht' fun q _ h=>by omega
 have hxa:a<=x∧x<b:=by omega
 clear hb' ht' hx b0 b1 bz hme HME HW
 by_cases h0:k'=0
 ·subst h0
  go_wp2_with fail
  go_ret2
  exact ⟨x,1,rfl,hxa.1,hxa.2,.inr rfl,hE⟩
 ·have h12:¬ k'=12:=by omega
  go_wp2_with fail
  go_ret2
  exact ⟨x,0,rfl,hxa.1,hxa.2,.inl rfl,hE⟩
def PartialP (lt:Int->Int->Bool) (a b:Nat) (d:Array Int) (w:World) (e:Ending) (w':World):Prop:=∃ r:Bool,e = .returned (.bool r)∧(r=true->SortedIn lt a b d)∧Ext w w'
theorem partial_c (lf:Nat) (lb:Array Value) (sf:Nat) (sb:Array Value) (lt:Int->Int->Bool) (hS:SWO lt) (p:Int->Prop) (base g n c a b:Nat) (d:Array Int) (w:World) (el:∀ args w,(callFunc lf args).run Tryz.prog w = .ok (.enter lf args) w)
  (hless:qd6 lf lb lt p base g n c w) (hrow:qbn base w d g n c) (hd:d.size=n) (hp:∀ x∈d.toList,p x) (hn:n<=1000) (hab:a<b) (hab50:b<a+50) (hbn:b<=n) :
  Calls Tryz.prog 303 #[qin lf lb sf sb,.int .i64 a,.int .i64 b] w (PartialP lt a b d w):=by
 obtain ⟨W1,hW1⟩:∃ W1,w.alloc (.cells #[.func (.func lf) #[] lb,.func (.func sf) #[] sb] 299)=W1:=⟨_,rfl⟩
 have hX1:Ext w W1:=by rw [<- hW1];exact (Ext.refl w).alloc _
 have hB:qaf W1 w.heap.size 299 [.func (.func lf) #[] lb,.func (.func sf) #[] sb]:=by rw [<- hW1];exact qaf.new w _ _
 have hl1:∀ W,Ext W1 W->∀ i j:Nat,i<n->j<n->Calls Tryz.prog lf (#[.int .i64 i,.int .i64 j]++lb) W fun e w'=>e = .returned (.bool (lt d[i]! d[j]!))∧Ext W w':=fun W hW=>hless W d (hX1.trans' hW).bt (hrow.ext qac.good (hX1.trans' hW)) hd hp
 have HB:=Hd hB
 have HX:=Hd hX1
 have HL:=Hd hl1
 have hs1:Hid (SortedIn lt a (a+1) d):=fun i j h1 h2 h3=>by omega
 have hba:((b:Int)-(a:Int)<50):=by omega
 have HW:=Hd hW1
 clear hless hrow hp hX1 hW1 hB hl1
 go_enter Tryz.func303,Tryz.ntmps303
 go_wp2_with fail
 rw [HW.out]
 clear HW
 refine wp_loop_rounds 1 ?_
 rw [rounds_succ]
 go_upto_block 2 with (fail)
 go_cut [7] (fun v7 wx=>∃ i:Nat,v7 = .int .i64 (i:Int)∧i<=b∧Hid (i=b->SortedIn lt a b d)∧Ext W1 wx)
 case first =>
  go_wp2_with fail
  go_loopw [7] (fun v7 wr=>∃ i:Nat,v7 = .int .i64 (i:Int)∧a+1<=i∧i<=b∧Hid (SortedIn lt a i d)∧Ext W1 wr) (fun vi _=>b-(intOf vi).toNat)
  case atStart=>exact ⟨a+1,by go_num,Nat.le_refl _,by omega,hs1,Ext.refl _⟩
  case round =>
   obtain ⟨i,rfl,hi1,hi2,hsi,hE⟩:=hrel
   have hbx:=HB.out.ext hE
   have c0:=hbx.cell 0 _
   have cz:=hbx.lt
   clear hbx
   by_cases hlt:i<b
   ·have hl:=HL.out wr hE i (i-1) (by omega) (by omega)
    rw [show (((i-1:Nat):Int))=(i:Int)-1 by omega] at hl
    cases hlv:lt d[i]! d[i-1]! with
    | true =>
     rw [hlv] at hl
     clear hlv
     go_wp2_with (go_at_fn lf;refine hl.mono ?_;rintro e w' ⟨rfl,hx⟩)
     go_meet
     exact ⟨i,rfl,hi2,fun e=>absurd e (by omega),hE.trans' hx⟩
    | false =>
     rw [hlv] at hl
     have HN:Hid (SortedIn lt a (i+1) d):=SortedIn.snoc hS hsi.out hlv
     clear hlv
     go_wp2_with (go_at_fn lf;refine hl.mono ?_;rintro e w' ⟨rfl,hx⟩)
     go_roundw
     case rel=>exact ⟨i+1,by go_num,by omega,by omega,HN.out,hE.trans' hx⟩
     case measure=>simp [intOf];omega
   ·go_wp2_with fail
    go_meet
    exact ⟨i,rfl,hi2,fun e=>e ▸ hsi.out,hE⟩
 case rest =>
 obtain ⟨i,rfl,hi2,hsi,hE⟩:=hcut
 by_cases hib:i=b
 ·subst hib
  have HSI:=Hd (hsi.out rfl)
  clear hsi
  go_wp2_with fail
  go_ret
  exact ⟨true,rfl,fun _=>HSI.out,HX.out.trans' hE⟩
 ·go_wp2_with fail
  go_ret
  exact ⟨false,rfl,fun h=>(by cases h),HX.out.trans' hE⟩
end
section
set_option maxHeartbeats 2000000
set_option maxRecDepth 100000
/- sort.Slice at whole numbers: the breaking of patterns: walked. -/
open Go.Shelf Go.Sort Go.Lib
def xorRen:Go.Shelf.Ren:=⟨fun | 36=>319 | n=>n,fun | 0=>0 | 41=>154 | 51=>223 | 60=>326 | 66=>332 | n=>n,fun | n=>n⟩
theorem laysXor:LaysGg.n36 Tryz.prog xorRen:={
 mixed:=by kernel_rfl
 f36:=Tryz.func319.trans (congrArg some (by kernel_rfl))
 t0:=Tryz.underlying0
 a0:=Tryz.isAgg0
 z0:=Tryz.sizeOf0
 v0:=Tryz.zeroValue0
 i0:=by kernel_rfl
 t41:=Tryz.underlying154
 a41:=Tryz.isAgg154
 z41:=Tryz.sizeOf154
 v41:=Tryz.zeroValue154
 i41:=by kernel_rfl
 t51:=Tryz.underlying223
 a51:=Tryz.isAgg223
 z51:=Tryz.sizeOf223
 v51:=Tryz.zeroValue223
 i51:=by kernel_rfl
 t60:=Tryz.underlying326
 a60:=Tryz.isAgg326
 z60:=Tryz.sizeOf326
 v60:=Tryz.zeroValue326
 i60:=by kernel_rfl
 t66:=Tryz.underlying332
 a66:=Tryz.isAgg332
 z66:=Tryz.sizeOf332
 v66:=Tryz.zeroValue332
 i66:=by kernel_rfl
}
def NextP (gx:Nat) (w:World) (e:Ending) (w':World):Prop:=∃ C:Nat,C<18446744073709551616∧e = .returned (.int .u64 (C:Int))∧qaf w' gx 326 [.int .u64 (C:Int)]∧Bt (fun q=>q=gx) w w'
theorem next_c (gx X:Nat) (hX:X<18446744073709551616) (w:World) (hb:qaf w gx 326 [.int .u64 (X:Int)]):Calls Tryz.prog 319 #[.pointer (some ⟨gx,0,none⟩)] w (NextP gx w):=by
 have h:=Any.xorshift_Next laysXor gx 0 X hX w (hb.cell 0 _) (hb.frozen 0)
 change Calls Tryz.prog 319 _ w _ at h
 refine h.mono ?_
 rintro e w' ⟨rfl,rfl⟩
 refine ⟨_,xorNextN_lt X hX,rfl,?_,Bt.drewN (Bt.set (Z:=fun q=>q=gx) (p:=⟨gx,0,none⟩) (Bt.refl _ _) (.inr rfl) _) 3⟩
 exact (hb.set 0 _).ext ((Ext.refl _).drewN 3)
theorem pow_len:∀ l:Fin 17,8<=l.1->l.1<=2 ^ Lib.bitLen l.1∧2 ^ Lib.bitLen l.1<=2*l.1:=by decide
def PowP (l:Nat) (w:World) (e:Ending) (w':World):Prop:=∃ m:Nat,l<=m∧m<=2*l∧e = .returned (.int .u64 (m:Int))∧w'=w
theorem nextPow_c (l:Nat) (h8:8<=l) (h16:l<=16) (w:World):Calls Tryz.prog 318 #[.int .i64 (l:Int)] w (PowP l w):=by
 have hb:=fun w=>Any.bits_Len Tryz.laysBits (l:Int) w (by omega) (by omega)
 change ∀ w,Calls Tryz.prog 118 _ w _ at hb
 have hp:=pow_len ⟨l,by omega⟩ h8
 simp only at hp
 rw [Int.toNat_natCast] at hb
 obtain ⟨k,hk⟩:∃ k,Lib.bitLen l=k:=⟨_,rfl⟩
 rw [hk] at hb hp
 have hk6:k<=5:=by
  apply Classical.byContradiction
  intro hc
  have:2 ^ 6<=2 ^ k:=Nat.pow_le_pow_right (by decide) (by omega)
  omega
 have wr:IntKind.u64.wrap (l:Int)=l:=by simp [IntKind.wrap,IntKind.bits,IntKind.signed];omega
 have wk:IntKind.u64.wrap (k:Int)=k:=by simp [IntKind.wrap,IntKind.bits,IntKind.signed];omega
 have hw:IntKind.u64.wrap ((2:Int) ^ k)=((2 ^ k:Nat):Int):=by
  rw [show (2:Int) ^ k=((2 ^ k:Nat):Int) by push_cast;rfl]
  have:2 ^ k<=2 ^ 5:=Nat.pow_le_pow_right (by decide) hk6
  generalize 2 ^ k=z at this
  simp [IntKind.wrap,IntKind.bits,IntKind.signed]
  omega
 have HP:=Hd hp
 clear hp hk
 go_enter Tryz.func318,Tryz.ntmps318
 go_wp2_with fail
 refine (hb _).mono ?_
 rintro e w' ⟨rfl,rfl⟩
 go_wp2_with fail
 go_ret
 exact ⟨2 ^ k,HP.out.1,HP.out.2,rfl,rfl⟩
theorem StR.swapb {sf:Nat} {sb:Array Value} {base g n c:Nat} {p:Int->Prop} {W1 W:World} {dk:Array Int} (h:StR base g n c p W1 dk W) (hs:qgl sf sb base g n c) (i j:Nat) (hi:i<n) (hj:j<n) (h2:2<=n) :
  ∃ W',(callFunc sf (#[.int .i64 i,.int .i64 j]++sb)).run Tryz.prog W = .ok (.value (.tuple #[])) W'∧StR base g n c p W1 (swp dk i j) W'∧Bt (fun q=>q=g) W W':=by
 have h1:=qbn.swap h.row h.size hi hj
 exact ⟨_,hs W dk h.row h.size i j hi hj h2,⟨h1.1,by rw [<- h.size];simp [swp],qoe h.all (by have:=h.size;omega) (by have:=h.size;omega),h.bt.trans h1.2⟩,h1.2⟩
theorem StR.side {base g n c gs:Nat} {p:Int->Prop} {W1 W W':World} {dk:Array Int} (h:StR base g n c p W1 dk W) (k:Bt (fun q=>q=gs) W W') (hg:g≠gs) (hz:W1.heap.size<=gs):StR base g n c p W1 dk W' :=
 ⟨qbn.side h.row k hg,h.size,h.all,h.bt.side k hz⟩
def BreakP (base g n c:Nat) (p:Int->Prop) (a b:Nat) (d:Array Int) (w:World) (e:Ending) (w':World):Prop:=∃ d',e = .returned (.tuple #[])∧PermIn a b d d'∧StR base g n c p w d' w'
theorem break_c (lf:Nat) (lb:Array Value) (sf:Nat) (sb:Array Value) (p:Int->Prop) (base g n c a b l:Nat) (hbl:b=a+l) (d:Array Int) (w:World)
  (hswap:qgl sf sb base g n c) (hrow:qbn base w d g n c) (hd:d.size=n) (hp:∀ x∈d.toList,p x) (hn:n<=1000) (h8:8<=l) (h16:l<=16) (hbn:b<=n) (hg:g<w.heap.size) :
  Calls Tryz.prog 300 #[qin lf lb sf sb,.int .i64 a,.int .i64 b] w (BreakP base g n c p a b d w):=by
 obtain ⟨q,hq⟩:∃ q,l / 4=q:=⟨_,rfl⟩
 have y1:(b:Int)-(a:Int)=(l:Int):=by omega
 have hbl':a+l<=b:=by omega
 have y2:(l:Int) / 4=(q:Int):=by omega
 have y3:(l:Int).tdiv 4=(q:Int):=by rw [Int.tdiv_eq_ediv_of_nonneg (by omega)];exact y2
 obtain ⟨W1,hW1⟩:∃ W1,(w.alloc (.cells #[.func (.func lf) #[] lb,.func (.func sf) #[] sb] 299)).alloc (.cells #[.int .u64 (l:Int)] 326)=W1:=⟨_,rfl⟩
 have hX:Ext w W1:=by rw [<- hW1];exact ((Ext.refl w).alloc _).alloc _
 have hB:qaf W1 w.heap.size 299 [.func (.func lf) #[] lb,.func (.func sf) #[] sb]:=by rw [<- hW1];exact (qaf.new w _ _).ext ((Ext.refl _).alloc _)
 have hS:qaf W1 (w.heap.size+1) 326 [.int .u64 (l:Int)]:=by rw [<- hW1];have:=qaf.new (w.alloc (.cells #[.func (.func lf) #[] lb,.func (.func sf) #[] sb] 299)) 326 [.int .u64 (l:Int)];rwa [World.size_alloc] at this
 have hpo:=fun w=>nextPow_c l h8 h16 w
 have wr:IntKind.u64.wrap (l:Int)=l:=by simp [IntKind.wrap,IntKind.bits,IntKind.signed];omega
 have HB:=Hd hB
 have HS:=Hd hS
 have hst:StR base g n c p w d W1:=⟨hrow.ext qac.good hX,hd,hp,hX.bt⟩
 have HST:=Hd hst
 have HX:=Hd hX
 have HW:=Hd hW1
 have hq1:2<=q∧q<=4:=by omega
 have hq2:4*q<=l∧l<4*q+4:=by omega
 clear hrow hp hX hW1 hB hS hq hst hbl
 go_enter Tryz.func300,Tryz.ntmps300
 go_wp2_with fail
 refine (hpo _).mono ?_
 rintro e w' ⟨m,hm1,hm2,rfl,rfl⟩
 clear hpo
 go_wp2_with fail
 rw [HW.out]
 obtain ⟨gx,hgx⟩:∃ gx,w.heap.size+1=gx:=⟨_,rfl⟩
 rw [hgx] at HS ⊢
 have hgx1:¬ w.heap.size=gx:=by omega
 have hgx2:¬ g=gx:=by omega
 have hgx3:w.heap.size<=gx:=by omega
 have hgw:¬ w.heap.size=g:=by omega
 have hgg:¬ gx=g:=by omega
 clear hgx HW
 go_loopw [9] (fun v9 wr=>∃ (ix X:Nat) (dk:Array Int),v9 = .int .i64 (ix:Int)∧a<=ix∧ix<=a+q*2+2∧X<18446744073709551616∧Hid (PermIn a b d dk)∧Hid (StR base g n c p w dk wr)∧Hid (qaf wr w.heap.size 299 [.func (.func lf) #[] lb,.func (.func sf) #[] sb])∧Hid (qaf wr gx 326 [.int .u64 (X:Int)])) (fun vi _=>a+q*2+3-(intOf vi).toNat)
 case atStart=>exact ⟨a+q*2-1,l,d,by go_num,by omega,by omega,by omega,permIn_refl d a b,HST.out,HB.out,HS.out⟩
 case round =>
  clear HST HB HS
  obtain ⟨ix,X,dk,rfl,hx1,hx2,hX,hP,hS,hB,hG⟩:=hrel
  by_cases hle:ix<=a+q*2+1
  ·have hnx:=next_c gx X hX wr hG.out
   have b0:=hB.out.cell 0 _
   have b1:=hB.out.cell 1 _
   have bz:=hB.out.lt
   go_wp2_with fail
   refine hnx.mono ?_
   rintro e w' ⟨C,hC,rfl,hb',ht'⟩
   obtain ⟨O,hO⟩:∃ O,C &&& (m-1)=O:=⟨_,rfl⟩
   have hOm:O<=m-1:=by rw [<- hO];exact Nat.and_le_right
   have ye:bits .and .u64 (C:Int) ((m:Int)-1)=(O:Int):=by rw [show ((m:Int)-1)=((m-1:Nat):Int) by omega,bits_and_u64_nat _ _ hC (by omega),hO]
   have hS':=hS.out.side ht' hgx2 hgx3
   have hB':=hB.out.bt ht' hgx1
   clear b0 b1 bz hnx
   have b0:=hB'.cell 0 _
   have b1:=hB'.cell 1 _
   have bz:=hB'.lt
   have HS':=Hd hS'
   have HB':=Hd hB'
   have HG':=Hd hb'
   clear hS' hB' hb' ht' hS hB hG hO
   have hfin:∀ o:Nat,o<l->∃ W',(callFunc sf (#[.int .i64 (ix:Int),.int .i64 ((a:Int)+(o:Int))]++sb)).run Tryz.prog w' = .ok (.value (.tuple #[])) W'∧PermIn a b d (swp dk ix (a+o))∧StR base g n c p w (swp dk ix (a+o)) W'∧qaf W' w.heap.size 299 [.func (.func lf) #[] lb,.func (.func sf) #[] sb]∧qaf W' gx 326 [.int .u64 (C:Int)]:=fun o ho=>by
    obtain ⟨W',h1,h2,h3⟩:=HS'.out.swapb hswap ix (a+o) (by omega) (by omega) (by omega)
    exact ⟨W',h1,permIn_trans _ _ _ a b hP.out (swp_permIn dk a b ix (a+o) (by omega) (by omega) (by omega) (by omega) (by have:=HS'.out.size;omega)),h2,HB'.out.bt h3 hgw,HG'.out.bt h3 hgg⟩
   by_cases hol:O<l
   ·obtain ⟨W',h1,h2,h3,h4,h5⟩:=hfin O hol
    have H1:=Hd h1
    have H2:=Hd h2
    have H3:=Hd h3
    have H4:=Hd h4
    have H5:=Hd h5
    clear h1 h2 h3 h4 h5 hfin
    go_wp2_with fail
    rw [H1.out,Oper.upon_value]
    go_wp2_with fail
    go_roundw
    case rel=>exact ⟨ix+1,C,_,by go_num,by omega,by omega,hC,H2.out,H3.out,H4.out,H5.out⟩
    case measure=>simp [intOf];omega
   ·obtain ⟨o,ho⟩:∃ o,O=l+o:=⟨O-l,by omega⟩
    subst ho
    obtain ⟨W',h1,h2,h3,h4,h5⟩:=hfin o (by omega)
    have H1:=Hd h1
    have H2:=Hd h2
    have H3:=Hd h3
    have H4:=Hd h4
    have H5:=Hd h5
    have yo:((l+o:Nat):Int)-(l:Int)=(o:Int):=by omega
    have yo2:(l:Int)+(o:Int)-(l:Int)=(o:Int):=by omega
    clear h1 h2 h3 h4 h5 hfin
    go_wp2_with fail
    rw [H1.out,Oper.upon_value]
    go_wp2_with fail
    go_roundw
    case rel=>exact ⟨ix+1,C,_,by go_num,by omega,by omega,hC,H2.out,H3.out,H4.out,H5.out⟩
    case measure=>simp [intOf];omega
  ·go_wp2_with fail
   go_end0
   exact ⟨dk,rfl,hP.out,hS.out⟩
end
section
open Go.Shelf Go.Sort Go.Lib
def QuickP (lt:Int->Int->Bool) (base g n c:Nat) (p:Int->Prop) (d:Array Int) (w:World) (e:Ending) (w':World):Prop:=∃ d',e = .returned (.tuple #[])∧PermIn 0 n d d'∧SortedIn lt 0 n d'∧StR base g n c p w d' w'
set_option maxHeartbeats 4000000 in
set_option maxRecDepth 100000 in
theorem quick_c (lf:Nat) (lb:Array Value) (sf:Nat) (sb:Array Value) (lt:Int->Int->Bool) (hS:SWO lt) (p:Int->Prop) (base g n c:Nat) (lim:Nat) (d:Array Int) (w:World) (el:∀ args w,(callFunc lf args).run Tryz.prog w = .ok (.enter lf args) w)
  (hless:qd6 lf lb lt p base g n c w) (hswap:qgl sf sb base g n c) (hrow:qbn base w d g n c) (hd:d.size=n) (hp:∀ x∈d.toList,p x) (hn:2<=n∧n<=16) (hT:Tot lt d) (hlim:n<=12+lim) (hlim2:lim<=100) (hg:g<w.heap.size) :
  Calls Tryz.prog 277 #[.agg #[.func (.func lf) #[] lb,.func (.func sf) #[] sb],.int .i64 0,.int .i64 n,.int .i64 lim] w (QuickP lt base g n c p d w):=by
 obtain ⟨W1,hW1⟩:∃ W1,w.alloc (.cells #[.func (.func lf) #[] lb,.func (.func sf) #[] sb] 299)=W1:=⟨_,rfl⟩
 have hX1:Ext w W1:=by rw [<- hW1];exact (Ext.refl w).alloc _
 have hB:qaf W1 w.heap.size 299 [.func (.func lf) #[] lb,.func (.func sf) #[] sb]:=by rw [<- hW1];exact qaf.new w _ _
 have hst:StR base g n c p W1 d W1:=⟨hrow.ext qac.good hX1,hd,hp,Bt.refl _ _⟩
 have hpq:Pq lt n d 0 n d:=Pq.start hd
 have hgw:¬ w.heap.size=g:=by omega
 have hg1:g<W1.heap.size:=Nat.lt_of_lt_of_le hg hX1.size
 have HL:=Hd (hless.on hX1.bt)
 have HB:=Hd hB
 have HST:=Hd hst
 have HPQ:=Hd hpq
 have HX:Hid (Bt (fun q=>q=g) w W1):=hX1.bt
 have HW:=Hd hW1
 have HT:=Hd hT
 clear hless hrow hp hX1 hst hpq hB hW1 hT
 go_enter Tryz.func277,Tryz.ntmps277
 go_wp2_with fail
 rw [HW.out]
 clear HW
 go_loopw [1,2,3,8,9] (fun v1 v2 v3 v8 v9 wr=>∃ (A B L:Nat) (wb wp:Bool) (dk:Array Int),v1 = .int .i64 (A:Int)∧v2 = .int .i64 (B:Int)∧v3 = .int .i64 (L:Int)∧v8 = .bool wb∧v9 = .bool wp∧B<=A+12+L∧L<=100∧Hid (Pq lt n d A B dk)∧Hid (StR base g n c p W1 dk wr)) (fun v1 v2 _ _ _ _=>(intOf v2).toNat-(intOf v1).toNat)
 case atStart=>exact ⟨0,n,lim,true,true,d,rfl,rfl,rfl,rfl,rfl,by omega,by omega,HPQ.out,HST.out⟩
 case round =>
  clear HST HPQ hlim hlim2
  obtain ⟨A,B,L,wb,wp,dk,rfl,rfl,rfl,rfl,rfl,hBL,hL,hP,hSt⟩:=hrel
  have k1:=hP.out.ab
  have k2:=hP.out.bn
  obtain ⟨l,hl⟩:∃ l,B-A=l:=⟨_,rfl⟩
  have y1:(B:Int)-(A:Int)=(l:Int):=by omega
  have hgr:g<wr.heap.size:=Nat.lt_of_lt_of_le hg1 hSt.out.bt.size
  have hbx:=HB.out.bt hSt.out.bt hgw
  have c0:=hbx.cell 0 _
  have c1:=hbx.cell 1 _
  have cz:=hbx.lt
  clear hbx
  by_cases h12:l<=12
  ·have hins:=qqe lf lb sf sb lt p base g n c A B dk wr el (HL.out.on hSt.out.bt) hswap hSt.out.row hSt.out.size hSt.out.all (by omega) k1 k2 hgr
   have hpl:=insertionSort_holds hS dk A B k1 (by have:=hSt.out.size;omega)
   have HF:=Hd (hP.out.fin _ hpl.1 hpl.2)
   clear hpl
   go_wp2_with fail
   refine hins.mono ?_
   rintro e w' ⟨rfl,h1,h2⟩
   have H1:=Hd h1
   have H2:=Hd h2
   clear h1 h2 hins
   go_wp2_with fail
   exact bodyPost_ret (results_none rfl _ _ _) rfl ⟨_,rfl,HF.out.1,HF.out.2,H1.out.1,H1.out.2.2,H1.out.2.1,HX.out.trans (hSt.out.bt.trans H2.out)⟩
  have hL0:¬ (L=0):=by omega
  go_upto_if 35 with (fail)
  go_cut [3] (fun v3 wx=>∃ (L':Nat) (d1:Array Int),v3 = .int .i64 (L':Int)∧B<=A+13+L'∧L'<=100∧Hid (Pq lt n d A B d1)∧Hid (StR base g n c p W1 d1 wx))
  case first =>
   cases wb
   ·have hbr:=break_c lf lb sf sb p base g n c A B l (by omega) dk wr hswap hSt.out.row hSt.out.size hSt.out.all (by omega) (by omega) (by omega) k2 hgr
    go_wp2_with fail
    refine hbr.mono ?_
    rintro e w' ⟨d1,rfl,hp1,hs1⟩
    have HP1:=Hd (hP.out.turn hp1)
    have HS1:=Hd (show StR base g n c p W1 d1 w' from ⟨hs1.row,hs1.size,hs1.all,hSt.out.bt.trans hs1.bt⟩)
    clear hp1 hs1 hbr hP hSt
    go_wp2_with fail
    go_meet
    exact ⟨L-1,d1,by go_num,by omega,by omega,HP1.out,HS1.out⟩
   ·go_wp2_with fail
    go_meet
    exact ⟨L,dk,rfl,by omega,hL,hP.out,hSt.out⟩
  case rest =>
  clear hP hSt c0 c1 cz hgr
  obtain ⟨L1,d1,rfl,hBL1,hL1,hP,hSt⟩:=hcut
  have hgr:g<wc.heap.size:=Nat.lt_of_lt_of_le hg1 hSt.out.bt.size
  have hbx:=HB.out.bt hSt.out.bt hgw
  have c0:=hbx.cell 0 _
  have c1:=hbx.cell 1 _
  have cz:=hbx.lt
  clear hbx
  have hch:=choose_c lf lb sf sb lt p base g n c A B l (by omega) d1 wc el (HL.out.on hSt.out.bt) hSt.out.row hSt.out.size hSt.out.all (by omega) (by omega) (by omega) k2 hgr
  go_wp2_with fail
  refine hch.mono ?_
  rintro e w2 ⟨m,h,rfl,hm1,hm2,hh,hE2⟩
  have hh2:¬ h=2:=by omega
  have HS2:=Hd (hSt.out.ext hE2)
  clear c0 c1 cz hch hSt hE2
  have hbx:=HB.out.bt HS2.out.bt hgw
  have c0:=hbx.cell 0 _
  have c1:=hbx.cell 1 _
  have cz:=hbx.lt
  clear hbx
  go_upto_region 16 with (fail)
  go_cut [68] (fun v68 wx=>∃ q:Bool,v68 = .bool q∧wx=w2)
  case first =>
   rcases hh with rfl | rfl <;> cases wb <;> cases wp
   all_goals go_wp2_with fail
   all_goals go_meet
   all_goals exact ⟨_,rfl,rfl⟩
  case rest =>
  rename World=>w3
  obtain ⟨q,rfl,hw⟩:=hcut
  subst hw
  go_upto_if 68 with (fail)
  go_cut [] (fun wx=>Ext w3 wx)
  case first =>
   cases q
   ·go_wp2_with fail
    go_meet
    exact Ext.refl _
   ·have hpa:=partial_c lf lb sf sb lt hS p base g n c A B d1 w3 el (HL.out.on HS2.out.bt) HS2.out.row HS2.out.size HS2.out.all (by omega) (by omega) (by omega) k2
    go_wp2_with fail
    refine hpa.mono ?_
    rintro e w4 ⟨r,rfl,hsr,hE4⟩
    cases r
    ·go_wp2_with fail
     go_meet
     exact hE4
    ·have HF:=Hd (hP.out.fin d1 (permIn_refl d1 A B) (hsr rfl))
     have HS4:=Hd (HS2.out.ext hE4)
     clear hsr
     go_wp2_with fail
     exact bodyPost_ret (results_none rfl _ _ _) rfl ⟨_,rfl,HF.out.1,HF.out.2,HS4.out.row,HS4.out.size,HS4.out.all,HX.out.trans HS4.out.bt⟩
  case rest =>
  rename World=>w4
  have hE4:Ext w3 w4:=hcut
  clear c0 c1 cz
  have HS4:=Hd (HS2.out.ext hE4)
  clear HS2 hcut hE4
  have hbx:=HB.out.bt HS4.out.bt hgw
  have c0:=hbx.cell 0 _
  have c1:=hbx.cell 1 _
  have cz:=hbx.lt
  clear hbx
  go_upto_region 18 with (fail)
  go_cut [83] (fun v83 wx=>v83 = .bool false∧Ext w4 wx)
  case first =>
   by_cases hA:0<A
   ·have hl:=HS4.out.less HL.out (A-1) m (by omega) (by omega)
    rw [hP.out.bel.resolve_left (by omega) m hm1 hm2,show (((A-1:Nat):Int))=(A:Int)-1 by omega] at hl
    go_wp2_with (go_at_fn lf;refine hl.mono ?_;rintro e w' ⟨rfl,hx⟩)
    go_meet
    exact ⟨rfl,hx⟩
   ·go_wp2_with fail
    go_meet
    exact ⟨rfl,Ext.refl _⟩
  case rest =>
  rename World=>w5
  obtain ⟨rfl,hE5⟩:=hcut
  clear c0 c1 cz
  have HS5:=Hd (HS4.out.ext hE5)
  clear HS4 hE5
  have hgr5:g<w5.heap.size:=Nat.lt_of_lt_of_le hg1 HS5.out.bt.size
  have hbx:=HB.out.bt HS5.out.bt hgw
  have c0:=hbx.cell 0 _
  have c1:=hbx.cell 1 _
  have cz:=hbx.lt
  clear hbx
  have hpt:=qub lf lb sf sb lt p base g n c A B m d1 w5 el (HL.out.on HS5.out.bt) hswap HS5.out.row HS5.out.size HS5.out.all (by omega) hm1 hm2 k2 (by omega) hgr5
  go_wp2_with fail
  refine hpt.mono ?_
  rintro e w6 ⟨mid,fl,d2,rfl,hPr,hs6⟩
  have j1:=hPr.am
  have j2:=hPr.mb
  have HS6:=Hd (show StR base g n c p W1 d2 w6 from ⟨hs6.row,hs6.size,hs6.all,HS5.out.bt.trans hs6.bt⟩)
  have HPR:=Hd hPr
  clear c0 c1 cz hpt hs6 hPr HS5
  have hgr6:g<w6.heap.size:=Nat.lt_of_lt_of_le hg1 HS6.out.bt.size
  have hbx:=HB.out.bt HS6.out.bt hgw
  have c0:=hbx.cell 0 _
  have c1:=hbx.cell 1 _
  have cz:=hbx.lt
  clear hbx
  obtain ⟨x,hx⟩:∃ x,mid-A=x:=⟨_,rfl⟩
  obtain ⟨y,hy⟩:∃ y,B-mid=y:=⟨_,rfl⟩
  obtain ⟨z,hz⟩:∃ z,l / 8=z:=⟨_,rfl⟩
  have yx:(mid:Int)-(A:Int)=(x:Int):=by omega
  have yy:(B:Int)-(mid:Int)=(y:Int):=by omega
  have yz:(l:Int) / 8=(z:Int):=by omega
  have yz2:(l:Int).tdiv 8=(z:Int):=by rw [Int.tdiv_eq_ediv_of_nonneg (by omega)];exact yz
  have hx7:A+x<=mid∧mid<=A+x:=by omega
  have hy7:mid+y<=B∧B<=mid+y:=by omega
  clear hx hy hz
  by_cases hxy:x<y
  ·have hq:=pdq_c lf lb sf sb lt p base g n c A mid L1 d2 w6 el (HL.out.on HS6.out.bt) hswap HS6.out.row HS6.out.size HS6.out.all (by omega) j1 (by omega) (by omega) hgr6
   have hpl:=insertionSort_holds hS d2 A mid j1 (by have:=HS6.out.size;omega)
   have HP7:=Hd (hP.out.left hS HT.out HPR.out hpl.1 hpl.2)
   clear hpl
   go_wp2_with fail
   refine hq.mono ?_
   rintro e w7 ⟨rfl,h1,h2⟩
   have HS7:=Hd (show StR base g n c p W1 (insertionSort lt d2 A mid) w7 from ⟨h1.1,h1.2.2,h1.2.1,HS6.out.bt.trans h2⟩)
   clear h1 h2 hq
   go_wp2_with fail
   go_roundw
   case rel=>exact ⟨mid+1,B,L1,_,fl,_,by go_num,rfl,rfl,rfl,rfl,by omega,hL1,HP7.out,HS7.out⟩
   case measure=>simp [intOf];omega
  ·have hq:=pdq_c lf lb sf sb lt p base g n c (mid+1) B L1 d2 w6 el (HL.out.on HS6.out.bt) hswap HS6.out.row HS6.out.size HS6.out.all (by omega) (by omega) k2 (by omega) hgr6
   rw [show ((mid+1:Nat):Int)=(mid:Int)+1 by omega] at hq
   have hpl:=insertionSort_holds hS d2 (mid+1) B (by omega) (by have:=HS6.out.size;omega)
   have HP7:=Hd (hP.out.right hS HPR.out hpl.1 hpl.2)
   clear hpl
   go_wp2_with fail
   refine hq.mono ?_
   rintro e w7 ⟨rfl,h1,h2⟩
   have HS7:=Hd (show StR base g n c p W1 (insertionSort lt d2 (mid+1) B) w7 from ⟨h1.1,h1.2.2,h1.2.1,HS6.out.bt.trans h2⟩)
   clear h1 h2 hq
   go_wp2_with fail
   go_roundw
   case rel=>exact ⟨A,mid,L1,_,fl,_,rfl,rfl,rfl,rfl,rfl,by omega,hL1,HP7.out,HS7.out⟩
   case measure=>simp [intOf];omega
end
section
open Go.Shelf Go.Sort Go.Lib
theorem bit_len:∀ l:Fin 17,12<l.1->l.1<=12+Lib.bitLen l.1∧Lib.bitLen l.1<=100:=by decide
theorem slice16_c (lf:Nat) (lb:Array Value) (lt:Int->Int->Bool) (hS:SWO lt) (p:Int->Prop) (base g n c:Nat) (d:Array Int) (hT:Tot lt d) (w:World) (el:∀ args w,(callFunc lf args).run Tryz.prog w = .ok (.enter lf args) w)
  (hless:qd6 lf lb lt p base g n c w) (hrow:qbn base w d g n c) (hd:d.size=n) (hp:∀ x∈d.toList,p x) (hn:n<=16) (hg:g<w.heap.size) :
  Calls Tryz.prog 246 #[.iface 53 (.slice (some ⟨g,0,none⟩) n c),.func (.func lf) #[] lb] w (qjr base g n c p (insertionSort lt d 0 n) w):=by
 by_cases h12:n<=12
 ·exact slice_c lf lb lt p base g n c d w el hless hrow hd hp h12 hg
 refine qp9 lf lb p base g n c d _ w (fun f B hsw W hX=>?_) hrow hd hn hg
 have hbl:=bit_len ⟨n,by omega⟩ (by show 12<n;omega)
 simp only at hbl
 refine (quick_c lf lb f B lt hS p base g n c (Lib.bitLen n) d _ el (hless.on hX.bt) hsw (hrow.ext qac.good hX) hd hp (by omega) hT (by omega) (by omega) (Nat.lt_of_lt_of_le hg hX.size)).mono ?_
 rintro e w' ⟨d',rfl,h1,h2,h3⟩
 obtain rfl:=one_order hS hT hd h1 h2
 exact ⟨rfl,⟨h3.row,h3.all,h3.size⟩,h3.bt⟩
end
section
open Go.Shelf
theorem qab.get3 {α:Type} {R:Rdr α} {e:TypeId} {base:Nat} {T:Nat->Prop} {w:World} {xs:List α} {g n cap:Nat} (h:qab R 3 e base T w xs (.slice (some ⟨g,0,none⟩) n cap)) (i:Nat) (hi:i<xs.length) :
  ∃ u v z,(w.cell? ⟨g,i*3,none⟩=some u∧w.cell? ⟨g,i*3+1,none⟩=some v∧w.cell? ⟨g,i*3+2,none⟩=some z)∧R (fun b=>T b∧b≠g) w xs[i] [u,v,z]∧w.frozen? ⟨g,i*3,none⟩=false∧w.frozen? ⟨g,i*3+1,none⟩=false∧w.frozen? ⟨g,i*3+2,none⟩=false:=by
 obtain ⟨news,h1,h2⟩:=h
 have hn:n=xs.length:=by
  rcases h1.2 with ⟨h',_⟩ | ⟨g',cap',cur,h',_⟩
  ·simp at h'
  ·simp at h';exact h'.2.1
 subst hn
 rw [qex] at h2
 obtain ⟨c1,h3,h4,h5⟩:=h2.at i hi
 obtain ⟨u,v,z,rfl⟩:∃ u v z,c1=[u,v,z]:=by
  match c1,h3 with
  | [u,v,z],_=>exact ⟨u,v,z,rfl⟩
 have e0:=h5 0 (by decide)
 have e1:=h5 1 (by decide)
 have e2:=h5 2 (by decide)
 refine ⟨u,v,z,⟨?_,?_,?_⟩,h4,h1.frozenAt _,h1.frozenAt _,h1.frozenAt _⟩
 ·rw [h1.cellAt _ (by omega)]
  simpa using e0
 ·rw [h1.cellAt _ (by omega)]
  simpa using e1
 ·rw [h1.cellAt _ (by omega)]
  simpa using e2
theorem qab.put3 {e:TypeId} {base:Nat} {T:Nat->Prop} {w:World} {xs:List Ed} {g n cap:Nat} (h:qab REd 3 e base T w xs (.slice (some ⟨g,0,none⟩) n cap)) (hn:n=xs.length) (i:Nat) (hi:i<xs.length) (x:Ed) (hx:I64 x.f∧I64 x.l∧I64 x.t) :
  qab REd 3 e base T (((w.setCell ⟨g,i*3,none⟩ (.int .i64 x.f)).setCell ⟨g,i*3+1,none⟩ (.int .i64 x.l)).setCell ⟨g,i*3+2,none⟩ (.int .i64 x.t)) (xs.set i x) (.slice (some ⟨g,0,none⟩) n cap):=by
 subst hn
 have h1:=qab.put REd.good h i 0 (.int .i64 x.f) ⟨x.f,xs[i].l,xs[i].t⟩ (by decide) hi fun cs hcs=>by
  obtain ⟨_,q1,q2,rfl⟩:=hcs
  exact ⟨hx.1,q1,q2,rfl⟩
 have hl1:(xs.set i ⟨x.f,xs[i].l,xs[i].t⟩).length=xs.length:=List.length_set
 have h2:=qab.put (xs:=xs.set i ⟨x.f,xs[i].l,xs[i].t⟩) REd.good (by rw [hl1];exact h1) i 1 (.int .i64 x.l) ⟨x.f,x.l,xs[i].t⟩ (by decide) (by rw [hl1];exact hi) fun cs hcs=>by
  obtain ⟨q0,q1,q2,rfl⟩:=hcs
  simp only [List.getElem_set_self] at *
  exact ⟨q0,hx.2.1,q2,rfl⟩
 rw [List.set_set,hl1] at h2
 have hl2:(xs.set i ⟨x.f,x.l,xs[i].t⟩).length=xs.length:=List.length_set
 have h3:=qab.put (xs:=xs.set i ⟨x.f,x.l,xs[i].t⟩) REd.good (by rw [hl2];exact h2) i 2 (.int .i64 x.t) x (by decide) (by rw [hl2];exact hi) fun cs hcs=>by
  obtain ⟨q0,q1,q2,rfl⟩:=hcs
  simp only [List.getElem_set_self] at *
  exact ⟨q0,q1,hx.2.2,rfl⟩
 rw [List.set_set,hl2] at h3
 simpa using h3
theorem qab.cells3 {α:Type} {R:Rdr α} {e:TypeId} {base:Nat} {T:Nat->Prop} {w:World} {xs:List α} {g n cap:Nat} (h:qab R 3 e base T w xs (.slice (some ⟨g,0,none⟩) n cap)) (j:Nat) (hj:j<xs.length*3) :
  (w.cell? ⟨g,j,none⟩).isSome=true∧w.frozen? ⟨g,j,none⟩=false:=by
 obtain ⟨u,v,z,⟨h1,h2,h3⟩,_,f1,f2,f3⟩:=h.get3 (j / 3) (by omega)
 have:j=j / 3*3∨j=j / 3*3+1∨j=j / 3*3+2:=by omega
 rcases this with e | e | e
 ·rw [e];exact ⟨by rw [h1];rfl,f1⟩
 ·rw [e];exact ⟨by rw [h2];rfl,f2⟩
 ·rw [e];exact ⟨by rw [h3];rfl,f3⟩
theorem zero88:∀ w,(zeroValue 88).run Tryz.prog w = .ok (.agg #[.int .i64 0,.int .i64 0,.int .i64 0]) w:=fun _=>by kernel_rfl
theorem qqf (W:World) (x y:Ed):(Op.equalIn 10000 88 (.agg #[.int .i64 x.f,.int .i64 x.l,.int .i64 x.t]) (.agg #[.int .i64 y.f,.int .i64 y.l,.int .i64 y.t])).run Tryz.prog W = .ok (qbp x y) W:=by
 have hS:Tryz.prog.underlying 88=some (.struct (Tryz.prog.fieldsOf 88)):=by kernel_rfl
 have hp:Tryz.prog.stoodInHeld 88=false:=by kernel_rfl
 have u3:=Tryz.underlying3
 rw [show (10000:Nat)=9999+1 from rfl,run_equalIn_agg W 9999 88 _ _ hS hp]
 simp only [Program.fieldsOf,Tryz.underlying88,qbp]
 go_simp
 by_cases h1:x.f=y.f <;> by_cases h2:x.l=y.l <;> by_cases h3:x.t=y.t <;> simp_all
theorem run_eq_ed (W:World) (x y:Ed) (b:Bool) (h:qbp x y=b):(binOp .eql 88 (.agg #[.int .i64 x.f,.int .i64 x.l,.int .i64 x.t]) (.agg #[.int .i64 y.f,.int .i64 y.l,.int .i64 y.t])).run Tryz.prog W = .ok (.bool b) W:=by
 rw [run_eql_struct,qqf,h]
 rfl
theorem run_ne_ed (W:World) (x y:Ed) (b:Bool) (h:qbp x y=b):(binOp .neq 88 (.agg #[.int .i64 x.f,.int .i64 x.l,.int .i64 x.t]) (.agg #[.int .i64 y.f,.int .i64 y.l,.int .i64 y.t])).run Tryz.prog W = .ok (.bool (!b)) W:=by
 rw [run_neq_struct,qqf,h]
 rfl
set_option maxHeartbeats 1000000 in
set_option maxRecDepth 100000 in
theorem qua (base:Nat) (T:Nat->Prop) (l:List Ed) (v:Value) (w:World) (hown:qab REd 3 88 base T w l v) (hlen:l.length<=1000000000) :
  Calls Tryz.prog 249 #[v] w fun e w'=>∃ A c,e = .returned (.slice A (qdp l).length c)∧qab REd 3 88 base T w' (qdp l) (.slice A (qdp l).length c)∧Bt (fun b=>v.ownBlock=some b) w w':=by
 by_cases h2:l.length<2
 ·have hc:Hid (qdp l=l):=by
   show qay qbp l=l
   clear hown
   cases l with
   | nil=>rfl
   | cons x xs =>
    cases xs with
    | nil=>rfl
    | cons y ys=>simp at h2;omega
  obtain ⟨A,c,rfl,_,_⟩:=(hown.sl REd.good (by decide)).val
  have HO:=Hd hown
  clear hown
  go_enter Tryz.func249,Tryz.ntmps249
  go_wp2_with fail
  go_ret
  rw [hc.out]
  exact ⟨A,c,rfl,HO.out,Bt.refl _ _⟩
 obtain ⟨g,cap,rfl⟩:∃ g cap,v = .slice (some ⟨g,0,none⟩) l.length cap:=by
  obtain ⟨news,h1,_⟩:=hown
  exact Joins.ownsRow_form h1 (by omega)
 have hcap:l.length<=cap∧cap<=9223372036854775807:=by
  obtain ⟨A,c,he,h3,h4⟩:=(hown.sl REd.good (by decide)).val
  injection he with _ _ he
  exact ⟨by omega,by omega⟩
 have hZ:(fun b=>(Value.slice (some ⟨g,0,none⟩) l.length cap).ownBlock=some b)=fun b=>b=g:=by funext b;simp [Value.ownBlock,eq_comm]
 rw [hZ]
 have HO:=Hd hown
 clear hown hZ
 go_enter Tryz.func249,Tryz.ntmps249
 go_wp2_with fail
 go_loopw [3] (fun i wr=>∃ k:Nat,1<=k∧k<=l.length∧i = .int .i64 k∧Ext w wr∧Hid (qdp (l.take k)=l.take k)) (fun i _=>l.length-(intOf i).toNat)
 case atStart=>exact ⟨1,Nat.le_refl _,by omega,rfl,Ext.refl _,by
  show _=_
  cases l with
  | nil=>simp at h2
  | cons x xs=>simp [qdp,qay,qcl]⟩
 case round =>
  obtain ⟨k,hk1,hk,rfl,hE,hf⟩:=hrel
  by_cases hlt:k<l.length
  ·have hO:=HO.out.ext REd.good hE
   obtain ⟨u1,u2,u3,⟨a0,a1,a2⟩,r1,_⟩:=hO.get3 k hlt
   obtain ⟨v1,v2,v3,⟨b0,b1,b2⟩,r2,_⟩:=hO.get3 (k-1) (by omega)
   obtain ⟨_,_,_,e1⟩:=r1
   obtain ⟨_,_,_,e2⟩:=r2
   simp only [List.cons.injEq,and_true] at e1 e2
   obtain ⟨rfl,rfl,rfl⟩:=e1
   obtain ⟨rfl,rfl,rfl⟩:=e2
   have hq:=fun W b (hh:qbp l[k] l[k-1]=b)=>run_eq_ed W l[k] l[k-1] b hh
   obtain ⟨x,hx⟩:∃ x,l[k]=x:=⟨_,rfl⟩
   obtain ⟨y,hy⟩:∃ y,l[k-1]=y:=⟨_,rfl⟩
   have hst:=qil qbp l k hk1 hlt
   have hk0:(0:Int)<=(k:Int)-1:=by omega
   have hk2:((k:Int)-1).toNat=k-1:=by omega
   have hk3:(k:Int)-1<(l.length:Int):=by omega
   have HOr:=Hd hO
   by_cases he:qbp l[k] l[k-1]=true
   ·rw [if_pos he] at hst
    have HST:=Hd hst
    rw [hx,hy] at he
    rw [hx] at a0 a1 a2
    rw [hy] at b0 b1 b2
    rw [hx,hy] at hq
    have hq2:=fun W=>hq W true he
    clear hst hO he hx hy hq
    go_wp2_with fail
    (refine qa1 ?_;(repeat (first | go_big_quiet_step (fail) | quiet_step (fail)));refine wpQuiet_nil ?_)
    intro w2 hx2
    have hO2:=Hd (HOr.out.ext REd.good hx2)
    have hX2:=hE.trans' hx2
    clear hx2 HOr a0 a1 a2 b0 b1 b2 hq2
    go_wp2_with fail
    go_loopw [3,5] (fun vi v2 wr'=>∃ d i:Nat,1<=d∧k+d<=l.length∧vi = .int .i64 (i:Nat)∧v2 = .int .i64 (d:Nat)∧i<k+d∧Hid ((qay qbp (l.take (k+d))).length=i∧qab REd 3 88 base T wr' (qbu qbp l (k+d)) (.slice (some ⟨g,0,none⟩) l.length cap))∧Bt (fun b=>b=g) w wr') (fun _ v2 _=>l.length-k-(intOf v2).toNat)
    case atStart =>
     have hk':qay qbp (l.take k)=l.take k:=hf.out
     have hY:qbu qbp l (k+1)=l:=by rw [qbu,HST.out,hk',List.length_take,Nat.min_eq_left hk,List.take_append_drop]
     refine ⟨1,k,Nat.le_refl _,by omega,rfl,rfl,by omega,⟨by rw [HST.out,hk',List.length_take,Nat.min_eq_left hk],by rw [hY];exact hO2.out⟩,hX2.bt⟩
    case round =>
     obtain ⟨d,i,hd1,hd,rfl,rfl,hi,hR,hB⟩:=hrel
     by_cases hlt2:k+d<l.length
     ·have hlt3:k+(d-1)<l.length:=by omega
      have hle3:1<=k+d:=by omega
      have hlt4:i<l.length:=by omega
      obtain ⟨hci,hO3⟩:=hR.out
      obtain ⟨u1,u2,u3,⟨a0,a1,a2⟩,r1,_⟩:=hO3.get3 (k+d) (by rw [qb0];exact hlt2)
      obtain ⟨v1,v2,v3,⟨b0,b1,b2⟩,r2,_⟩:=hO3.get3 (k+(d-1)) (by rw [qb0];omega)
      rw [Nat.add_mul] at a0 a1 a2 b0 b1 b2
      rw [qg9 qbp l (k+d) (k+d) (by omega) hlt2] at r1
      rw [qg9 qbp l (k+d) (k+(d-1)) (by omega) hlt3] at r2
      have hix:qbp l[k+d] l[k+(d-1)]=qbp l[k+d] (l[k+d-1]'(by omega)):=by
       have hx:k+(d-1)=k+d-1:=by omega
       simp only [hx]
      have hsm:=fun h=>qj6 qbp l (k+d) hle3 hlt2 h
      have hpt:=fun h=>qkc qbp l (k+d) hle3 hlt2 h (by rw [hci];exact hlt4)
      rw [<- hix] at hsm hpt
      obtain ⟨i1,i2,i3,e1⟩:=r1
      obtain ⟨_,_,_,e2⟩:=r2
      simp only [List.cons.injEq,and_true] at e1 e2
      obtain ⟨rfl,rfl,rfl⟩:=e1
      obtain ⟨rfl,rfl,rfl⟩:=e2
      have hq:=fun W b (hh:qbp l[k+d] l[k+(d-1)]=b)=>run_ne_ed W l[k+d] l[k+(d-1)] b hh
      obtain ⟨x,hx⟩:∃ x,l[k+d]=x:=⟨_,rfl⟩
      obtain ⟨y,hy⟩:∃ y,l[k+(d-1)]=y:=⟨_,rfl⟩
      have hd0:(0:Int)<=(d:Int)-1:=by omega
      have hd2:((d:Int)-1).toNat=d-1:=by omega
      by_cases he2:qbp l[k+d] l[k+(d-1)]=true
      ·have hsame:=Hd (hsm he2)
       have HO3:=Hd hO3
       have HCI:=Hd hci
       rw [hx,hy] at he2
       rw [hx] at a0 a1 a2 i1 i2 i3
       rw [hy] at b0 b1 b2
       rw [hx,hy] at hq
       have hq2:=fun W=>hq W true he2
       clear hO3 hsm hpt hix hci hR he2 hx hy hq
       go_wp2_with fail
       (refine qa1 ?_;(repeat (first | go_big_quiet_step (fail) | quiet_step (fail)));refine wpQuiet_nil ?_)
       intro w5 hx5
       go_wp2_with fail
       go_roundw
       case rel =>
        refine ⟨d+1,i,by omega,by omega,rfl,by go_num,by omega,⟨?_,?_⟩,hB.ext hx5⟩
        ·rw [show k+(d+1)=k+d+1 from by omega,hsame.out.2];exact HCI.out
        ·rw [show k+(d+1)=k+d+1 from by omega,hsame.out.1];exact HO3.out.ext REd.good hx5
       case measure=>simp [intOf];omega
      ·have hput:=Hd (hpt (eq_false_of_ne_true he2))
       obtain ⟨u6,u7,u8,⟨d6,d7,d8⟩,_,f6,f7,f8⟩:=hO3.get3 i (by rw [qb0];omega)
       have HO3:=Hd hO3
       have HCI:=Hd hci
       rw [hx,hy] at he2
       rw [hx] at a0 a1 a2 i1 i2 i3
       rw [hy] at b0 b1 b2
       rw [hx,hy] at hq
       have hq2:=fun W=>hq W false (eq_false_of_ne_true he2)
       have HXE:=Hd hx
       clear hO3 hsm hpt hix hci hR he2 hx hy hq
       go_wp2_with fail
       (refine qa1 ?_;(repeat (first | go_big_quiet_step (fail) | quiet_step (fail)));refine wpQuiet_nil ?_)
       intro w5 hx5
       have a6:=Ext.keep hx5 a0
       have a7:=Ext.keep hx5 a1
       have a8:=Ext.keep hx5 a2
       have g6:=qc6 hx5 (World.block_lt_of_cell? _ _ d6) f6
       have g7:=qc6 hx5 (World.block_lt_of_cell? _ _ d7) f7
       have g8:=qc6 hx5 (World.block_lt_of_cell? _ _ d8) f8
       have d6':=Ext.keep hx5 d6
       have d7':=Ext.keep hx5 d7
       have d8':=Ext.keep hx5 d8
       clear a0 a1 a2 b0 b1 b2 d6 d7 d8 f6 f7 f8 hq2
       go_wp2_with fail
       go_roundw
       case rel =>
        have hput2:=qab.put3 (HO3.out.ext REd.good hx5) (by rw [qb0]) i (by rw [qb0];omega) x ⟨i1,i2,i3⟩
        refine ⟨d+1,i+1,by omega,by omega,by go_num,by go_num,by omega,⟨?_,?_⟩,Bt.set (Z:=fun b=>b=g) (p:=⟨g,i*3+2,none⟩) (Bt.set (Z:=fun b=>b=g) (p:=⟨g,i*3+1,none⟩) (Bt.set (Z:=fun b=>b=g) (p:=⟨g,i*3,none⟩) (hB.ext hx5) (.inr rfl) _) (.inr rfl) _) (.inr rfl) _⟩
        ·rw [show k+(d+1)=k+d+1 from by omega,hput.out.2,List.length_append,HCI.out];rfl
        ·rw [show k+(d+1)=k+d+1 from by omega,hput.out.1,HCI.out,HXE.out];exact hput2
       case measure=>simp [intOf];omega
     ·obtain ⟨hci,hO3⟩:=hR.out
      have hkd:k+d=l.length:=by omega
      rw [hkd,List.take_length] at hci
      rw [hkd] at hO3
      have hi3:i<l.length:=by omega
      obtain ⟨zs,hcl⟩:=qoj wr 23 88 0 (.agg #[.int .i64 0,.int .i64 0,.int .i64 0]) 3 Tryz.underlying23 zero88 rfl (by decide) (by decide) g (i*3) (l.length-i) (cap-i) (by omega) (fun j hj=>hO3.cells3 (i*3+j) (by rw [qb0];omega))
      have hcut:=Hd (hO3.cut REd.good (by rw [qb0]) i (by omega) zs (i*3) (by omega))
      have hres:Hid (qdp l=(qbu qbp l l.length).take i):=by
       show qay qbp l=_
       rw [qbu,List.take_length,List.take_append_of_le_length (by omega),<- hci,List.take_length]
      have HCI:=Hd hci
      clear hO3 hci hR
      go_wp2_with fail
      go_ret
      have hln:(qdp l).length=i:=HCI.out
      refine ⟨some ⟨g,0,none⟩,cap,by rw [hln];rfl,?_,hB.trans hcut.out.2⟩
      rw [hln,hres.out]
      exact hcut.out.1
   ·rw [if_neg he] at hst
    have HST:=Hd hst
    rw [hx,hy] at he
    rw [hx] at a0 a1 a2
    rw [hy] at b0 b1 b2
    rw [hx,hy] at hq
    have hq2:=fun W=>hq W false (eq_false_of_ne_true he)
    clear hst hO he hx hy HOr hq
    go_wp2_with fail
    (refine qa1 ?_;(repeat (first | go_big_quiet_step (fail) | quiet_step (fail)));refine wpQuiet_nil ?_)
    intro w2 hx2
    go_wp2_with fail
    go_roundw
    case rel =>
     refine ⟨k+1,by omega,by omega,by go_num,bel,?_⟩
     show qay qbp _=_
     rw [HST.out,show qay qbp (l.take k)=l.take k from hf.out,List.take_succ_eq_append_getElem hlt]
    case measure=>simp [intOf];omega
  ·have hkk:Hid (qdp l=l):=by
    show _=_
    have:=hf.out
    rwa [List.take_of_length_le (by omega)] at this
   go_wp2_with fail
   go_ret
   rw [hkk.out]
   exact ⟨some ⟨g,0,none⟩,cap,rfl,HO.out.ext REd.good hE,hE.bt⟩
theorem compOK {l:List Ed} (h:l.length<=1000000000):qla l:=fun base v w ho=>(qua base (fun _=>False) l v w ho h).mono fun e w' ⟨A,c,he,h1,h2⟩=>⟨_,he,h1,h2⟩
end
section
open Go.Sort
theorem swo_ix (ls:List Lb):SWO (ltIx ls) where
 irrefl x:=decide_eq_false (by have:=qbr.refl (qa4 ls x);omega)
 trans x y z h1 h2:=decide_eq_true (qbr.trans _ _ _ (of_decide_eq_true h1) (of_decide_eq_true h2))
 ntrans x y z h1 h2:=by
  have a1:=of_decide_eq_false h1
  have a2:=of_decide_eq_false h2
  refine decide_eq_false fun h=>?_
  by_cases e1:qan (qa4 ls x) (qa4 ls y)=0
  ·rw [qbr.eq _ _ e1] at h
   exact a2 h
  ·by_cases e2:qan (qa4 ls y) (qa4 ls z)=0
   ·rw [<- qbr.eq _ _ e2] at h
    exact a1 h
   ·have b1:qan (qa4 ls y) (qa4 ls x)<0:=(qbr.sgn _ _).2 (by omega)
    have b2:qan (qa4 ls z) (qa4 ls y)<0:=(qbr.sgn _ _).2 (by omega)
    have b3:=qbr.trans _ _ _ b2 b1
    have:=(qbr.sgn _ _).1 h
    omega
theorem qnm (n:Nat):qcx n n=(List.range n).map fun i:Nat=>(i:Int):=by
 unfold qcx
 refine List.map_congr_left fun i hi=>?_
 rw [if_pos (List.mem_range.1 hi)]
theorem tot_ix {ls:List Lb} (h:ls.Nodup):Tot (ltIx ls) (qcx ls.length ls.length).toArray:=by
 refine ⟨?_,fun x hx y hy hne hlt=>?_⟩
 ·rw [qnm]
  exact List.Pairwise.map (S:=(· ≠ ·)) (fun i:Nat=>(i:Int)) (fun a b hne e=>hne (by omega)) List.nodup_range
 ·obtain ⟨hx0,hx1⟩:=qke _ x hx
  obtain ⟨hy0,hy1⟩:=qke _ y hy
  have h1:=of_decide_eq_false hlt
  refine decide_eq_true ((qbr.sgn _ _).2 ?_)
  have hz:qan (qa4 ls x) (qa4 ls y)≠0:=fun e=>by
   have e:=qbr.eq _ _ e
   obtain ⟨i,rfl⟩:∃ i:Nat,x=i:=⟨x.toNat,by omega⟩
   obtain ⟨j,rfl⟩:∃ j:Nat,y=j:=⟨y.toNat,by omega⟩
   rw [qea ls i (by omega),qea ls j (by omega)] at e
   rcases Nat.lt_trichotomy i j with hij | hij | hij
   ·exact List.pairwise_iff_getElem.1 h i j (by omega) (by omega) hij e
   ·omega
   ·exact List.pairwise_iff_getElem.1 h j i (by omega) (by omega) hij e.symm
  omega
theorem sortOK16 {ls:List Lb} (h:ls.length<=16) (hn:ls.Nodup):qkr ls:=fun lb base g w hl hr hg =>
 slice16_c 247 lb (ltIx ls) (swo_ix ls) (fun x=>0<=x∧x<ls.length) base g ls.length ls.length (qcx ls.length ls.length).toArray (tot_ix hn) w eg247 hl hr (by rw [List.size_toArray,qhb]) (qke _) h hg
theorem qvc {ls:List Lb} (h:ls.Nodup) (x:Lb):(qbm ls x).Nodup:=by
 unfold qbm
 split
 ·exact h
 ·rename_i hx
  rw [List.nodup_append]
  exact ⟨h,by simp,fun a ha b hb e=>hx (by rw [List.mem_singleton] at hb;subst hb;subst e;exact ha)⟩
theorem qmd:∀ (rs:List Ar) (ls:List Lb) (es:List Ed),ls.Nodup->(qao rs ls es).1.Nodup
 | [],_,_,h=>h
 | a :: rs,ls,es,h=>qmd rs _ _ (qvc h a.l)
theorem qm9:∀ (rs:List Ar) (ls:List Lb) (es:List Ed) (x:Lb),x∈(qao rs ls es).1↔x∈ls∨∃ a∈rs,a.l=x
 | [],ls,_,x=>by simp [qao]
 | a :: rs,ls,es,x=>by
  rw [qao,qm9 rs]
  have:x∈qbm ls a.l↔x∈ls∨a.l=x:=by
   unfold qbm
   split
   ·rename_i h
    exact ⟨.inl,fun h'=>h'.elim id fun e=>e ▸ h⟩
   ·rw [List.mem_append,List.mem_singleton,eq_comm (a:=x)]
  rw [this]
  simp [or_assoc]
theorem len_le {α:Type} [DecidableEq α]:∀ (l m:List α),l.Nodup->(∀ x∈l,x∈m)->l.length<=m.length
 | [],_,_,_=>Nat.zero_le _
 | x :: l,m,h,hs=>by
  have hx:=hs x (by simp)
  rw [List.nodup_cons] at h
  have:=len_le l (m.erase x) h.2 fun y hy=>by
   have hne:y≠x:=fun e=>h.1 (e ▸ hy)
   exact (List.mem_erase_of_ne hne).2 (hs y (by simp [hy]))
  rw [List.length_erase_of_mem hx] at this
  have h0:0<m.length:=List.length_pos_of_mem hx
  simp only [List.length_cons]
  omega
end
end Go.Proofs.YtegenalcheooeaaGreat
