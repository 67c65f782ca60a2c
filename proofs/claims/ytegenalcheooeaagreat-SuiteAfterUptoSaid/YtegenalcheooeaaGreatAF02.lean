/- Of the proof of a law of the suites: LCompL, LCompI. -/
import Derived.Test.YtegenalcheooeaaGreatB06
import Derived.Test.YtegenalcheooeaaGreatB10
import Derived.Test.YtegenalcheooeaaGreatB13
set_option linter.unusedSectionVars false
set_option linter.unusedSimpArgs false
set_option linter.unusedVariables false
namespace Go.Proofs.YtegenalcheooeaaGreat
open Go.RowKit
attribute [local go_sem] cell?_exto
section
open Go.Shelf
theorem qnd (w:World) (t e ty:TypeId) (z:Value) (k:Nat) (ht:Tryz.prog.underlying t=some (.slice e)) (hv:∀ w,(zeroValue e).run Tryz.prog w = .ok z w) (hzk:z.cells.size=k) (hk:0<k) (h1:∀ v∈z.cells.toList,v.oneCell'=true) (b o n c:Nat) (hn:0<n)
  (hc:∀ j,j<n*k->(w.cell? ⟨b,o+j,none⟩).isSome=true∧w.frozen? ⟨b,o+j,none⟩=false) :
  ∃ vs,(Builtin.clear_ #[t] ty #[.slice (some ⟨b,o,none⟩) n c]).run Tryz.prog w = .ok (.tuple #[]) (w.setCells b o vs):=by
 have hlen:(Builtin.zeroCells z.cells n).toList.length=n*k:=by simp [Builtin.zeroCells,hzk]
 have hall:∀ v∈(Builtin.zeroCells z.cells n).toList,v.oneCell'=true:=fun v hv=>by
  simp only [Builtin.zeroCells,Array.toList_map,List.mem_map] at hv
  obtain ⟨i,_,rfl⟩:=hv
  have hlt:i % z.cells.size<z.cells.size:=Nat.mod_lt _ (by omega)
  rw [getElem!_pos z.cells _ hlt]
  exact h1 _ (by simp)
 have hst:=run_storeCells_cells (P:=Tryz.prog) b o (Builtin.zeroCells z.cells n).toList 0 w (by rw [hlen];simpa using fun j hj=>(hc j hj).1) (by rw [hlen];simpa using fun j hj=>(hc j hj).2) hall
 simp only [Nat.add_zero] at hst
 obtain ⟨m,rfl⟩:∃ m,n=m+1:=⟨n-1,by omega⟩
 exact ⟨(Builtin.zeroCells z.cells (m+1)).toList,by simp [Builtin.clear_,run_underlying ht,hv,hst]⟩
end
section
open Go.Shelf
theorem qab.cells1 {α:Type} {R:Rdr α} {e:TypeId} {base:Nat} {T:Nat->Prop} {w:World} {xs:List α} {g n cap:Nat} (h:qab R 1 e base T w xs (.slice (some ⟨g,0,none⟩) n cap)) (j:Nat) (hj:j<xs.length*1) :
  (w.cell? ⟨g,j,none⟩).isSome=true∧w.frozen? ⟨g,j,none⟩=false:=by
 obtain ⟨u,h1,_,f1⟩:=h.get1 j (by omega)
 exact ⟨by rw [h1];rfl,f1⟩
theorem zero3:∀ w,(zeroValue 3).run Tryz.prog w = .ok (.int .i64 0) w:=fun _=>by kernel_rfl
def eqI (a b:Int):Bool:=decide (a=b)
def qet (l:List Int):List Int:=qaw eqI l
set_option maxHeartbeats 1000000 in
set_option maxRecDepth 100000 in
theorem qul (base:Nat) (T:Nat->Prop) (l:List Int) (v:Value) (w:World) (hown:qab qac 1 3 base T w l v) (hlen:l.length<=1000000000) :
  Calls Tryz.prog 60 #[v] w fun e w'=>∃ A c,e = .returned (.slice A (qet l).length c)∧qab qac 1 3 base T w' (qet l) (.slice A (qet l).length c)∧Bt (fun b=>v.ownBlock=some b) w w':=by
 by_cases h2:l.length<2
 ·have hc:Hid (qet l=l):=by
   show qaw eqI l=l
   clear hown
   cases l with
   | nil=>rfl
   | cons x xs =>
    cases xs with
    | nil=>rfl
    | cons y ys=>simp at h2;omega
  obtain ⟨A,c,rfl,_,_⟩:=(hown.sl qac.good (by decide)).val
  have HO:=Hd hown
  clear hown
  go_enter Tryz.func60,Tryz.ntmps60
  go_wp2_with fail
  go_ret
  rw [hc.out]
  exact ⟨A,c,rfl,HO.out,Bt.refl _ _⟩
 obtain ⟨g,cap,rfl⟩:∃ g cap,v = .slice (some ⟨g,0,none⟩) l.length cap:=by
  obtain ⟨news,h1,_⟩:=hown
  exact Joins.ownsRow_form h1 (by omega)
 have hcap:l.length<=cap∧cap<=9223372036854775807:=by
  obtain ⟨A,c,he,h3,h4⟩:=(hown.sl qac.good (by decide)).val
  injection he with _ _ he
  exact ⟨by omega,by omega⟩
 have hZ:(fun b=>(Value.slice (some ⟨g,0,none⟩) l.length cap).ownBlock=some b)=fun b=>b=g:=by funext b;simp [Value.ownBlock,eq_comm]
 rw [hZ]
 have HO:=Hd hown
 clear hown hZ
 go_enter Tryz.func60,Tryz.ntmps60
 go_wp2_with fail
 go_loopw [3] (fun i wr=>∃ k:Nat,1<=k∧k<=l.length∧i = .int .i64 k∧Ext w wr∧Hid (qet (l.take k)=l.take k)) (fun i _=>l.length-(intOf i).toNat)
 case atStart=>exact ⟨1,Nat.le_refl _,by omega,rfl,Ext.refl _,by
  show _=_
  cases l with
  | nil=>simp at h2
  | cons x xs=>simp [qet,qaw,qcg]⟩
 case round =>
  obtain ⟨k,hk1,hk,rfl,hE,hf⟩:=hrel
  by_cases hlt:k<l.length
  ·have hO:=HO.out.ext qac.good hE
   obtain ⟨u1,a1,⟨e1,_⟩,_⟩:=hO.get1 k hlt
   obtain ⟨u2,a2,⟨e2,_⟩,_⟩:=hO.get1 (k-1) (by omega)
   injection e1 with e1
   injection e2 with e2
   subst e1 e2
   have hst:=qh3 eqI l k hk1 hlt
   have hk0:(0:Int)<=(k:Int)-1:=by omega
   have hk2:((k:Int)-1).toNat=k-1:=by omega
   have hk3:(k:Int)-1<(l.length:Int):=by omega
   have HOr:=Hd hO
   by_cases he:eqI l[k] l[k-1]=true
   ·rw [if_pos he] at hst
    have HST:=Hd hst
    have he':l[k]=l[k-1]:=of_decide_eq_true he
    obtain ⟨x,hx⟩:∃ x,l[k]=x:=⟨_,rfl⟩
    rw [<- he',hx] at a2
    rw [hx] at a1
    clear hst hO he he' hx
    go_wp2_with fail
    (refine qay ?_;(repeat (first | go_big_quiet_step (fail) | quiet_step (fail)));refine wpQuiet_nil ?_)
    intro w2 hx2
    have hO2:=Hd (HOr.out.ext qac.good hx2)
    have hX2:=hE.trans' hx2
    clear hx2 HOr a1 a2
    go_wp2_with fail
    go_loopw [3,5] (fun vi v2 wr'=>∃ d i:Nat,1<=d∧k+d<=l.length∧vi = .int .i64 (i:Nat)∧v2 = .int .i64 (d:Nat)∧i<k+d∧Hid ((qaw eqI (l.take (k+d))).length=i∧qab qac 1 3 base T wr' (qbp eqI l (k+d)) (.slice (some ⟨g,0,none⟩) l.length cap))∧Bt (fun b=>b=g) w wr') (fun _ v2 _=>l.length-k-(intOf v2).toNat)
    case atStart =>
     have hk':qaw eqI (l.take k)=l.take k:=hf.out
     have hY:qbp eqI l (k+1)=l:=by rw [qbp,HST.out,hk',List.length_take,Nat.min_eq_left hk,List.take_append_drop]
     refine ⟨1,k,Nat.le_refl _,by omega,rfl,rfl,by omega,⟨by rw [HST.out,hk',List.length_take,Nat.min_eq_left hk],by rw [hY];exact hO2.out⟩,hX2.bt⟩
    case round =>
     obtain ⟨d,i,hd1,hd,rfl,rfl,hi,hR,hB⟩:=hrel
     by_cases hlt2:k+d<l.length
     ·have hlt3:k+(d-1)<l.length:=by omega
      have hle3:1<=k+d:=by omega
      have hlt4:i<l.length:=by omega
      obtain ⟨hci,hO3⟩:=hR.out
      obtain ⟨u1,a1,r1,_⟩:=hO3.get1 (k+d) (by rw [qbx];exact hlt2)
      obtain ⟨u2,a2,r2,_⟩:=hO3.get1 (k+(d-1)) (by rw [qbx];omega)
      rw [qgq eqI l (k+d) (k+d) (by omega) hlt2] at r1
      rw [qgq eqI l (k+d) (k+(d-1)) (by omega) hlt3] at r2
      have hix:eqI l[k+d] l[k+(d-1)]=eqI l[k+d] (l[k+d-1]'(by omega)):=by
       have hx:k+(d-1)=k+d-1:=by omega
       simp only [hx]
      have hsm:=fun h=>qj7 eqI l (k+d) hle3 hlt2 h
      have hpt:=fun h=>qkd eqI l (k+d) hle3 hlt2 h (by rw [hci];exact hlt4)
      rw [<- hix] at hsm hpt
      obtain ⟨e1,j1⟩:=r1
      obtain ⟨e2,j2⟩:=r2
      injection e1 with e1
      injection e2 with e2
      subst e1 e2
      have hd0:(0:Int)<=(d:Int)-1:=by omega
      have hd2:((d:Int)-1).toNat=d-1:=by omega
      by_cases he2:eqI l[k+d] l[k+(d-1)]=true
      ·have hsame:=Hd (hsm he2)
       have HO3:=Hd hO3
       have HCI:=Hd hci
       have he':l[k+d]=l[k+(d-1)]:=of_decide_eq_true he2
       obtain ⟨x,hx⟩:∃ x,l[k+d]=x:=⟨_,rfl⟩
       rw [<- he',hx] at a2
       rw [hx] at a1
       clear hO3 hsm hpt hix hci hR he2 he' hx j1 j2
       go_wp2_with fail
       (refine qay ?_;(repeat (first | go_big_quiet_step (fail) | quiet_step (fail)));refine wpQuiet_nil ?_)
       intro w5 hx5
       go_wp2_with fail
       go_roundw
       case rel =>
        refine ⟨d+1,i,by omega,by omega,rfl,by go_num,by omega,⟨?_,?_⟩,hB.ext hx5⟩
        ·rw [show k+(d+1)=k+d+1 from by omega,hsame.out.2];exact HCI.out
        ·rw [show k+(d+1)=k+d+1 from by omega,hsame.out.1];exact HO3.out.ext qac.good hx5
       case measure=>simp [intOf];omega
      ·have hput:=Hd (hpt (eq_false_of_ne_true he2))
       obtain ⟨u6,b6,_,f6⟩:=hO3.get1 i (by rw [qbx];omega)
       have HO3:=Hd hO3
       have HCI:=Hd hci
       have he':¬ l[k+d]=l[k+(d-1)]:=fun h=>he2 (decide_eq_true h)
       obtain ⟨x,hx⟩:∃ x,l[k+d]=x:=⟨_,rfl⟩
       obtain ⟨y,hy⟩:∃ y,l[k+(d-1)]=y:=⟨_,rfl⟩
       rw [hx,hy] at he'
       rw [hx] at a1 j1
       rw [hy] at a2
       have hxy:(x == y)=false:=beq_eq_false_iff_ne.2 he'
       have hxy2:(x != y)=true:=by rw [bne,hxy];rfl
       have HXE:=Hd hx
       clear hO3 hsm hpt hix hci hR he2 hx hy
       go_wp2_with fail
       (refine qay ?_;(repeat (first | go_big_quiet_step (fail) | quiet_step (fail)));refine wpQuiet_nil ?_)
       intro w5 hx5
       have a5:=Ext.keep hx5 a1
       have b5:=Ext.keep hx5 b6
       have f5:=qc4 hx5 (World.block_lt_of_cell? _ _ b6) f6
       clear a1 a2 b6 f6
       go_wp2_with fail
       go_roundw
       case rel =>
        have hput2:=qab.put1 qac.good (HO3.out.ext qac.good hx5) (by rw [qbx]) i (.int .i64 x) x (by rw [qbx];omega) ⟨rfl,j1⟩
        refine ⟨d+1,i+1,by omega,by omega,by go_num,by go_num,by omega,⟨?_,?_⟩,Bt.set (Z:=fun b=>b=g) (p:=⟨g,i,none⟩) (hB.ext hx5) (.inr rfl) _⟩
        ·rw [show k+(d+1)=k+d+1 from by omega,hput.out.2,List.length_append,HCI.out];rfl
        ·rw [show k+(d+1)=k+d+1 from by omega,hput.out.1,HCI.out,HXE.out];exact hput2
       case measure=>simp [intOf];omega
     ·obtain ⟨hci,hO3⟩:=hR.out
      have hkd:k+d=l.length:=by omega
      rw [hkd,List.take_length] at hci
      rw [hkd] at hO3
      have hi3:i<l.length:=by omega
      obtain ⟨zs,hcl⟩:=qnd wr 53 3 0 (.int .i64 0) 1 Tryz.underlying53 zero3 rfl (by decide) (by decide) g i (l.length-i) (cap-i) (by omega) (fun j hj=>hO3.cells1 (i+j) (by rw [qbx];omega))
      have hcut:=Hd (hO3.cut qac.good (by rw [qbx]) i (by omega) zs i (by omega))
      have hres:Hid (qet l=(qbp eqI l l.length).take i):=by
       show qaw eqI l=_
       rw [qbp,List.take_length,List.take_append_of_le_length (by omega),<- hci,List.take_length]
      have HCI:=Hd hci
      clear hO3 hci hR
      go_wp2_with fail
      go_ret
      have hln:(qet l).length=i:=HCI.out
      refine ⟨some ⟨g,0,none⟩,cap,by rw [hln];rfl,?_,hB.trans hcut.out.2⟩
      rw [hln,hres.out]
      exact hcut.out.1
   ·rw [if_neg he] at hst
    have HST:=Hd hst
    have he':¬ l[k]=l[k-1]:=fun h=>he (decide_eq_true h)
    obtain ⟨x,hx⟩:∃ x,l[k]=x:=⟨_,rfl⟩
    obtain ⟨y,hy⟩:∃ y,l[k-1]=y:=⟨_,rfl⟩
    rw [hx,hy] at he'
    rw [hx] at a1
    rw [hy] at a2
    have hxy:(x == y)=false:=beq_eq_false_iff_ne.2 he'
    have HXE:=Hd hx
    clear hst hO he hx hy HOr
    go_wp2_with fail
    (refine qay ?_;(repeat (first | go_big_quiet_step (fail) | quiet_step (fail)));refine wpQuiet_nil ?_)
    intro w2 hx2
    go_wp2_with fail
    go_roundw
    case rel =>
     refine ⟨k+1,by omega,by omega,by go_num,bel,?_⟩
     show qaw eqI _=_
     rw [HST.out,show qaw eqI (l.take k)=l.take k from hf.out,List.take_succ_eq_append_getElem hlt]
    case measure=>simp [intOf];omega
  ·have hkk:Hid (qet l=l):=by
    show _=_
    have:=hf.out
    rwa [List.take_of_length_le (by omega)] at this
   go_wp2_with fail
   go_ret
   rw [hkk.out]
   exact ⟨some ⟨g,0,none⟩,cap,rfl,HO.out.ext qac.good hE,hE.bt⟩
end
end Go.Proofs.YtegenalcheooeaaGreat
