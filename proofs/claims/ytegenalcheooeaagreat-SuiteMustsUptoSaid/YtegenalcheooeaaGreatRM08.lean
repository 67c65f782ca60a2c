/- Of the proof of a law of the suites: RWith, RInsert, RLeast. -/
import Derived.Test.YtegenalcheooeaaGreatRM07
set_option linter.unusedSectionVars false
set_option linter.unusedSimpArgs false
set_option linter.unusedVariables false
namespace Go.Proofs.YtegenalcheooeaaGreat
open Go.RowKit
attribute [local go_sem] cell?_exto
section
open Go.Shelf
def IntRow (base:Nat) (r:List Int) (w:World) (e:Ending) (w':World):Prop:=∃ A c,e = .returned (.slice A r.length c)∧qab qac 1 3 base (fun _=>False) w' r (.slice A r.length c)∧Ext w w'
set_option maxHeartbeats 8000000 in
set_option maxRecDepth 100000 in
theorem with_c (S:Nat→Prop) (a:List Int) (x:Int) (va:Value) (w:World) (ha:RIs S w a [va]) (hx:I64 x) (hl:a.length≤100000) :
  Calls Tryz.prog 158 #[va,.int .i64 x] w (IntRow w.heap.size (qbf a x) w):=by
 obtain ⟨A,c,rfl,hc,hc0⟩:=ha.val
 have HA:=Hd ha
 have hwl:=qqx x a
 have HX:=Hd hx
 clear ha hx
 go_enter Tryz.func158,Tryz.ntmps158
 go_wp2_with fail
 go_loopw [5,6,7] (fun v5 vd vi wr=>∃ (k:Nat) (ys:List Int) (Ao:Option Addr) (co:Nat) (d:Bool),k≤a.length∧vi = .int .i64 k∧vd = .bool d∧v5 = .slice Ao ys.length co∧ys.length≤k+d.toNat∧Ext w wr∧Hid (qab qac 1 3 w.heap.size (fun _=>False) wr ys (.slice Ao ys.length co))∧Hid (qbf a x=ys++if d then a.drop k else qbf (a.drop k) x)) (fun _ _ vi _=>a.length-(intOf vi).toNat)
 case atStart=>exact ⟨0,[],none,0,false,Nat.zero_le _,rfl,rfl,rfl,by simp,Ext.refl _,qab.nil ..,(rfl:qbf a x=[]++if false then a.drop 0 else qbf (a.drop 0) x)⟩
 case round =>
  obtain ⟨k,ys,Ao,co,d,hk,rfl,rfl,rfl,hyl,hE,hO,hv⟩:=hrel
  have z1:(0:Int)≤(k:Int):=by omega
  have hyl1:ys.length≤k+1:=by have:=Bool.toNat_le d;omega
  have hlo:∀ q,(Value.slice Ao ys.length co).ownBlock=some q→w.heap.size≤q:=fun q e=>(hO.out.own_lt e).1
  by_cases hlt:k<a.length
  ·obtain ⟨b1,o1,c1,rfl,hb0,_,_,hr1,hcell1⟩:=HA.out.get k hlt
   have hi64:=hr1.2
   obtain rfl:=hr1.1
   have gw:=(by simpa using hcell1.get 0 _:w.cell? ⟨b1,o1+k,none⟩=some (.int .i64 a[k]))
   have hb1:b1<wr.heap.size:=Nat.lt_of_lt_of_le hb0 hE.size
   have hdr:=List.drop_eq_getElem_cons hlt
   have hk1:k+1≤a.length:=hlt
   have z2:(k:Int)<(a.length:Int):=by omega
   obtain ⟨y,hy⟩:∃ y,a[k]=y:=⟨_,rfl⟩
   rw [hy] at gw hdr hi64
   have g1:=Ext.keep hE gw
   have GW:=Hd gw
   have hvo:=hv.out
   rw [hdr] at hvo
   clear hr1 hcell1 hy hdr hv gw hb0
   obtain ⟨g2,c2,w2,hr2,ho2,hb3,_,_⟩:=qcy qac.good (by decide) w.heap.size 3 53 (.int .i64 0) 8 Tryz.underlying53 qhk rfl (by decide) (fun _=>False) wr ys (.slice Ao ys.length co) y [.int .i64 y] hO.out ⟨rfl,hi64⟩ hE.size (by omega)
   have HO2:=Hd ho2
   have HB2:Hid (Ext w w2):=Bt.new hE hb3 fun q _ h=>hlo q h
   cases d
   ·by_cases hgt:x<y
    ·have HV:Hid (qbf a x=(ys++[x]++[y])++if true then a.drop (k+1) else qbf (a.drop (k+1)) x):=by
      show _=_
      rw [hvo]
      simp [qbf,hgt]
     clear hr2 ho2 HO2 HB2 hb3 hvo
     obtain ⟨g2,c2,w2,hr2,ho2,hb3,_,_⟩:=qcy qac.good (by decide) w.heap.size 3 53 (.int .i64 0) 8 Tryz.underlying53 qhk rfl (by decide) (fun _=>False) wr ys (.slice Ao ys.length co) x [.int .i64 x] hO.out ⟨rfl,HX.out⟩ hE.size (by omega)
     have hE2:Ext w w2:=Bt.new hE hb3 fun q _ h=>hlo q h
     have hb1':b1<w2.heap.size:=Nat.lt_of_lt_of_le hb1 hb3.size
     have hlo2:∀ q,(Value.slice (some ⟨g2,0,none⟩) (ys.length+1) c2).ownBlock=some q→w.heap.size≤q:=fun q e=>(ho2.own_lt e).1
     have g1':=Ext.keep hE2 GW.out
     have hol:(ys++[x]).length=ys.length+1:=by simp
     rw [← hol] at ho2
     obtain ⟨g3,c3,w3,hr3,ho3,hb4,_,_⟩:=qcy qac.good (by decide) w.heap.size 3 53 (.int .i64 0) 8 Tryz.underlying53 qhk rfl (by decide) (fun _=>False) w2 (ys++[x]) (.slice (some ⟨g2,0,none⟩) (ys++[x]).length c2) y [.int .i64 y] ho2 ⟨rfl,hi64⟩ hE2.size (by rw [hol];omega)
     have HO3:=Hd ho3
     have HB3:Hid (Ext w w3):=Bt.new hE2 hb4 fun q _ h=>by rw [hol] at h;exact hlo2 q h
     rw [hol] at hr3 HO3
     clear ho2 ho3 hb3 hb4 hlo hlo2 hO
     go_wp2_with (at_builtin;first | (refine wpList_append_run rfl _ _ _ rfl _ _ _ rfl rfl hr2 ?_;clear hr2) | (refine wpList_append_run rfl _ _ _ rfl _ _ _ rfl rfl hr3 ?_;clear hr3))
     go_roundw
     case rel=>exact ⟨k+1,ys++[x]++[y],some ⟨g3,0,none⟩,c3,true,hk1,by go_num,rfl,by simp,by simp only [List.length_append,List.length_cons,List.length_nil,Bool.toNat_true,Bool.toNat_false] at hyl ⊢;omega,HB3.out,(by have h:=HO3.out;show qab _ _ _ _ _ _ _ _;simpa using h),HV.out⟩
     case measure=>simp [intOf];omega
    ·have HV:Hid (qbf a x=(ys++[y])++if false then a.drop (k+1) else qbf (a.drop (k+1)) x):=by
      show _=_
      rw [hvo]
      simp [qbf,hgt]
     have hng:¬ x<y:=hgt
     clear ho2 hb3 hvo hO hlo
     go_wp2_with (at_builtin;refine wpList_append_run rfl _ _ _ rfl _ _ _ rfl rfl hr2 ?_;clear hr2)
     go_roundw
     case rel=>exact ⟨k+1,ys++[y],some ⟨g2,0,none⟩,c2,false,hk1,by go_num,rfl,by simp,by simp only [List.length_append,List.length_cons,List.length_nil,Bool.toNat_true,Bool.toNat_false] at hyl ⊢;omega,HB2.out,(by have h:=HO2.out;show qab _ _ _ _ _ _ _ _;simpa using h),HV.out⟩
     case measure=>simp [intOf];omega
   ·have HV:Hid (qbf a x=(ys++[y])++if true then a.drop (k+1) else qbf (a.drop (k+1)) x):=by
     show _=_
     rw [hvo]
     simp
    clear ho2 hb3 hvo hO hlo
    go_wp2_with (at_builtin;refine wpList_append_run rfl _ _ _ rfl _ _ _ rfl rfl hr2 ?_;clear hr2)
    go_roundw
    case rel=>exact ⟨k+1,ys++[y],some ⟨g2,0,none⟩,c2,true,hk1,by go_num,rfl,by simp,by simp only [List.length_append,List.length_cons,List.length_nil,Bool.toNat_true,Bool.toNat_false] at hyl ⊢;omega,HB2.out,(by have h:=HO2.out;show qab _ _ _ _ _ _ _ _;simpa using h),HV.out⟩
    case measure=>simp [intOf];omega
  ·obtain rfl:k=a.length:=by omega
   have hvo:=hv.out
   rw [List.drop_length] at hvo
   cases d
   ·have HV:Hid (qbf a x=ys++[x]):=hvo
    obtain ⟨g2,c2,w2,hr2,ho2,hb3,_,_⟩:=qcy qac.good (by decide) w.heap.size 3 53 (.int .i64 0) 8 Tryz.underlying53 qhk rfl (by decide) (fun _=>False) wr ys (.slice Ao ys.length co) x [.int .i64 x] hO.out ⟨rfl,HX.out⟩ hE.size (by omega)
    have HO2:=Hd ho2
    have HB2:Hid (Ext w w2):=Bt.new hE hb3 fun q _ h=>hlo q h
    clear ho2 hb3 hvo hv hO hlo
    go_wp2_with (at_builtin;refine wpList_append_run rfl _ _ _ rfl _ _ _ rfl rfl hr2 ?_;clear hr2)
    go_ret
    rw [HV.out]
    exact ⟨some ⟨g2,0,none⟩,c2,by simp,(by have h:=HO2.out;show qab _ _ _ _ _ _ _ _;simpa using h),HB2.out⟩
   ·have HV:Hid (qbf a x=ys):=by show _=_;rw [hvo];simp
    clear hvo hv
    go_wp2_with fail
    go_ret
    rw [HV.out]
    exact ⟨_,_,rfl,hO.out,hE⟩
end
section
open Go.Shelf
theorem infoIs:(Tryz.prog.info? 53).map (fun i=>(i.zero,i.size,i.bytes))=some (some (.slice none 0 0),1,24):=by kernel_rfl
def shR (l:List (List Int)) (x:List Int) (i:Nat):List (List Int):=(l++[x]).take (i+1)++l.drop i
theorem shR_len {l:List (List Int)} {x:List Int} {i:Nat} (h:i≤l.length):(shR l x i).length=l.length+1:=by
 simp only [shR,List.length_append,List.length_take,List.length_drop,List.length_cons,List.length_nil]
 omega
theorem shR_top (l:List (List Int)) (x:List Int):shR l x l.length=l++[x]:=by
 rw [shR,List.drop_length,List.append_nil,List.take_of_length_le (by simp)]
theorem shR_get {l:List (List Int)} {x:List Int} {i:Nat} (h:i+1≤l.length) (hh:i<(shR l x (i+1)).length):(shR l x (i+1))[i]=l[i]:=by
 simp only [shR]
 rw [List.getElem_append_left (by simp;omega),List.getElem_take,List.getElem_append_left]
theorem shR_step {l:List (List Int)} {x:List Int} {i:Nat} (h:i+1≤l.length):(shR l x (i+1)).set (i+1) l[i]=shR l x i:=by
 have hl:(l++[x]).length=l.length+1:=by simp
 unfold shR
 rw [List.take_succ_eq_append_getElem (i:=i+1) (by omega),List.append_assoc,List.set_append_right _ _ (by simp;omega)]
 congr 1
 rw [List.length_take,show i+1-min (i+1) (l++[x]).length=0 by omega,List.singleton_append,List.set_cons_zero,← List.drop_eq_getElem_cons (by omega)]
theorem shR_end {l:List (List Int)} {x:List Int} {i:Nat} (h:i≤l.length):(shR l x i).set i x=l.take i++[x]++l.drop i:=by
 have hl:(l++[x]).length=l.length+1:=by simp
 unfold shR
 rw [List.take_succ_eq_append_getElem (i:=i) (by omega),List.append_assoc,List.set_append_right _ _ (by simp;omega),List.append_assoc,List.take_append_of_le_length h]
 congr 1
 rw [List.length_take,show i-min i l.length=0 by omega,List.singleton_append,List.set_cons_zero,List.singleton_append]
theorem insR_old {l:List (List Int)} {x:List Int} (h:atR l x<l.length) (he:qb2 l[atR l x] x=0):qa1 l x=l:=by
 rw [qa1,if_pos]
 rw [List.getElem?_eq_getElem h,qfw.eq _ _ he]
theorem insR_new {l:List (List Int)} {x:List Int} (h:∀ h:atR l x<l.length,qb2 l[atR l x] x≠0):qa1 l x=l.take (atR l x)++[x]++l.drop (atR l x):=by
 rw [qa1,if_neg]
 intro he
 rcases Nat.lt_or_ge (atR l x) l.length with hlt | hge
 ·rw [List.getElem?_eq_getElem hlt,Option.some.injEq] at he
  exact h hlt (by rw [he];exact qfw.refl x)
 ·rw [List.getElem?_eq_none hge] at he
  cases he
def RInsPost (base:Nat) (T:Nat→Prop) (r:List (List Int)) (v:Value) (w:World) (e:Ending) (w':World):Prop :=
 ∃ A c,e = .returned (.slice A r.length c)∧qab RIs 1 53 base T w' r (.slice A r.length c)∧Bt (fun q=>v.ownBlock=some q) w w'∧∀ q,(Value.slice A r.length c).ownBlock=some q→v.ownBlock=some q∨w.heap.size≤q
set_option maxHeartbeats 8000000 in
set_option maxRecDepth 100000 in
theorem ql7 (base:Nat) (T:Nat→Prop) (l:List (List Int)) (x:List Int) (v vx:Value) (w:World) (hown:qab RIs 1 53 base T w l v) (hx:RIs (fun b=>T b∧v.ownBlock≠some b) w x [vx]) (hbase:base≤w.heap.size) (hl:l.length≤100000) :
  Calls Tryz.prog 155 #[v,vx] w (RInsPost base T (qa1 l x) v w):=by
 obtain ⟨A,c,rfl,hc,hc0⟩:=(hown.sl RIs.good (by decide)).val
 obtain ⟨Ax,cx,rfl,hcx,hcx0⟩:=hx.val
 have HO:=Hd hown
 have HX:=Hd hx
 have HSL:=Hd (hown.sl RIs.good (by decide))
 have HC1:=Hd fun y vy W (hW:Ext w W) S' (hy:RIs S' W y [vy])=>qur _ _ y x vy _ W hy (RIs.good.bel hx hW)
 clear hown hx
 go_enter Tryz.func155,Tryz.ntmps155
 go_wp2_with fail
 go_loopw [5,6] (fun vi vj wr=>∃ i j:Nat,i≤j∧j≤l.length∧vi = .int .i64 i∧vj = .int .i64 j∧Ext w wr∧Hid (atR l x=bsI (bsR l x) (j-i) i j)) (fun vi vj _=>((intOf vj)-(intOf vi)).toNat)
 case atStart=>exact ⟨0,l.length,Nat.zero_le _,Nat.le_refl _,rfl,rfl,Ext.refl _,rfl⟩
 case round =>
  obtain ⟨i,j,hij,hj,rfl,rfl,hE,hbs⟩:=hrel
  by_cases hlt:i<j
  ·have hst0:=qnc (bsR l x) i j hlt
   obtain ⟨h,hh⟩:∃ h,(i+j) / 2=h:=⟨_,rfl⟩
   have y1:((i:Int)+(j:Int)) / 2=(h:Int):=by omega
   have y3:((i:Int)+(j:Int)).tdiv 2=(h:Int):=by rw [Int.tdiv_eq_ediv_of_nonneg (by omega)];exact y1
   have hm:h<l.length:=by omega
   have hm1:i≤h:=by omega
   have hm2:h<j:=by omega
   rw [hh] at hst0
   clear hh
   obtain ⟨b,off,cs,rfl,hb,hS,hl2,hr,hcell⟩:=(RIs.good |> RSl.good).bel HSL.out hE |>.get h hm
   obtain ⟨Ay,cy,rfl,hcy,hcy0⟩:=id hr
   have g0:=(by simpa using hcell.get 0 _:wr.cell? ⟨b,off+h,none⟩=some (.slice Ay (l[h]).length cy))
   have hcm:=HC1.out _ _ wr hE _ hr
   have z1:(0:Int)≤(h:Int):=by omega
   have z2:(h:Int)<(l.length:Int):=by omega
   have hst:=Hd hst0
   have hpa:=qjc (x:=x) hm
   obtain ⟨q1,hq⟩:∃ q,qb2 l[h] x=q:=⟨_,rfl⟩
   rw [hq] at hpa hcm
   obtain ⟨ny,hny⟩:∃ ny,(l[h]).length=ny:=⟨_,rfl⟩
   rw [hny] at g0 hcm
   clear hcell hl2 hS hr hst0 hq hny hcy
   by_cases hc2:q1<0
   ·have HC:=Hd (hpa.trans (decide_eq_true hc2))
    clear hpa
    go_wp2_with fail
    refine hcm.mono ?_
    rintro e w4 ⟨rfl,hx4⟩
    go_wp2_with fail
    go_roundw
    case rel =>
     refine ⟨h+1,j,by omega,hj,by go_num,rfl,hE.trans' hx4,?_⟩
     rw [hbs.out,hst.out,if_pos HC.out]
     exact rfl
    case measure=>simp [intOf];omega
   ·have HC:=Hd (hpa.trans (decide_eq_false hc2))
    clear hpa
    go_wp2_with fail
    refine hcm.mono ?_
    rintro e w4 ⟨rfl,hx4⟩
    go_wp2_with fail
    go_roundw
    case rel =>
     refine ⟨i,h,by omega,by omega,rfl,rfl,hE.trans' hx4,?_⟩
     rw [hbs.out,hst.out,if_neg (by rw [HC.out];decide)]
     exact rfl
    case measure=>simp [intOf];omega
  ·obtain rfl:i=j:=by omega
   have hat:atR l x=i:=by rw [hbs.out,show i-i=0 from by omega,bsI]
   have HOLD:Hid (∀ h:i<l.length,qb2 l[i] x=0→qa1 l x=l):=fun h he=>by subst hat;exact insR_old h he
   have HNEW:Hid ((∀ h:i<l.length,qb2 l[i] x≠0)→qa1 l x=l.take i++[x]++l.drop i):=fun h=>by subst hat;exact insR_new h
   clear hlt hbs hat hij
   have z0:(0:Int)≤(i:Int):=by omega
   by_cases hil:i<l.length
   case' pos =>
    have z1:(i:Int)<(l.length:Int):=by omega
    obtain ⟨b,off,cs,hA,hb,hS,hl2,hr,hcell⟩:=(RIs.good |> RSl.good).bel HSL.out hE |>.get i hil
    obtain ⟨Ay,cy,rfl,hcy,hcy0⟩:=id hr
    have g0:=(by simpa using hcell.get 0 _:wr.cell? ⟨b,off+i,none⟩=some (.slice Ay (l[i]).length cy))
    have hcm:=HC1.out _ _ wr hE _ hr
    obtain ⟨q1,hq⟩:∃ q,qb2 l[i] x=q:=⟨_,rfl⟩
    have HQ:=Hd hq
    rw [hq] at hcm
    obtain ⟨ny,hny⟩:∃ ny,(l[i]).length=ny:=⟨_,rfl⟩
    rw [hny] at g0 hcm
    have HA:=Hd hA
    clear hcell hl2 hS hr hq hny hcy
    rw [hA]
    clear hA
    by_cases hc2:q1=0
    case pos =>
     have HV:Hid (qa1 l x=l):=HOLD.out hil (by rw [HQ.out];exact hc2)
     subst hc2
     clear HOLD HNEW
     go_wp2_with fail
     refine hcm.mono ?_
     rintro e w4 ⟨rfl,hx4⟩
     go_wp2_with fail
     go_ret
     rw [HV.out,← HA.out]
     exact ⟨_,_,rfl,HO.out.ext RIs.good (hE.trans' hx4),(hE.trans' hx4).bt,fun q h=>.inl h⟩
    case' neg =>
     have HV:Hid (qa1 l x=l.take i++[x]++l.drop i):=HNEW.out fun h he=>hc2 (by rw [← HQ.out];exact he)
     clear HOLD HNEW
     have hqb:(q1 == 0)=false:=beq_eq_false_iff_ne.2 hc2
     go_wp2_with fail
     refine hcm.mono ?_
     rintro e w4 ⟨rfl,hx4⟩
     have hE4:=hE.trans' hx4
     rw [← HA.out]
     clear HA g0 hx4 hc2 HQ hcy0
   case' neg =>
    have HV:Hid (qa1 l x=l.take i++[x]++l.drop i):=HNEW.out fun h=>absurd h hil
    have z1:¬ (i:Int)<(l.length:Int):=by omega
    obtain ⟨w4,rfl⟩:∃ w4,w4=wr:=⟨_,rfl⟩
    have hE4:=hE
    clear HOLD HNEW
   all_goals
    obtain ⟨g2,c2,w5,hr2,ho2,hb3,hat3,_⟩:=qcy RIs.good (by decide) base 53 116 (.slice none 0 0) 24 Tryz.underlying116 infoIs rfl (by decide) T w4 l (.slice A l.length c) x [.slice Ax x.length cx] (HO.out.ext RIs.good hE4) (RIs.good.bel HX.out hE4) (Nat.le_trans hbase hE4.size) (by omega)
    have HO2:=Hd ho2
    have HB3:Hid (Bt (fun q=>(Value.slice A l.length c).ownBlock=some q∨q=g2) w w5):=(hE4.bt.trans hb3).mono fun q _ h=>.inl h
    have HAT:=Hd hat3
    have hg2:g2<w5.heap.size:=by
     obtain ⟨u,hu,_⟩:=qab.get1 ho2 0 (by simp)
     exact World.block_lt_of_cell? _ _ hu
    have hil':i≤l.length:=hj
    clear ho2 hb3 hat3 hE hj
    go_wp2_with (at_builtin;refine wpList_append_run rfl _ _ _ rfl _ _ _ rfl rfl hr2 ?_;clear hr2)
    go_loopw [8] (fun vi wr=>∃ k:Nat,i≤k∧k≤l.length∧vi = .int .i64 k∧Bt (fun q=>q=g2) w5 wr∧Hid (qab RIs 1 53 base T wr (shR l x k) (.slice (some ⟨g2,0,none⟩) (l.length+1) c2))) (fun vi _=>(intOf vi).toNat)
    case atStart=>exact ⟨l.length,hil',Nat.le_refl _,by go_num,Bt.refl _ _,by rw [shR_top];exact HO2.out⟩
    case round =>
     obtain ⟨k,hik,hkl,rfl,hbt,hRW⟩:=hrel
     have hgl:g2<wr.heap.size:=Nat.lt_of_lt_of_le hg2 hbt.size
     by_cases hki:i<k
     ·obtain ⟨m,rfl⟩:∃ m,k=m+1:=⟨k-1,by omega⟩
      have hml:m<l.length:=by omega
      have hsl:=shR_len (x:=x) hkl
      obtain ⟨u,gc,hu,-⟩:=qab.get1 hRW.out m (by omega)
      rw [shR_get hkl] at hu
      obtain ⟨Au,cu,rfl,-,-⟩:=hu.val
      obtain ⟨nu,hnu⟩:∃ nu,(l[m]).length=nu:=⟨_,rfl⟩
      rw [hnu] at gc hu
      obtain ⟨u3,gc3,-,gf3⟩:=qab.get1 hRW.out (m+1) (by omega)
      have hset:=qab.put1 RIs.good hRW.out (by rw [hsl]) (m+1) (.slice Au nu cu) l[m] (by omega) hu
      rw [shR_step hkl] at hset
      have HSET:=Hd hset
      have HBT:Hid (Bt (fun q=>q=g2) w5 (wr.setCell ⟨g2,m+1,none⟩ (.slice Au nu cu))):=hbt.set (Z:=fun q=>q=g2) (p:=⟨g2,m+1,none⟩) (.inr rfl) _
      have z3:(0:Int)≤(m:Int):=by omega
      have z4:(m:Int)<((l.length+1:Nat):Int):=by omega
      have z5:(0:Int)≤((m+1:Nat):Int):=by omega
      have z6:((m+1:Nat):Int)<((l.length+1:Nat):Int):=by omega
      have z7:(i:Int)<((m+1:Nat):Int):=by omega
      have him:i≤m:=by omega
      have hml':m≤l.length:=by omega
      clear hset hu hsl hRW hnu
      first
       | (exfalso;omega)
       | (go_wp2_with fail
          go_roundw
          case rel=>exact ⟨m,him,hml',by go_num,HBT.out,HSET.out⟩
          case measure=>simp [intOf])
     ·obtain rfl:k=i:=by omega
      have hsl:=shR_len (x:=x) hkl
      obtain ⟨u3,gc3,-,gf3⟩:=qab.get1 hRW.out k (by omega)
      have hxw:RIs (fun b=>T b∧b≠g2) wr x [.slice Ax x.length cx]:=by
       have h1:RIs (fun b=>(T b∧(Value.slice A l.length c).ownBlock≠some b)∧b<w.heap.size) w x [.slice Ax x.length cx]:=RIs.good.mono HX.out fun b hb h=>⟨h,hb⟩
       have h2:Kp (fun b=>(T b∧(Value.slice A l.length c).ownBlock≠some b)∧b<w.heap.size) w wr:=(HB3.out.trans (hbt.mono fun q _ h=>.inr h)).kp fun q hq ⟨⟨_,h1⟩,h2⟩ h=>by
        rcases h with h | rfl
        ·exact h1 h
        ·rcases HAT.out with h | h
         ·exact h1 h
         ·have:=hE4.size
          omega
       refine RIs.good.mono (RIs.good.move h1 h2) fun b hb ⟨⟨h3,h4⟩,h5⟩=>⟨h3,?_⟩
       rintro rfl
       rcases HAT.out with h | h
       ·exact h4 h
       ·have:=hE4.size
        omega
      have hset:=qab.put1 RIs.good hRW.out (by rw [hsl]) k (.slice Ax x.length cx) x (by omega) hxw
      rw [shR_end hkl,← HV.out] at hset
      have hil2:(qa1 l x).length=l.length+1:=by
       rw [HV.out]
       simp only [List.length_append,List.length_take,List.length_drop,List.length_cons,List.length_nil]
       omega
      rw [← hil2] at hset
      have HSET:=Hd hset
      have HBT:Hid (Bt (fun q=>(Value.slice A l.length c).ownBlock=some q) w (wr.setCell ⟨g2,k,none⟩ (.slice Ax x.length cx))):=by
       refine ((HB3.out.trans (hbt.mono fun q _ h=>.inr h)).set (Z:=fun q=>(Value.slice A l.length c).ownBlock=some q∨q=g2) (p:=⟨g2,k,none⟩) (.inr (.inr rfl)) _).mono fun q hq h=>?_
       rcases h with h | rfl
       ·exact h
       ·rcases HAT.out with h | h
        ·exact h
        ·have:=hE4.size
         omega
      have HIL:=Hd hil2
      have HAT2:Hid (∀ q,some g2=some q→(Value.slice A l.length c).ownBlock=some q∨w.heap.size≤q):=fun q h=>by
       injection h with h
       subst h
       rcases HAT.out with h | h
       ·exact .inl h
       ·have:=hE4.size
        exact .inr (by omega)
      have z4:(k:Int)<((l.length+1:Nat):Int):=by omega
      have z5:(0:Int)≤(k:Int):=by omega
      clear hset hxw hsl hRW hil2
      go_wp2_with fail
      go_ret
      refine ⟨some ⟨g2,0,none⟩,c2,by rw [HIL.out];rfl,HSET.out,HBT.out,fun q h=>HAT2.out q h⟩
end
section
open Go.Shelf
def qc0 (l:List (List Int)) (k:Nat) (a:List Int):Bool:=(l.take k).all fun b=>decide (b=a) || !qcw b a
theorem qus (l:List (List Int)) {k:Nat} (h:k<l.length) (a:List Int):qc0 l (k+1) a=(qc0 l k a && (decide (l[k]=a) || !qcw l[k] a)):=by
 rw [qc0,qc0,List.take_succ_eq_append_getElem h,List.all_append,List.all_cons,List.all_nil,Bool.and_true]
theorem keepR_no (l:List (List Int)) {k:Nat} (a:List Int) (h:qc0 l k a=false):qc0 l l.length a=false:=by
 rw [qc0,List.all_eq_false] at h ⊢
 obtain ⟨b,hb,h⟩:=h
 exact ⟨b,by rw [List.take_length];exact List.mem_of_mem_take hb,h⟩
theorem qu0 (l:List (List Int)) {i:Nat} (h:i<l.length):(l.take (i+1)).filter (qc0 l l.length)=if qc0 l l.length l[i]=true then (l.take i).filter (qc0 l l.length)++[l[i]] else (l.take i).filter (qc0 l l.length):=by
 rw [List.take_succ_eq_append_getElem h,List.filter_append,List.filter_cons]
 split <;> simp
theorem leastR_eq (l:List (List Int)):l.filter (qc0 l l.length)=qeq l:=by
 unfold qeq qc0
 rw [List.take_length]
def IsRow (T:Nat→Prop) (base:Nat) (r:List (List Int)) (w:World) (e:Ending) (w':World):Prop:=∃ A c,e = .returned (.slice A r.length c)∧qab RIs 1 53 base T w' r (.slice A r.length c)∧Ext w w'
set_option maxHeartbeats 8000000 in
set_option maxRecDepth 100000 in
theorem rleast_c (S:Nat→Prop) (l:List (List Int)) (v:Value) (w:World) (hx:RSl RIs 1 S w l [v]) (hl:l.length≤100000) (hnd:l.Nodup) (hris:∀ a∈l,Ris a) :
  Calls Tryz.prog 159 #[v] w (IsRow (fun b=>S b∧b<w.heap.size) w.heap.size (qeq l) w):=by
 obtain ⟨A,c,rfl,hc,hc0⟩:=hx.val
 have HX:=Hd hx
 have HND:Hid (∀ i k,(hi:i<l.length)→(hk:k<l.length)→¬ (k:Int)=(i:Int)→l[k]≠l[i]):=fun i k hi hk hne e=>hne (by rw [(List.getElem_inj hnd).1 e])
 have HRI:Hid (∀ i,(hi:i<l.length)→Ris l[i]):=fun i hi=>hris _ (List.getElem_mem hi)
 have HLT:=Hd fun i (hi:i<l.length)=>qu0 l hi
 have HLE:=Hd (leastR_eq l)
 clear hx hnd hris
 go_enter Tryz.func159,Tryz.ntmps159
 go_wp2_with fail
 go_loopw [3,4] (fun v3 vi wr=>∃ (i:Nat) (ys:List (List Int)) (Ao:Option Addr) (co:Nat),i≤l.length∧vi = .int .i64 i∧v3 = .slice Ao ys.length co∧ys.length≤i∧Ext w wr∧Hid (ys=(l.take i).filter (qc0 l l.length))∧Hid (qab RIs 1 53 w.heap.size (fun b=>S b∧b<w.heap.size) wr ys (.slice Ao ys.length co))) (fun _ vi _=>l.length-(intOf vi).toNat)
 case atStart=>exact ⟨0,[],none,0,Nat.zero_le _,rfl,rfl,by simp,Ext.refl _,(rfl:([]:List (List Int))=[]),qab.nil ..⟩
 case round =>
  obtain ⟨i,ys,Ao,co,hi,rfl,rfl,hyl,hE,hY,hO⟩:=hrel
  by_cases hil:i<l.length
  ·obtain ⟨b,off,cs,rfl,hb,hS,hl2,hr,hcell⟩:=HX.out.get i hil
   obtain ⟨Ai,ci,rfl,hci,hci0⟩:=id hr
   have gw:=(by simpa using hcell.get 0 _:w.cell? ⟨b,off+i,none⟩=some (.slice Ai (l[i]).length ci))
   have hi1:i+1≤l.length:=hil
   have z1:(0:Int)≤(i:Int):=by omega
   have z2:(i:Int)<(l.length:Int):=by omega
   have HST:=Hd (HLT.out i hil)
   have HPA:Hid (∀ k,(hk:k<l.length)→∃ Ak ck,w.cell? ⟨b,off+k,none⟩=some (.slice Ak (l[k]).length ck)∧∀ W,Ext w W→Calls Tryz.prog 225 #[.slice Ak (l[k]).length ck,.slice Ai (l[i]).length ci] W fun e w'=>e = .returned (.bool (qcw l[k] l[i]))∧Ext W w'):=fun k hk=>by
    obtain ⟨b',off',cs',e,_,_,_,hr',hcell'⟩:=HX.out.get k hk
    simp only [Option.some.injEq,Addr.mk.injEq,and_true] at e
    obtain ⟨rfl,rfl⟩:=e
    obtain ⟨Ak,ck,rfl,_,_⟩:=id hr'
    exact ⟨Ak,ck,by simpa using hcell'.get 0 _,fun W hW=>part_c S S l[k] l[i] _ _ W (RIs.good.bel hr' hW) (RIs.good.bel hr hW) (HRI.out k hk) (HRI.out i hil)⟩
   obtain ⟨x,hxi⟩:∃ x,l[i]=x:=⟨_,rfl⟩
   rw [hxi] at gw hr HST
   simp only [hxi] at HPA
   have HXI:=Hd hxi
   have HR:=Hd hr
   have HGW:=Hd gw
   clear hcell hl2 hS hr hxi gw hci
   go_wp2_with fail
   obtain ⟨w7,rfl⟩:∃ w7,w7=wr:=⟨_,rfl⟩
   go_loopw [5,6] (fun vb vk wr=>∃ (k:Nat) (kb:Bool),k≤l.length∧vk = .int .i64 k∧vb = .bool kb∧Ext w7 wr∧Hid (qc0 l k x=kb)) (fun _ vk _=>l.length-(intOf vk).toNat)
   case atStart=>exact ⟨0,true,Nat.zero_le _,rfl,rfl,Ext.refl _,(rfl:qc0 l 0 x=true)⟩
   case round =>
    obtain ⟨k,kb,hk,rfl,rfl,hE2,hkb⟩:=hrel
    have hE3:=hE.trans' hE2
    have y1:(0:Int)≤(k:Int):=by omega
    have g0:=Ext.keep hE3 HGW.out
    have hbw:b<wr.heap.size:=Nat.lt_of_lt_of_le hb hE3.size
    have hO3:=hO.out.ext RIs.good hE2
    by_cases hkl:k<l.length
    ·have y2:(k:Int)<(l.length:Int):=by omega
     have hk1:k+1≤l.length:=hkl
     cases kb
     ·have HK:Hid (qc0 l l.length x=false):=keepR_no l x hkb.out
      have HY2:Hid (ys=(l.take (i+1)).filter (qc0 l l.length)):=by show _=_;rw [HST.out,if_neg (by rw [HK.out];decide)];exact hY.out
      have HO3:=Hd hO3
      clear hO3 hO HST HPA hkb
      go_wp2_with fail
      go_roundw
      case rel=>exact ⟨i+1,ys,Ao,co,hi1,by go_num,rfl,by omega,hE3,HY2.out,HO3.out⟩
      case measure=>simp [intOf];omega
     ·have hst:=qus l hkl x
      rw [hkb.out,Bool.true_and] at hst
      by_cases hki:(k:Int)=(i:Int)
      ·obtain rfl:k=i:=by omega
       have HK:Hid (qc0 l (k+1) x=true):=by show _=_;rw [hst,HXI.out];simp
       clear hst hkb hO3
       go_wp2_with fail
       (refine qaw (by kernel_rfl) (by kernel_rfl) ?_;(repeat (first | go_big_quiet_step ((fail)) | quiet_step ((fail))));refine wpQuiet_nil ?_)
       intro w4 hx4
       go_wp2_with fail
       go_roundw
       case rel=>exact ⟨k+1,true,hk1,by go_num,rfl,hE2.trans' hx4,HK.out⟩
       case measure=>simp [intOf];omega
      ·obtain ⟨Ak,ck,gk,hpa⟩:=HPA.out k hkl
       have hne:=HND.out i k hil hkl hki
       have hkib:((k:Int) == (i:Int))=false:=beq_eq_false_iff_ne.2 hki
       rw [HXI.out] at hne
       rw [decide_eq_false hne,Bool.false_or] at hst
       have gk3:=Ext.keep hE3 gk
       have hX2:∀ (y:World),Ext w (qam wr y):=fun y=>hE3.trans' (qa8 _ y)
       obtain ⟨nk,hnk⟩:∃ nk,(l[k]).length=nk:=⟨_,rfl⟩
       rw [hnk] at gk3 hpa
       obtain ⟨pb,hpb⟩:∃ pb,qcw l[k] x=pb:=⟨_,rfl⟩
       rw [hpb] at hst hpa
       have HK:Hid (qc0 l (k+1) x = !pb):=hst
       clear hst hkb hO3 hnk hpb gk hne hki
       go_wp2_with fail
       (refine qaw (by kernel_rfl) (by kernel_rfl) ?_;(repeat (first | go_big_quiet_step ((go_at_call 225;exact qa5 (hpa _ (hX2 _)))) | quiet_step ((go_at_call 225;exact qa5 (hpa _ (hX2 _))))));refine wpQuiet_nil ?_)
       intro w4 hx4
       go_wp2_with fail
       go_roundw
       case rel=>exact ⟨k+1,!pb,hk1,by go_num,rfl,hE2.trans' hx4,HK.out⟩
       case measure=>simp [intOf];omega
    ·obtain rfl:k=l.length:=by omega
     cases kb
     ·have HY2:Hid (ys=(l.take (i+1)).filter (qc0 l l.length)):=by show _=_;rw [HST.out,if_neg (by rw [hkb.out];decide)];exact hY.out
      have HO3:=Hd hO3
      clear hO3 hO HST HPA hkb
      go_wp2_with fail
      go_roundw
      case rel=>exact ⟨i+1,ys,Ao,co,hi1,by go_num,rfl,by omega,hE3,HY2.out,HO3.out⟩
      case measure=>simp [intOf];omega
     ·have HY2:Hid (ys++[x]=(l.take (i+1)).filter (qc0 l l.length)):=by show _=_;rw [HST.out,if_pos hkb.out,hY.out]
      have hlo:∀ q,(Value.slice Ao ys.length co).ownBlock=some q→w.heap.size≤q:=fun q e=>(hO3.own_lt e).1
      obtain ⟨g2,c2,w5,hr2,ho2,hb3,_,_⟩:=qcy RIs.good (by decide) w.heap.size 53 116 (.slice none 0 0) 24 Tryz.underlying116 infoIs rfl (by decide) (fun b=>S b∧b<w.heap.size) wr ys (.slice Ao ys.length co) x [.slice Ai x.length ci] hO3
       (RIs.good.bel (RIs.good.mono HR.out fun q hq h=>⟨⟨h,hq⟩,fun e=>by have:=hlo q e;omega⟩) hE3) hE3.size (by omega)
      have HO2:=Hd ho2
      have HB2:Hid (Ext w w5):=Bt.new hE3 hb3 fun q _ h=>hlo q h
      clear hO3 hO HST HPA hkb ho2 hb3 hlo
      go_wp2_with (at_builtin;refine wpList_append_run rfl _ _ _ rfl _ _ _ rfl rfl hr2 ?_;clear hr2)
      go_roundw
      case rel=>exact ⟨i+1,ys++[x],some ⟨g2,0,none⟩,c2,hi1,by go_num,by simp,by simp;omega,HB2.out,HY2.out,(by have h:=HO2.out;show qab _ _ _ _ _ _ _ _;simpa using h)⟩
      case measure=>simp [intOf];omega
  ·obtain rfl:i=l.length:=by omega
   have HV:Hid (qeq l=ys):=by show _=_;rw [← HLE.out,hY.out,List.take_length]
   go_wp2_with fail
   go_ret
   rw [HV.out]
   exact ⟨_,_,rfl,hO.out,hE⟩
end
end Go.Proofs.YtegenalcheooeaaGreat
