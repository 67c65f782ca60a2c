/- Of the proof of a law of the suites: Calm, Behind. -/
import Derived.Test.YtegenalcheooeaaGreatB09
import Derived.Test.YtegenalcheooeaaGreatB10
set_option linter.unusedSectionVars false
set_option linter.unusedSimpArgs false
set_option linter.unusedVariables false
namespace Go.Proofs.YtegenalcheooeaaGreat
open Go.RowKit
attribute [local go_sem] cell?_exto
section
open Go.Shelf
attribute [local go_sem] Oper.semAt_some
def qfz (base:Nat) (r:List Int) (w:World) (e:Ending) (w':World):Prop:=∃ v,e = .returned v∧qab qac 1 3 base (fun _=>False) w' r v∧Ext w w'
theorem qfz.at {base b':Nat} {r:List Int} {w w':World} {e:Ending} (h:qfz base r w e w') (hb:b'<=base):∃ A c,e = .returned (.slice A r.length c)∧qab qac 1 3 b' (fun _=>False) w' r (.slice A r.length c)∧Ext w w':=by
 obtain ⟨v,rfl,h1,h2⟩:=h
 obtain ⟨A,c,rfl,_,_⟩:=(h1.sl qac.good (by decide)).val
 exact ⟨A,c,rfl,h1.base hb,h2⟩
theorem info3:∃ i3,Tryz.prog.info? 3=some i3∧i3.zero=some (.int .i64 0)∧i3.size=1∧i3.bytes=8:=by
 obtain ⟨i3,hi3,hzz⟩:=Option.map_eq_some_iff.1 qlb
 simp only [Prod.mk.injEq] at hzz
 exact ⟨i3,hi3,hzz⟩
theorem qsw (s:Sy) (pre:List (Fin s.es.length)) (x:Fin s.es.length) (l:List Int):qa6 s (pre++[x]) l=qcc s (qa6 s pre l) s.es[x]:=by simp [qa6]
theorem qob (s:Sy) {l:Int} {i:Nat} (h:l=(i:Int)) (hi:i<s.ls.length):qf8 s l=s.ls[i].g:=by
 subst h
 simp [qf8,hi]
set_option maxHeartbeats 1000000 in
set_option maxRecDepth 100000 in
theorem qlx (S:Nat->Prop) (s:Sy) (hok:qag s) (g:Nat) (l:List Int) (v:Value) (w:World) (hS:qav S w g s) (hl:RSl qac 1 S w l [v]) (hlen:l.length<=200000) :
  Calls Tryz.prog 208 #[.pointer (some ⟨g,0,none⟩),v] w (qfz w.heap.size (qau s l) w):=by
 have HS:=Hd hS
 have HL:=Hd hl
 have ho:=hl.oneCell
 clear hS hl
 refine (callsIn_wide (n:=3)).1 ?_
 refine callsIn_of_wp_marks Tryz.func208 rfl trivial ?_ rfl
 simp only [Tryz.ntmps208,List.size_toArray,List.length_cons,List.length_nil,Nat.reduceAdd,Nat.reduceSub,Array.replicate_succ,Array.replicate_zero,List.push_toArray,List.append_toArray,List.nil_append,List.cons_append]
 obtain ⟨A0,c0,rfl,hc0,hc00⟩:=HL.out.val
 gi_wp2_with fail
 refine ⟨trivial,?_⟩
 gi_at_call 250
 refine (callsIn_wide.2 (cloneInt S l _ _ ((RSl.good qac.good).bel HL.out (((Ext.refl w).alloc _).alloc _)) (by omega))).mono ?_
 rintro e w1 ⟨v1,rfl,hv1,h1⟩
 obtain ⟨A1,c1,rfl,hc1,hc10⟩:=(hv1.sl qac.good (by decide)).val
 have bS1:=((Boxed.new w 111 (.pointer (some ⟨g,0,none⟩))).alloc (.cells #[.slice A0 l.length c0] 53))
 have bL1:=Boxed.new (w.alloc (.cells #[.pointer (some ⟨g,0,none⟩)] 111)) 53 (.slice A0 l.length c0)
 simp only [World.size_alloc] at bL1
 replace bS1:Boxed w1 w.heap.size 111 _:=((Ext.kp (S:=fun _=>True) h1).block _ bS1.lt trivial).trans bS1
 replace bL1:Boxed w1 (w.heap.size+1) 53 _:=((Ext.kp (S:=fun _=>True) h1).block _ bL1.lt trivial).trans bL1
 have cL1:=bL1.cell
 have fL1:=bL1.frozen
 gi_wp2
 obtain ⟨W1,hW1⟩:∃ W1,w1.setCell ⟨w.heap.size+1,0,none⟩ (.slice A1 l.length c1)=W1:=⟨_,rfl⟩
 have hX1:Ext w W1:=by rw [<- hW1];exact (((Ext.refl w).alloc _).alloc _ |>.trans' h1).set (Nat.le_succ _) _
 have hz1:w.heap.size+2<=w1.heap.size:=by have:=h1.size;simp at this;omega
 have bS2:Boxed W1 w.heap.size 111 (.pointer (some ⟨g,0,none⟩)):=by rw [<- hW1];exact bS1.other (by omega) _
 have bL2:Boxed W1 (w.heap.size+1) 53 (.slice A1 l.length c1):=by rw [<- hW1];exact bL1.set _
 have hv2:qab qac 1 3 (w.heap.size+2) (fun _=>False) W1 l (.slice A1 l.length c1):=by
  rw [<- hW1]
  simp only [World.size_alloc] at hv1
  exact hv1.int.bt qac.good (Bt.of_grown (grownBy_setCell' w1 (w.heap.size+1) _)) (fun b hb hz=>⟨fun h=>h,fun e=>by
   obtain ⟨news,h2,_⟩:=hv1
   have:=(qb1 h2 b e).1
   cases hz
   omega⟩)
 rw [hW1]
 clear hW1 bS1 bL1 cL1 fL1 hv1 h1 hz1
 have HB1:=Hd bS2
 have HB2:=Hd bL2
 refine wpIn_loop (fun a' wr=>∃ u5 u10 u11 u12 u13 u14 u15 u16 u17 u18 u19 u20 u21:Value,∃ (ds:List Deferred),(∃ (k:Nat) (lk:List Int) (vk:Value),u5=Value.int .i64 (k:Int)∧k<=lk.length∧Boxed wr w.heap.size 111 (.pointer (some ⟨g,0,none⟩))∧Boxed wr (w.heap.size+1) 53 vk∧qab qac 1 3 (w.heap.size+2) (fun _=>False) wr lk vk ∧
   Marks (w.heap.size+2) ds wr∧Ext w wr∧lk.length+qbq s lk<=l.length+s.es.length∧Hid (qa9 s (l.length+s.es.length-k) k lk=qa9 s (l.length+s.es.length) 0 l)) ∧
   a'={ tmps:=#[Value.pointer (some ⟨g,0,none⟩),Value.slice A0 l.length c0,Value.pointer (some ⟨w.heap.size,0,none⟩),Value.pointer (some ⟨w.heap.size+1,0,none⟩),Value.slice none 0 0,u5,undef,undef,Value.slice A0 l.length c0,Value.slice A1 l.length c1,u10,u11,u12,u13,u14,u15,u16,u17,u18,u19,u20,u21,undef,undef,undef,undef,undef,undef,undef,undef,undef,undef,undef,undef,undef,undef,undef,undef,undef,undef,undef,undef,undef,undef,undef,undef,undef,undef,undef,undef],defers:=ds })
  (fun a' _=>l.length+s.es.length-(intOf (a'.tmps.getD 5 undef)).toNat) ?_ ?_
 ·refine ⟨_,_,_,_,_,_,_,_,_,_,_,_,_,[],⟨0,l,_,rfl,Nat.zero_le _,HB1.out,HB2.out,hv2,Marks.nil _ _,hX1,by have:=qf6 s l;omega,rfl⟩,rfl⟩
 rintro _ wr ⟨u5,u10,u11,u12,u13,u14,u15,u16,u17,u18,u19,u20,u21,ds,⟨k,lk,vk,rfl,hk,q1,q2,hown,hM,hX,hpot,hf⟩,rfl⟩
 obtain ⟨Ak,ck,rfl,hck,hck0⟩:=(hown.sl qac.good (by decide)).val
 have e1:=q1.cell
 have e2:=q2.cell
 by_cases hlt:k<lk.length
 ·obtain ⟨b,off,cs,rfl,hb,hT,hl,hr,hcell⟩:=(hown.sl qac.good (by decide)).get k hlt
  obtain rfl:=hr.1
  have g0:=(by simpa using hcell.get 0 _:wr.cell? ⟨b,off+k,none⟩=some (.int .i64 lk[k]))
  have HO:=Hd hown
  have HM:=Hd hM
  have Hf:=Hd hf.out
  have hc175:=fun W=>(callsIn_wide.1 (qjg 3 (some ⟨g,0,none⟩) lk[k] W))
  clear hown hM hf hcell hr hl hT
  gi_wp2_with fail
  have hcj:wr.cell? ⟨w.heap.size,0,none⟩=some (.pointer (some ⟨g,0,none⟩))∧wr.cell? ⟨w.heap.size+1,0,none⟩=some (.slice (some ⟨b,off,none⟩) lk.length ck)∧wr.cell? ⟨b,off+k,none⟩=some (.int .i64 lk[k]):=⟨e1,e2,g0⟩
  refine wpIn_wide.2 ?_
  go_region_held3 (fun W=>W.cell? ⟨w.heap.size,0,none⟩=some (.pointer (some ⟨g,0,none⟩))∧W.cell? ⟨w.heap.size+1,0,none⟩=some (.slice (some ⟨b,off,none⟩) lk.length ck)∧W.cell? ⟨b,off+k,none⟩=some (.int .i64 lk[k]))
   (first | exact (((qad.refl _).alloc _).alloc _).k3 (by assumption) | exact ((qad.refl _).alloc _).k3 (by assumption) | (refine ⟨?_,?_,?_⟩ <;> go_simp <;> done))
   (first | (go_at_call 175;refine (hc175 _).mono ?_;rintro e w' ⟨rfl,rfl⟩))
  gi_wp2_with fail
  obtain ⟨W0,hW0⟩:∃ W0,((wr.alloc (.cells #[.pointer (some ⟨g,0,none⟩)] 111)).alloc (.cells #[.int .i64 lk[k]] 3)).drew=W0:=⟨_,rfl⟩
  have hsz0:W0.heap.size=wr.heap.size+2:=by rw [<- hW0];show (World.heap _).size=_;simp
  have hX0:Ext wr W0:=by rw [<- hW0];exact (((Ext.refl wr).alloc _).alloc _).drew
  have bs0:Boxed W0 wr.heap.size 111 (.pointer (some ⟨g,0,none⟩)):=by rw [<- hW0];exact ((Boxed.new wr 111 _).alloc _)
  have bt0:Boxed W0 (wr.heap.size+1) 3 (.int .i64 lk[k]):=by rw [<- hW0];have:=Boxed.new (wr.alloc (.cells #[.pointer (some ⟨g,0,none⟩)] 111)) 3 (.int .i64 lk[k]);rwa [World.size_alloc] at this
  rw [hW0]
  clear hW0
  obtain ⟨Z,hZ⟩:∃ Z:Nat->Prop,Z=fun q=>(S q∧q<w.heap.size)∨q=wr.heap.size:=⟨_,rfl⟩
  have hS0:qav Z W0 g s:=(HS.out.mono (S':=Z) fun q h1 h2=>by rw [hZ];exact .inl ⟨h2,h1⟩).bel (hX.trans' hX0)
  have hZ':∀ q,Z q->q<W0.heap.size:=fun q hq=>by
   rw [hZ] at hq
   have:=hX.size
   rcases hq with ⟨_,h⟩ | h <;> omega
  obtain ⟨vk0,hvk0⟩:∃ vk0,Value.slice (some ⟨b,off,none⟩) lk.length ck=vk0:=⟨_,rfl⟩
  have HO':=HO.out
  rw [hvk0] at HO' q2
  have hr0:qab qac 1 3 (w.heap.size+2) (fun _=>False) W0 lk vk0:=HO'.ext qac.good hX0
  have q20:Boxed W0 (w.heap.size+1) 53 vk0:=(Ext.kp (S:=fun _=>True) hX0).block _ q2.lt trivial |>.trans q2
  have q10:Boxed W0 w.heap.size 111 (.pointer (some ⟨g,0,none⟩)):=(Ext.kp (S:=fun _=>True) hX0).block _ q1.lt trivial |>.trans q1
  have hown0:∀ q,vk0.ownBlock=some q->w.heap.size+2<=q∧q<wr.heap.size:=fun q hq=>by obtain ⟨news,h1,_⟩:=HO';exact qb1 h1 q hq
  have hZn:∀ q,Z q->¬ (q=w.heap.size+1∨vk0.ownBlock=some q):=fun q hq e=>by
   rw [hZ] at hq
   have:=q1.lt
   have:=q2.lt
   rcases e with rfl | e
   ·rcases hq with ⟨_,h⟩ | h <;> omega
   ·have:=hown0 q e
    rcases hq with ⟨_,h⟩ | h <;> omega
  have hIown:=qrh (base:=w.heap.size+2) (vk0:=vk0) (row:=fun pre=>qa6 s pre lk) q20.lt
  have HV0:=Hd hvk0
  clear hvk0 HO'
  have hlt1:=q1.lt
  have hlt2:=q2.lt
  have hwr:=hX.size
  refine wpIn_rangeFunc_ownH rfl (by omega) (gf:=234) (lb:=#[.pointer (some ⟨wr.heap.size,0,none⟩),.pointer (some ⟨wr.heap.size+1,0,none⟩)]) rfl trivial (enters_of Tryz.func234 (by kernel_rfl) rfl)
   (qjh (3-1) (by omega) Z s g wr.heap.size (wr.heap.size+1) lk[k] (by rw [hZ];exact .inr rfl) W0 hS0 bs0.cell bt0.cell) kp_t (kp_b hZ') (Below.refl _ _) (fun _=>rfl)
   (qdr (w.heap.size+1) (w.heap.size+2) vk0 W0 (fun pre=>qa6 s pre lk)) (fun _ _ _=>False) hIown (fun _ _ _ _ _ hs _ _=>hs)
   (qdr.start q20 hr0)
   (fun x a' W=>∃ Bx,W0.heap.size<=Bx∧W.heap[Bx]? = some (.cells #[.int .i64 s.es[x].f,.int .i64 s.es[x].l,.int .i64 s.es[x].t] 88)∧a'={ tmps:=#[Value.pointer (some ⟨g,0,none⟩),Value.slice A0 l.length c0,Value.pointer (some ⟨w.heap.size,0,none⟩),Value.pointer (some ⟨w.heap.size+1,0,none⟩),Value.slice none 0 0,Value.int .i64 (k:Int),undef,Value.pointer (some ⟨Bx,0,none⟩),Value.slice A0 l.length c0,Value.slice A1 l.length c1,Value.int .i64 (k:Int),Value.slice (some ⟨b,off,none⟩) lk.length ck,Value.int .i64 (lk.length:Int),Value.bool true,u14,u15,Value.pointer (some ⟨g,0,none⟩),Value.slice (some ⟨b,off,none⟩) lk.length ck,Value.int .i64 (k:Int),Value.pointer (some ⟨b,off+k,none⟩),Value.int .i64 lk[k],Value.func (Fn.func 234) #[] #[Value.pointer (some ⟨wr.heap.size,0,none⟩),Value.pointer (some ⟨wr.heap.size+1,0,none⟩)],Value.int .i64 (x.1:Int),Value.agg #[.int .i64 s.es[x].f,.int .i64 s.es[x].l,.int .i64 s.es[x].t],undef,undef,undef,undef,undef,undef,undef,undef,undef,undef,undef,undef,undef,undef,undef,undef,undef,undef,undef,undef,undef,undef,undef,undef,undef,undef],defers:=[] })
   (fun x a' _ X Y row hs hg hr=>by
    obtain ⟨Bx,h1,h2,h3⟩:=hs
    exact ⟨Bx,h1,(hg.block Bx (Array.getElem?_eq_some_iff.1 h2).1 fun e=>by
     obtain ⟨_,o',h4,h5⟩:=hr Bx e.symm
     rw [h2] at h4
     cases h4
     cases h5).trans h2,h3⟩)
   ?assign ?body ?done ?stop
  case assign =>
   rintro l2 pre x W K hI hK
   unfold qgy
   gi_wp2
   refine hK _ _ ((KeepsOthers.alloc _ _).from _) ⟨by simp,fun q h1 _=>Below.heap_alloc _ _ _ h1⟩ (hIown.alloc _ hI) ⟨W.heap.size,hI.bt.size,World.alloc_heap_new W _,rfl⟩
  case body =>
   rintro l2 pre x a' W hl2 _ hI ⟨Bx,hBx,hbox,rfl⟩ hlen2
   obtain ⟨xi,hxl⟩:=x
   have hed:=(hok.2.2.2.2.2 xi hxl).1
   have hlab:0<=s.es[xi].l∧s.es[xi].l<s.ls.length:=by
    simp only [qbw,isB,Bool.and_eq_true,decide_eq_true_eq] at hed
    omega
   have hto:I64 s.es[xi].t:=by
    simp only [qbw,isB,Bool.and_eq_true,decide_eq_true_eq] at hed
    have:=hok.2.1
    exact ⟨by omega,by omega⟩
   obtain ⟨li,hli⟩:∃ li:Nat,s.es[xi].l=(li:Int):=⟨s.es[xi].l.toNat,by omega⟩
   have hli2:li<s.ls.length:=by omega
   obtain ⟨vk2,q3,hown3,hat3⟩:=hI.row
   have hlen3:(qa6 s pre lk).length<=500000:=by have:=(qgd s pre lk).1;have:=hok.2.2.2.1;omega
   have hbt:=hI.bt
   obtain ⟨A3,c3,rfl,hc3,hc30⟩:=(hown3.sl qac.good (by decide)).val
   obtain ⟨v',u',m,f,h1,h2,h3,h4,h5,h6,h7,h8⟩:=(hS0.move (hbt.kp fun q _ hq=>hZn q hq)).ex
   obtain ⟨bl,ol,cl,csl,rfl,hbl,hSl,hll,hrl,hcl⟩:=h2.at li hli2
   obtain ⟨il,vl,rfl,hvl⟩:=id hrl
   have g1:W.cell? ⟨g,1,none⟩=some (.slice (some ⟨bl,ol,none⟩) s.ls.length cl):=cell_of_row W _ 1 _ _ _ h1
   have gl:W.cell? ⟨bl,ol+li*2,none⟩=some (.int .i64 s.ls[li].g):=by simpa using hcl.get 0 _
   have x1:W.cell? ⟨Bx,1,none⟩=some (.int .i64 (li:Int)):=by rw [<- hli];exact cell_of_row W _ 1 _ _ _ hbox
   have x2:W.cell? ⟨Bx,2,none⟩=some (.int .i64 s.es[xi].t):=cell_of_row W _ 2 _ _ _ hbox
   have y1:W.cell? ⟨w.heap.size,0,none⟩=some (.pointer (some ⟨g,0,none⟩)):=hbt.cell q10.cell (by
    rintro (e | e)
    ·exact absurd e (by simp)
    ·have:=(hown0 _ e).1;simp at this;omega)
   have y2:=q3.cell
   have HI:=Hd hI
   have HR3:=Hd hown3
   have HQ3:=Hd q3
   have HA3:=Hd hat3
   have hsnoc:=Hd (qsw s pre ⟨xi,hxl⟩ lk)
   have hgate:=Hd (qob s hli hli2)
   have hcon0:=fun x=>qrz _ (qa6 s pre lk) s.es[xi].t _ (qak W x) ((RSl.good qac.good).bel (hown3.sl qac.good (by decide)) (qa5 W x))
   clear hI hown3 q3 h2 h3 h6 h7 h8 hrl hcl hvl hed h1 hbt hat3
   by_cases hgt:s.ls[li].g = -1
   ·have hb1:(s.ls[li].g == -1)=true:=beq_iff_eq.2 hgt
    by_cases hmem:s.es[xi].t∈qa6 s pre lk
    ·have hcon:∀ x,Calls Tryz.prog 32 #[.slice A3 (qa6 s pre lk).length c3,.int .i64 s.es[xi].t] (qak W x) fun e w'=>e = .returned (.bool true)∧w'=qak W x:=fun x=>by have:=hcon0 x;rwa [decide_eq_true hmem] at this
     have hsame:Hid (qa6 s (pre++[⟨xi,hxl⟩]) lk=qa6 s pre lk):=by
      show _=_
      rw [hsnoc.out,qcc,if_neg]
      rintro ⟨_,h⟩
      exact h hmem
     clear hcon0 hmem hgt hbox
     gi_wp2_with fail
     (refine qcy (by kernel_rfl) (by kernel_rfl) (by kernel_rfl) ?_;(repeat (first | go_big_quiet_step ((go_at_call 32;exact qb7 (hcon _))) | quiet_step ((go_at_call 32;exact qb7 (hcon _)))));refine wpQuiet_nil ?_)
     intro w4 hx4
     gi_wp2
     exact ⟨qeq hx4 _,Ext.kp hx4,HI.out.same hx4 hsame.out⟩
    ·have hcon:∀ x,Calls Tryz.prog 32 #[.slice A3 (qa6 s pre lk).length c3,.int .i64 s.es[xi].t] (qak W x) fun e w'=>e = .returned (.bool false)∧w'=qak W x:=fun x=>by have:=hcon0 x;rwa [decide_eq_false hmem] at this
     have hadd:Hid (qa6 s (pre++[⟨xi,hxl⟩]) lk=qa6 s pre lk++[s.es[xi].t]):=by
      show _=_
      rw [hsnoc.out,qcc,if_pos ⟨hgate.out.trans hgt,hmem⟩]
      rfl
     clear hcon0 hmem hgt hbox
     gi_wp2_with fail
     (refine qcy (by kernel_rfl) (by kernel_rfl) (by kernel_rfl) ?_;(repeat (first | go_big_quiet_step ((go_at_call 32;exact qb7 (hcon _))) | quiet_step ((go_at_call 32;exact qb7 (hcon _)))));refine wpQuiet_nil ?_)
     intro w4 hx4
     obtain ⟨i3,hi3,hz0,hz1,hz2⟩:=info3
     have q4:Boxed w4 (w.heap.size+1) 53 _:=((Ext.kp (S:=fun _=>True) hx4).block _ HQ3.out.lt trivial).trans HQ3.out
     have r4:=HR3.out.ext qac.good hx4
     have HR4:=Hd r4
     obtain ⟨news,hrow4,hF4⟩:=r4
     obtain ⟨rfl,hi4⟩:=hF4.ints
     have y4:=q4.cell
     have x4:=Ext.keep hx4 x2
     have hsz4:=hx4.size
     have hszW:=HI.out.bt.size
     have HQ4:=Hd q4
     clear hF4 q4 y1 y2 x1 x2 g1 gl hcon
     gi_wp2_with (gi_at_builtin;refine qoq _ rfl _ _ 53 rfl (w.heap.size+2) 3 i3 (.int .i64 0) 1 8 Tryz.underlying53 hi3 hz0 hz1 hz2 rfl (by decide) _ _ _ rfl (hrow4.alloc _) ⟨w4.heap.size,0,none⟩ 1 1 [.int .i64 s.es[xi].t] rfl rfl (cell_one_new _ _ _) (by simp [Value.oneCell']) (by unfold maxLen;omega) (by omega) (by simp;omega) ?_;intro v5 w5 hown5 hgrow5 hat5;obtain ⟨g5,c5,rfl⟩:=ownsRow_succ hown5;have p5:=(qj7 hi4 hto HQ4.out hrow4 hown5 hgrow5).1;have p5c:=p5.cell;have p5f:=p5.frozen)
     rw [World.size_alloc] at hat5
     have hI4:qdr (w.heap.size+1) (w.heap.size+2) vk0 W0 (fun pre=>qa6 s pre lk) pre w4:=HI.out.move hx4
     obtain ⟨hk5,hp5⟩:=qry HQ4.out HR4.out hto hown5 hgrow5 W0.heap.size (Z:=Z) (fun q _ hq e=>by
      rcases e with e | e
      ·exact hZn q hq (.inl e)
      ·rcases HA3.out with h0 | h0
       ·exact hZn q hq (.inr (h0 ▸ e))
       ·have:=h0 q e;have:=hZ' q hq;omega)
     exact ⟨(qeq hx4 _).trans hk5,(Ext.kp hx4).trans hp5,hI4.push HQ4.out HR4.out HA3.out hto hown5 hgrow5 hat5 hadd.out⟩
   ·have hb1:(s.ls[li].g == -1)=false:=beq_eq_false_iff_ne.2 hgt
    have hsame:Hid (qa6 s (pre++[⟨xi,hxl⟩]) lk=qa6 s pre lk):=by
     show _=_
     rw [hsnoc.out,qcc,if_neg]
     rintro ⟨h,_⟩
     exact hgt (hgate.out.symm.trans h)
    clear hcon0 hgt hbox
    gi_wp2_with fail
    (refine qcy (by kernel_rfl) (by kernel_rfl) (by kernel_rfl) ?_;(repeat (first | go_big_quiet_step ((fail)) | quiet_step ((fail))));refine wpQuiet_nil ?_)
    intro w4 hx4
    gi_wp2
    exact ⟨qeq hx4 _,Ext.kp hx4,HI.out.same hx4 hsame.out⟩
  case done =>
   rintro D ys W hD rfl hI hD0
   obtain ⟨vk2,q3,hown3,hat3⟩:=hI.row
   have hp3:=qgd s (qaw s.es lk[k]) lk
   have HD:=Hd hD0
   have HQ:=Hd q3
   have HW:=Hd hown3
   have HI:=Hd hI
   clear hD0 q3 hown3 hI
   gi_wp2
   have hsw:=hX.size
   have hsW:=HI.out.bt.size
   refine ⟨⟨_,_,_,_,_,_,_,_,_,_,_,_,_,_,?calmP,rfl⟩,?calmM⟩
   case calmP =>
    have hbx:Boxed W w.heap.size 111 (.pointer (some ⟨g,0,none⟩)):=(HI.out.bt.block _ q10.lt (by
     rintro (e | e)
     ·exact absurd e (by omega)
     ·have:=(hown0 _ e).1;omega)).trans q10
    have hXX:Ext w W:=Bt.new (hX.trans' hX0) HI.out.bt fun q _ hq=>by
     rcases hq with rfl | hq
     ·omega
     ·have:=(hown0 q hq).1;omega
    refine ⟨k+1,qa6 s (qaw s.es lk[k]) lk,vk2,by go_num,by omega,hbx,HQ.out,HW.out,HM.out.cons (by omega) (by omega) HD.out fun r h1 h2=>?_,hXX,by omega,?_⟩
    ·have h3:W0.heap[r]? = some (.deferred (some [])):=((Ext.kp (S:=fun _=>True) hX0).block r h1 trivial).trans h2
     refine (HI.out.bt.block r (by omega) ?_).trans h3
     rintro (e | e)
     ·subst e
      rw [show W0.heap[w.heap.size+1]? = _ from q20] at h3
      cases h3
     ·exact hr0.not_def h3 e
    ·rw [<- Hf.out]
     obtain ⟨m,hm⟩:∃ m,l.length+s.es.length-k=m+1:=⟨l.length+s.es.length-k-1,by omega⟩
     rw [hm,qa9,dif_pos hlt,show l.length+s.es.length-(k+1)=m from by omega]
     rfl
   case calmM=>simp [intOf];omega
  case stop =>
   rintro D c pre W _ _ h _
   exact h.elim
 ·have hsz:lk.length<4611686018427387904:=by have:=hok.2.2.2.1;omega
  have hno:(Value.slice Ak lk.length ck).ownBlock≠some w.heap.size∧(Value.slice Ak lk.length ck).ownBlock≠some (w.heap.size+1):=by
   obtain ⟨news,h2,_⟩:=hown
   exact ⟨fun e=>by have:=(qb1 h2 _ e).1;omega,fun e=>by have:=(qb1 h2 _ e).1;omega⟩
  have HO:=Hd hown
  have HM:=Hd hM
  have hval:qau s l=qda lk:=by
   rw [qau,<- hf.out]
   cases hq:l.length+s.es.length-k with
   | zero=>rw [qa9]
   | succ m=>rw [qa9,dif_neg hlt]
  have HV:=Hd hval
  have HN:=Hd hno
  clear hown hM hval hf hno
  gi_wp2_with fail
  refine ⟨trivial,?_⟩
  gi_at_call 59
  refine (callsIn_wide.2 (qms _ _ lk _ wr HO.out hsz)).mono ?_
  rintro e w2 ⟨rfl,ho2,hb2⟩
  have e2':w2.cell? ⟨w.heap.size+1,0,none⟩=some (Value.slice Ak lk.length ck):=hb2.cell e2 HN.out.2
  have HO2:=Hd ho2
  clear ho2
  gi_wp2_with fail
  have hM2:Marks (w.heap.size+2) ds w2:=HM.out.keep fun r hr h=>(hb2.block r (Array.getElem?_eq_some_iff.1 h).1 (HO.out.not_def h)).trans h
  refine Marks.leave (by simp) hM2 fun w3 hb3=>?_
  refine ⟨_,results_tmp rfl _ _ _,_,rfl,?_,?_⟩
  ·rw [HV.out]
   exact (HO2.out.bt qac.good hb3 fun b _ hz=>⟨fun h=>h,HO2.out.not_def hz.2⟩).base (by omega)
  ·exact Bt.new (Bt.new hX hb2 fun i _ hi=>by
    obtain ⟨news,h2,_⟩:=HO.out
    have:=(qb1 h2 i hi).1
    omega) hb3 fun i _ hi=>by have:=hi.1;omega
end
section
open Go.Shelf
attribute [local go_sem] Oper.semAt_some
def qem (s:Sy) (l:Int) (p:Lb->Bool):Bool:=((s.ls[l.toNat]?).map p).getD false
theorem qgj (s:Sy) {l:Int} {i:Nat} (p:Lb->Bool) (h:l=(i:Int)) (hi:i<s.ls.length):qem s l p=p s.ls[i]:=by
 subst h
 simp [qem,hi]
def qev (s:Sy) (x:Lb) (l:List Int) (e:Ed):List Int:=if qem s e.l (fun y=>qa0 y.g && decide (qan y x=0))=true∧e.t∉l then l++[e.t] else l
def qb4 (s:Sy) (x:Lb) (is:List (Fin s.es.length)) (l:List Int):List Int:=is.foldl (fun l i=>qev s x l s.es[i]) l
def qb2 (s:Sy) (x:Lb) (sts:List Int):List Int:=sts.foldl (fun l st=>qb4 s x (qaw s.es st) l) []
def qc2 (s:Sy) (x:Lb) (sts:List Int):List Int:=qau s (qb2 s x sts)
theorem quy (s:Sy) (x:Lb) (pre:List (Fin s.es.length)) (i:Fin s.es.length) (l:List Int):qb4 s x (pre++[i]) l=qev s x (qb4 s x pre l) s.es[i]:=by simp [qb4]
theorem qum (s:Sy) (x:Lb) (sts:List Int) (st:Int):qb2 s x (sts++[st])=qb4 s x (qaw s.es st) (qb2 s x sts):=by simp [qb2]
theorem qvj (s:Sy) (x:Lb) (l:List Int) (e:Ed) (he:e∈s.es):(qev s x l e).length+qbq s (qev s x l e)<=l.length+qbq s l:=by
 unfold qev
 split
 ·rename_i h
  have:=qk9 (fun x:Ed=>decide (x.t∉l++[e.t])) (fun x:Ed=>decide (x.t∉l)) (fun x hx=>by
   simp only [List.mem_append,not_or,decide_eq_true_eq] at hx ⊢;exact hx.1) s.es e he (by simp) (by simpa using h.2)
  simp only [qbq,List.length_append,List.length_cons,List.length_nil] at this ⊢
  omega
 ·exact Nat.le_refl _
theorem qng (s:Sy) (x:Lb):∀ (is:List (Fin s.es.length)) (l:List Int),(qb4 s x is l).length+qbq s (qb4 s x is l)<=l.length+qbq s l
 | [],l=>Nat.le_refl _
 | i :: is,l=>Nat.le_trans (qng s x is (qev s x l s.es[i])) (qvj s x l s.es[i] (List.getElem_mem _))
theorem qmy (s:Sy) (x:Lb) (sts:List Int):(qb2 s x sts).length+qbq s (qb2 s x sts)<=s.es.length:=by
 have:∀ (sts l:List Int),l.length+qbq s l<=s.es.length->(sts.foldl (fun l st=>qb4 s x (qaw s.es st) l) l).length+qbq s (sts.foldl (fun l st=>qb4 s x (qaw s.es st) l) l)<=s.es.length:=by
  intro sts
  induction sts with
  | nil=>exact fun l h=>h
  | cons st sts ih=>exact fun l h=>ih _ (Nat.le_trans (qng s x _ l) h)
 exact this sts [] (by simpa using qf6 s [])
set_option maxHeartbeats 1000000 in
set_option maxRecDepth 100000 in
theorem qqz (S:Nat->Prop) (s:Sy) (hok:qag s) (g:Nat) (l:List Int) (x:Lb) (v vx:Value) (w:World) (hS:qav S w g s) (hl:RSl qac 1 S w l [v]) (hx:RLb S w x [.int .i64 x.g,vx]) (hlen:l.length<=4611686018427387903) :
  Calls Tryz.prog 221 #[.pointer (some ⟨g,0,none⟩),v,.agg #[.int .i64 x.g,vx]] w (qfz w.heap.size (qc2 s x l) w):=by
 have HS:=Hd hS
 have HL:=Hd hl
 have HX:=Hd hx
 have ho:=hl.oneCell
 obtain ⟨_,vx',hvx',hvx⟩:=id hx
 simp only [List.cons.injEq,true_and,and_true] at hvx'
 obtain rfl:=hvx'
 obtain ⟨Ax,cx,rfl,hcx,hcx0⟩:=hvx.val
 clear hS hl hx hvx
 refine (callsIn_wide (n:=3)).1 ?_
 refine callsIn_of_wp_marks Tryz.func221 rfl trivial ?_ rfl
 simp only [Tryz.ntmps221,List.size_toArray,List.length_cons,List.length_nil,Nat.reduceAdd,Nat.reduceSub,Array.replicate_succ,Array.replicate_zero,List.push_toArray,List.append_toArray,List.nil_append,List.cons_append]
 obtain ⟨A0,c0,rfl,hc0,hc00⟩:=HL.out.val
 gi_wp2_with fail
 obtain ⟨vx,hvx⟩:∃ vx,Value.slice Ax x.v.length cx=vx:=⟨_,rfl⟩
 rw [hvx] at HX ⊢
 clear hvx hcx hcx0
 obtain ⟨W1,hW1⟩:∃ W1,((w.alloc (.cells #[.pointer (some ⟨g,0,none⟩)] 111)).alloc (.cells #[.int .i64 x.g,vx] 61)).alloc (.cells #[.slice none 0 0] 53)=W1:=⟨_,rfl⟩
 have hX1:Ext w W1:=by rw [<- hW1];exact (((Ext.refl w).alloc _).alloc _).alloc _
 have bS1:Boxed W1 w.heap.size 111 (.pointer (some ⟨g,0,none⟩)):=by rw [<- hW1];exact ((Boxed.new w 111 _).alloc _).alloc _
 have bX1:W1.heap[w.heap.size+1]? = some (.cells #[.int .i64 x.g,vx] 61 (0,0)):=by
  rw [<- hW1]
  have h:=World.alloc_heap_new (w.alloc (.cells #[.pointer (some ⟨g,0,none⟩)] 111)) (.cells #[.int .i64 x.g,vx] 61)
  rw [World.size_alloc] at h
  exact (Below.heap_alloc _ _ _ (by simp)).trans h
 have bN1:Boxed W1 (w.heap.size+2) 53 (.slice none 0 0):=by
  rw [<- hW1]
  have h:=Boxed.new ((w.alloc (.cells #[.pointer (some ⟨g,0,none⟩)] 111)).alloc (.cells #[.int .i64 x.g,vx] 61)) 53 (.slice none 0 0)
  rwa [World.size_alloc,World.size_alloc] at h
 rw [hW1]
 clear hW1
 have HB1:=Hd bS1
 have HB2:=Hd bX1
 have HB3:=Hd bN1
 refine wpIn_loop (fun a' wr=>∃ u9 u14 u15 u16 u17 u18 u19 u20 u59:Value,∃ (ds:List Deferred),(∃ (k:Nat) (vk:Value),u14=Value.int .i64 (k:Int)∧k<=l.length∧Boxed wr w.heap.size 111 (.pointer (some ⟨g,0,none⟩))∧wr.heap[w.heap.size+1]? = some (.cells #[.int .i64 x.g,vx] 61 (0,0))∧Boxed wr (w.heap.size+2) 53 vk∧qab qac 1 3 (w.heap.size+3) (fun _=>False) wr (qb2 s x (l.take k)) vk ∧
   Marks (w.heap.size+3) ds wr∧Ext w wr) ∧
   a'={ tmps:=#[Value.pointer (some ⟨g,0,none⟩),Value.slice A0 l.length c0,Value.agg #[.int .i64 x.g,vx],Value.pointer (some ⟨w.heap.size,0,none⟩),undef,Value.pointer (some ⟨w.heap.size+1,0,none⟩),Value.slice none 0 0,Value.pointer (some ⟨w.heap.size+2,0,none⟩),undef,u9,undef,undef,Value.slice A0 l.length c0,Value.int .i64 (l.length:Int),u14,u15,u16,u17,u18,u19,u20,undef,undef,undef,undef,undef,undef,undef,undef,undef,undef,undef,undef,undef,undef,undef,undef,undef,undef,undef,undef,undef,undef,undef,undef,undef,undef,undef,undef,undef,undef,undef,undef,undef,undef,undef,undef,undef,undef,u59,undef,undef,undef],defers:=ds })
  (fun a' _=>l.length-(intOf (a'.tmps.getD 14 undef)).toNat) ?_ ?_
 ·refine ⟨_,_,_,_,_,_,_,_,_,[],⟨0,_,rfl,Nat.zero_le _,HB1.out,HB2.out,HB3.out,?_,Marks.nil _ _,hX1⟩,rfl⟩
  simp only [List.take_zero]
  exact qab.nil ..
 rintro _ wr ⟨u9,u14,u15,u16,u17,u18,u19,u20,u59,ds,⟨k,vk,rfl,hk,q1,qx,q2,hown,hM,hX⟩,rfl⟩
 have e1:=q1.cell
 have e2:=q2.cell
 by_cases hlt:k<l.length
 ·obtain ⟨b,off,cs,rfl,hb,hT,hl,hr,hcell⟩:=((RSl.good qac.good).bel HL.out hX).get k hlt
  obtain rfl:=hr.1
  have g0:=(by simpa using hcell.get 0 _:wr.cell? ⟨b,off+k,none⟩=some (.int .i64 l[k]))
  have HO:=Hd hown
  have HM:=Hd hM
  have hc175:=fun W=>(callsIn_wide.1 (qjg 3 (some ⟨g,0,none⟩) l[k] W))
  clear hown hM hcell hr hl hT
  gi_wp2_with fail
  refine ⟨trivial,?_⟩
  gi_at_call 175
  refine (callsIn_wide.2 (hc175 _)).mono ?_
  rintro e w' ⟨rfl,rfl⟩
  gi_wp2_with fail
  obtain ⟨W0,hW0⟩:∃ W0,(wr.alloc (.cells #[.pointer (some ⟨g,0,none⟩)] 111)).alloc (.cells #[.int .i64 l[k]] 3)=W0:=⟨_,rfl⟩
  have hsz0:W0.heap.size=wr.heap.size+2:=by rw [<- hW0];show (World.heap _).size=_;simp
  have hX0:Ext wr W0:=by rw [<- hW0];exact ((Ext.refl wr).alloc _).alloc _
  have bs0:Boxed W0 wr.heap.size 111 (.pointer (some ⟨g,0,none⟩)):=by rw [<- hW0];exact ((Boxed.new wr 111 _).alloc _)
  have bt0:Boxed W0 (wr.heap.size+1) 3 (.int .i64 l[k]):=by rw [<- hW0];have:=Boxed.new (wr.alloc (.cells #[.pointer (some ⟨g,0,none⟩)] 111)) 3 (.int .i64 l[k]);rwa [World.size_alloc] at this
  rw [hW0]
  clear hW0
  obtain ⟨Z,hZ⟩:∃ Z:Nat->Prop,Z=fun q=>(S q∧q<w.heap.size)∨q=wr.heap.size:=⟨_,rfl⟩
  have hS0:qav Z W0 g s:=(HS.out.mono (S':=Z) fun q h1 h2=>by rw [hZ];exact .inl ⟨h2,h1⟩).bel (hX.trans' hX0)
  have hx0:RLb Z W0 x [.int .i64 x.g,vx]:=RLb.good.bel (RLb.good.mono HX.out (S':=Z) fun q h1 h2=>by rw [hZ];exact .inl ⟨h2,h1⟩) (hX.trans' hX0)
  have hZ':∀ q,Z q->q<W0.heap.size:=fun q hq=>by
   rw [hZ] at hq
   have:=hX.size
   rcases hq with ⟨_,h⟩ | h <;> omega
  have hr0:qab qac 1 3 (w.heap.size+3) (fun _=>False) W0 (qb2 s x (l.take k)) vk:=HO.out.ext qac.good hX0
  have q20:Boxed W0 (w.heap.size+2) 53 vk:=(Ext.kp (S:=fun _=>True) hX0).block _ q2.lt trivial |>.trans q2
  have q10:Boxed W0 w.heap.size 111 (.pointer (some ⟨g,0,none⟩)):=(Ext.kp (S:=fun _=>True) hX0).block _ q1.lt trivial |>.trans q1
  have hltx:w.heap.size+1<wr.heap.size:=(Array.getElem?_eq_some_iff.1 qx).1
  have qx0:W0.heap[w.heap.size+1]? = some (.cells #[.int .i64 x.g,vx] 61 (0,0)):=(Ext.kp (S:=fun _=>True) hX0).block _ hltx trivial |>.trans qx
  have hown0:∀ q,vk.ownBlock=some q->w.heap.size+3<=q∧q<wr.heap.size:=fun q hq=>by obtain ⟨news,h1,_⟩:=HO.out;exact qb1 h1 q hq
  have hlt1:=q1.lt
  have hlt2:=q2.lt
  have hwr:=hX.size
  have hZn:∀ q,Z q->¬ (q=w.heap.size+2∨vk.ownBlock=some q):=fun q hq e=>by
   rw [hZ] at hq
   rcases e with rfl | e
   ·rcases hq with ⟨_,h⟩ | h <;> omega
   ·have:=hown0 q e
    rcases hq with ⟨_,h⟩ | h <;> omega
  have hIown:=qrh (base:=w.heap.size+3) (vk0:=vk) (row:=fun pre=>qb4 s x pre (qb2 s x (l.take k))) q20.lt
  refine wpIn_rangeFunc_ownH rfl (by omega) (gf:=234) (lb:=#[.pointer (some ⟨wr.heap.size,0,none⟩),.pointer (some ⟨wr.heap.size+1,0,none⟩)]) rfl trivial (enters_of Tryz.func234 (by kernel_rfl) rfl)
   (qjh (3-1) (by omega) Z s g wr.heap.size (wr.heap.size+1) l[k] (by rw [hZ];exact .inr rfl) W0 hS0 bs0.cell bt0.cell) kp_t (kp_b hZ') (Below.refl _ _) (fun _=>rfl)
   (qdr (w.heap.size+2) (w.heap.size+3) vk W0 (fun pre=>qb4 s x pre (qb2 s x (l.take k)))) (fun _ _ _=>False) hIown (fun _ _ _ _ _ hs _ _=>hs)
   (qdr.start q20 hr0)
   (fun i a' W=>∃ Bx,W0.heap.size<=Bx∧W.heap[Bx]? = some (.cells #[.int .i64 s.es[i].f,.int .i64 s.es[i].l,.int .i64 s.es[i].t] 88)∧a'={ tmps:=#[Value.pointer (some ⟨g,0,none⟩),Value.slice (some ⟨b,off,none⟩) l.length c0,Value.agg #[.int .i64 x.g,vx],Value.pointer (some ⟨w.heap.size,0,none⟩),undef,Value.pointer (some ⟨w.heap.size+1,0,none⟩),Value.slice none 0 0,Value.pointer (some ⟨w.heap.size+2,0,none⟩),undef,Value.int .i64 l[k],undef,Value.pointer (some ⟨Bx,0,none⟩),Value.slice (some ⟨b,off,none⟩) l.length c0,Value.int .i64 (l.length:Int),Value.int .i64 (k:Int),Value.bool true,Value.pointer (some ⟨b,off+k,none⟩),Value.int .i64 l[k],Value.pointer (some ⟨g,0,none⟩),Value.int .i64 l[k],Value.func (Fn.func 234) #[] #[Value.pointer (some ⟨wr.heap.size,0,none⟩),Value.pointer (some ⟨wr.heap.size+1,0,none⟩)],Value.int .i64 (i.1:Int),Value.agg #[.int .i64 s.es[i].f,.int .i64 s.es[i].l,.int .i64 s.es[i].t],undef,undef,undef,undef,undef,undef,undef,undef,undef,undef,undef,undef,undef,undef,undef,undef,undef,undef,undef,undef,undef,undef,undef,undef,undef,undef,undef,undef,undef,undef,undef,undef,undef,undef,undef,undef,u59,undef,undef,undef],defers:=[] })
   (fun i a' _ X Y row hs hg hr=>by
    obtain ⟨Bx,h1,h2,h3⟩:=hs
    exact ⟨Bx,h1,(hg.block Bx (Array.getElem?_eq_some_iff.1 h2).1 fun e=>by
     obtain ⟨_,o',h4,h5⟩:=hr Bx e.symm
     rw [h2] at h4
     cases h4
     cases h5).trans h2,h3⟩)
   ?assign ?body ?done ?stop
  case assign =>
   rintro l2 pre i W K hI hK
   unfold qgy
   gi_wp2
   refine hK _ _ ((KeepsOthers.alloc _ _).from _) ⟨by simp,fun q h1 _=>Below.heap_alloc _ _ _ h1⟩ (hIown.alloc _ hI) ⟨W.heap.size,hI.bt.size,World.alloc_heap_new W _,rfl⟩
  case body =>
   rintro l2 pre i a' W hl2 _ hI ⟨Bx,hBx,hbox,rfl⟩ hlen2
   obtain ⟨xi,hxl⟩:=i
   have hed:=(hok.2.2.2.2.2 xi hxl).1
   have hlab:0<=s.es[xi].l∧s.es[xi].l<s.ls.length:=by
    simp only [qbw,isB,Bool.and_eq_true,decide_eq_true_eq] at hed
    omega
   have hto:I64 s.es[xi].t:=by
    simp only [qbw,isB,Bool.and_eq_true,decide_eq_true_eq] at hed
    have:=hok.2.1
    exact ⟨by omega,by omega⟩
   obtain ⟨li,hli⟩:∃ li:Nat,s.es[xi].l=(li:Int):=⟨s.es[xi].l.toNat,by omega⟩
   have hli2:li<s.ls.length:=by omega
   obtain ⟨vk2,q3,hown3,hat3⟩:=hI.row
   have hlen3:(qb4 s x pre (qb2 s x (l.take k))).length<=100000:=by have:=qng s x pre (qb2 s x (l.take k));have:=qmy s x (l.take k);have:=hok.2.2.2.1;omega
   have hbt:=hI.bt
   obtain ⟨A3,c3,rfl,hc3,hc30⟩:=(hown3.sl qac.good (by decide)).val
   have hkZ:=hbt.kp fun q _ hq=>hZn q hq
   obtain ⟨v',u',m,f,h1,h2,h3,h4,h5,h6,h7,h8⟩:=(hS0.move hkZ).ex
   obtain ⟨bl,ol,cl,csl,rfl,hbl,hSl,hll,hrl,hcl⟩:=h2.at li hli2
   have hxW:=RLb.good.move hx0 hkZ
   obtain ⟨il,vl,rfl,hvl⟩:=id hrl
   have hcmp:=fun X=>qhu Z s.ls[li] x _ _ (qak W X) (RLb.good.bel hrl (qa5 W X)) (RLb.good.bel hxW (qa5 W X))
   have hvis:=fun X=>qih s.ls[li].g vl (qak W X)
   have g1:W.cell? ⟨g,1,none⟩=some (.slice (some ⟨bl,ol,none⟩) s.ls.length cl):=cell_of_row W _ 1 _ _ _ h1
   have gl:W.cell? ⟨bl,ol+li*2,none⟩=some (.int .i64 s.ls[li].g):=by simpa using hcl.get 0 _
   have gl1:W.cell? ⟨bl,ol+li*2+1,none⟩=some vl:=hcl.get 1 _
   have x1:W.cell? ⟨Bx,1,none⟩=some (.int .i64 (li:Int)):=by rw [<- hli];exact cell_of_row W _ 1 _ _ _ hbox
   have x2:W.cell? ⟨Bx,2,none⟩=some (.int .i64 s.es[xi].t):=cell_of_row W _ 2 _ _ _ hbox
   have y1:W.cell? ⟨w.heap.size,0,none⟩=some (.pointer (some ⟨g,0,none⟩)):=hbt.cell q10.cell (by
    rintro (e | e)
    ·exact absurd e (by simp)
    ·have:=(hown0 _ e).1;simp at this;omega)
   have hxb:W.heap[w.heap.size+1]? = some (.cells #[.int .i64 x.g,vx] 61 (0,0)):=(hbt.block _ (by omega) (by
    rintro (e | e)
    ·omega
    ·have:=(hown0 _ e).1;omega)).trans qx0
   have z0:W.cell? ⟨w.heap.size+1,0,none⟩=some (.int .i64 x.g):=cell_of_row W _ 0 _ _ _ hxb
   have z1:W.cell? ⟨w.heap.size+1,1,none⟩=some vx:=cell_of_row W _ 1 _ _ _ hxb
   have y2:=q3.cell
   have HI:=Hd hI
   have HR3:=Hd hown3
   have HQ3:=Hd q3
   have HA3:=Hd hat3
   have hsnoc:=Hd (quy s x pre ⟨xi,hxl⟩ (qb2 s x (l.take k)))
   have hhas:=Hd (qgj s (fun y=>qa0 y.g && decide (qan y x=0)) hli hli2)
   have hcon0:=fun X=>qrz _ (qb4 s x pre (qb2 s x (l.take k))) s.es[xi].t _ (qak W X) ((RSl.good qac.good).bel (hown3.sl qac.good (by decide)) (qa5 W X))
   have hsame0:¬ (qa0 s.ls[li].g=true∧qan s.ls[li] x=0∧s.es[xi].t∉qb4 s x pre (qb2 s x (l.take k)))->Hid (qb4 s x (pre++[⟨xi,hxl⟩]) (qb2 s x (l.take k))=qb4 s x pre (qb2 s x (l.take k))):=fun hn=>by
    show _=_
    rw [hsnoc.out,qev,if_neg]
    rintro ⟨h,h'⟩
    rw [show s.es[(⟨xi,hxl⟩:Fin s.es.length)]=s.es[xi] from rfl,hhas.out] at h
    simp only [Bool.and_eq_true,decide_eq_true_eq] at h
    exact hn ⟨h.1,h.2,h'⟩
   clear hI hown3 q3 h2 h3 h6 h7 h8 hrl hcl hvl hed h1 hbt hat3 hxb hxW hbox
   by_cases hvb:qa0 s.ls[li].g=true
   case neg =>
    have hv:∀ X,Calls Tryz.prog 176 #[.agg #[.int .i64 s.ls[li].g,vl]] (qak W X) fun e w'=>e = .returned (.bool false)∧Ext (qak W X) w':=fun X=>by have:=hvis X;rwa [eq_false_of_ne_true hvb] at this
    have hsame:=hsame0 (fun h=>hvb h.1)
    clear hcon0 hvis hcmp hvb hsame0
    gi_wp2_with fail
    (refine qcy (by kernel_rfl) (by kernel_rfl) (by kernel_rfl) ?_;(repeat (first | go_big_quiet_step ((go_at_call 176;exact qbe (hv _))) | quiet_step ((go_at_call 176;exact qbe (hv _)))));refine wpQuiet_nil ?_)
    intro w4 hx4
    gi_wp2
    exact ⟨qeq hx4 _,Ext.kp hx4,HI.out.same hx4 hsame.out⟩
   have hv:∀ X,Calls Tryz.prog 176 #[.agg #[.int .i64 s.ls[li].g,vl]] (qak W X) fun e w'=>e = .returned (.bool true)∧Ext (qak W X) w':=fun X=>by have:=hvis X;rwa [hvb] at this
   by_cases hcz:qan s.ls[li] x=0
   case neg =>
    have hsame:=hsame0 (fun h=>hcz h.2.1)
    have hb1:(qan s.ls[li] x == 0)=false:=beq_eq_false_iff_ne.2 hcz
    clear hcon0 hvis hsame0 hcz
    gi_wp2_with fail
    (refine qcy (by kernel_rfl) (by kernel_rfl) (by kernel_rfl) ?_;(repeat (first | go_big_quiet_step ((first | (go_at_call 176;exact qbe (hv _)) | (go_at_call 166;exact qap (hcmp _)))) | quiet_step ((first | (go_at_call 176;exact qbe (hv _)) | (go_at_call 166;exact qap (hcmp _))))));refine wpQuiet_nil ?_)
    intro w4 hx4
    gi_wp2
    exact ⟨qeq hx4 _,Ext.kp hx4,HI.out.same hx4 hsame.out⟩
   have hb1:(qan s.ls[li] x == 0)=true:=beq_iff_eq.2 hcz
   by_cases hmem:s.es[xi].t∈qb4 s x pre (qb2 s x (l.take k))
   ·have hcon:∀ X,Calls Tryz.prog 32 #[.slice A3 (qb4 s x pre (qb2 s x (l.take k))).length c3,.int .i64 s.es[xi].t] (qak W X) fun e w'=>e = .returned (.bool true)∧w'=qak W X:=fun X=>by have:=hcon0 X;rwa [decide_eq_true hmem] at this
    have hsame:=hsame0 (fun h=>h.2.2 hmem)
    clear hcon0 hvis hsame0 hcz hmem
    gi_wp2_with fail
    (refine qcy (by kernel_rfl) (by kernel_rfl) (by kernel_rfl) ?_;(repeat (first | go_big_quiet_step ((first | (go_at_call 176;exact qbe (hv _)) | (go_at_call 166;exact qap (hcmp _)) | (go_at_call 32;exact qb7 (hcon _)))) | quiet_step ((first | (go_at_call 176;exact qbe (hv _)) | (go_at_call 166;exact qap (hcmp _)) | (go_at_call 32;exact qb7 (hcon _))))));refine wpQuiet_nil ?_)
    intro w4 hx4
    gi_wp2
    exact ⟨qeq hx4 _,Ext.kp hx4,HI.out.same hx4 hsame.out⟩
   ·have hcon:∀ X,Calls Tryz.prog 32 #[.slice A3 (qb4 s x pre (qb2 s x (l.take k))).length c3,.int .i64 s.es[xi].t] (qak W X) fun e w'=>e = .returned (.bool false)∧w'=qak W X:=fun X=>by have:=hcon0 X;rwa [decide_eq_false hmem] at this
    have hadd:Hid (qb4 s x (pre++[⟨xi,hxl⟩]) (qb2 s x (l.take k))=qb4 s x pre (qb2 s x (l.take k))++[s.es[xi].t]):=by
     show _=_
     rw [hsnoc.out,qev,if_pos ⟨by rw [show s.es[(⟨xi,hxl⟩:Fin s.es.length)]=s.es[xi] from rfl,hhas.out];simp [hvb,hcz],hmem⟩]
     rfl
    clear hcon0 hvis hsame0 hcz hmem
    gi_wp2_with fail
    (refine qcy (by kernel_rfl) (by kernel_rfl) (by kernel_rfl) ?_;(repeat (first | go_big_quiet_step ((first | (go_at_call 176;exact qbe (hv _)) | (go_at_call 166;exact qap (hcmp _)) | (go_at_call 32;exact qb7 (hcon _)))) | quiet_step ((first | (go_at_call 176;exact qbe (hv _)) | (go_at_call 166;exact qap (hcmp _)) | (go_at_call 32;exact qb7 (hcon _))))));refine wpQuiet_nil ?_)
    intro w4 hx4
    obtain ⟨i3,hi3,hz0,hz1,hz2⟩:=info3
    have q4:Boxed w4 (w.heap.size+2) 53 _:=((Ext.kp (S:=fun _=>True) hx4).block _ HQ3.out.lt trivial).trans HQ3.out
    have r4:=HR3.out.ext qac.good hx4
    have HR4:=Hd r4
    obtain ⟨news,hrow4,hF4⟩:=r4
    obtain ⟨rfl,hi4⟩:=hF4.ints
    have y4:=q4.cell
    have x4:=Ext.keep hx4 x2
    have hsz4:=hx4.size
    have hszW:=HI.out.bt.size
    have HQ4:=Hd q4
    clear hF4 q4 y1 y2 x1 x2 g1 gl gl1 z0 z1 hcon hcmp hv
    gi_wp2_with (gi_at_builtin;refine qoq _ rfl _ _ 53 rfl (w.heap.size+3) 3 i3 (.int .i64 0) 1 8 Tryz.underlying53 hi3 hz0 hz1 hz2 rfl (by decide) _ _ _ rfl (hrow4.alloc _) ⟨w4.heap.size,0,none⟩ 1 1 [.int .i64 s.es[xi].t] rfl rfl (cell_one_new _ _ _) (by simp [Value.oneCell']) (by unfold maxLen;omega) (by omega) (by simp;omega) ?_;intro v5 w5 hown5 hgrow5 hat5;obtain ⟨g5,c5,rfl⟩:=ownsRow_succ hown5;have p5:=(qj7 hi4 hto HQ4.out hrow4 hown5 hgrow5).1;have p5c:=p5.cell;have p5f:=p5.frozen)
    rw [World.size_alloc] at hat5
    have hI4:qdr (w.heap.size+2) (w.heap.size+3) vk W0 (fun pre=>qb4 s x pre (qb2 s x (l.take k))) pre w4:=HI.out.move hx4
    obtain ⟨hk5,hp5⟩:=qry HQ4.out HR4.out hto hown5 hgrow5 W0.heap.size (Z:=Z) (fun q _ hq e=>by
     rcases e with e | e
     ·exact hZn q hq (.inl e)
     ·rcases HA3.out with h0 | h0
      ·exact hZn q hq (.inr (h0 ▸ e))
      ·have:=h0 q e;have:=hZ' q hq;omega)
    exact ⟨(qeq hx4 _).trans hk5,(Ext.kp hx4).trans hp5,hI4.push HQ4.out HR4.out HA3.out hto hown5 hgrow5 hat5 hadd.out⟩
  case done =>
   rintro D ys W hD rfl hI hD0
   obtain ⟨vk2,q3,hown3,hat3⟩:=hI.row
   have HD:=Hd hD0
   have HQ:=Hd q3
   have HW:=Hd hown3
   have HI:=Hd hI
   clear hD0 q3 hown3 hI
   gi_wp2
   have hsW:=HI.out.bt.size
   refine ⟨⟨_,_,_,_,_,_,_,_,_,_,?calmP,rfl⟩,?calmM⟩
   case calmP =>
    have hbx:Boxed W w.heap.size 111 (.pointer (some ⟨g,0,none⟩)):=(HI.out.bt.block _ q10.lt (by
     rintro (e | e)
     ·exact absurd e (by omega)
     ·have:=(hown0 _ e).1;omega)).trans q10
    have hxb:W.heap[w.heap.size+1]? = some (.cells #[.int .i64 x.g,vx] 61 (0,0)):=(HI.out.bt.block _ (by omega) (by
     rintro (e | e)
     ·omega
     ·have:=(hown0 _ e).1;omega)).trans qx0
    have hXX:Ext w W:=Bt.new (hX.trans' hX0) HI.out.bt fun q _ hq=>by
     rcases hq with rfl | hq
     ·omega
     ·have:=(hown0 q hq).1;omega
    refine ⟨k+1,vk2,by go_num,by omega,hbx,hxb,HQ.out,?_,HM.out.cons (by omega) (by omega) HD.out fun r h1 h2=>?_,hXX⟩
    ·rw [List.take_succ_eq_append_getElem hlt,qum]
     exact HW.out
    ·have h3:W0.heap[r]? = some (.deferred (some [])):=((Ext.kp (S:=fun _=>True) hX0).block r h1 trivial).trans h2
     refine (HI.out.bt.block r (by omega) ?_).trans h3
     rintro (e | e)
     ·subst e
      rw [show W0.heap[w.heap.size+2]? = _ from q20] at h3
      cases h3
     ·exact hr0.not_def h3 e
   case calmM=>simp [intOf];omega
  case stop =>
   rintro D c pre W _ _ h _
   exact h.elim
 ·have hkk:k=l.length:=by omega
  have hlb:=qmy s x (l.take k)
  have hlb2:(qb2 s x (l.take k)).length<=200000:=by have:=hok.2.2.2.1;omega
  have hval:qc2 s x l=qau s (qb2 s x (l.take k)):=by rw [qc2,hkk,List.take_length]
  have HV:=Hd hval
  have HO:=Hd hown
  have HM:=Hd hM
  obtain ⟨Ak,ck,rfl,hck,hck0⟩:=(hown.sl qac.good (by decide)).val
  have hw3:w.heap.size+3<=wr.heap.size:=q2.lt
  clear hown hM hval hlb hkk
  gi_wp2_with fail
  refine ⟨trivial,?_⟩
  gi_at_call 208
  refine (callsIn_wide.2 (qlx (fun _=>True) s hok g _ _ wr ((HS.out.mono fun _ _ _=>trivial).bel hX) ((RSl.good qac.good).mono (HO.out.sl qac.good (by decide)) fun _ _ _=>trivial) hlb2)).mono ?_
  rintro e w2 ⟨v2,rfl,ho2,hb2⟩
  have HO2:=Hd ho2
  obtain ⟨A2,c2,rfl,hc2,hc20⟩:=(ho2.sl qac.good (by decide)).val
  clear ho2
  gi_wp2_with fail
  have hM2:Marks (w.heap.size+3) ds w2:=HM.out.keep fun r hr h=>((Ext.kp (S:=fun _=>True) hb2).block r (Array.getElem?_eq_some_iff.1 h).1 trivial).trans h
  refine Marks.leave (by simp) hM2 fun w3 hb3=>?_
  refine ⟨_,results_tmp rfl _ _ _,_,rfl,?_,?_⟩
  ·rw [HV.out]
   exact (HO2.out.bt qac.good hb3 fun b _ hz=>⟨fun h=>h,HO2.out.not_def hz.2⟩).base (by omega)
  ·exact Bt.new (hX.trans' hb2) hb3 fun i _ hi=>by have:=hi.1;omega
end
end Go.Proofs.YtegenalcheooeaaGreat
