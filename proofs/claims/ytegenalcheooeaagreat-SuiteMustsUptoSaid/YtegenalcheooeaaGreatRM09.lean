/- Of the proof of a law of the suites: RAccepted, RApp. -/
import Derived.Test.YtegenalcheooeaaGreatB26
import Derived.Test.YtegenalcheooeaaGreatB30
import Derived.Test.YtegenalcheooeaaGreatRM04
set_option linter.unusedSectionVars false
set_option linter.unusedSimpArgs false
set_option linter.unusedVariables false
namespace Go.Proofs.YtegenalcheooeaaGreat
open Go.RowKit
attribute [local go_sem] cell?_exto
section
open Go.Shelf
def acB (s:Sy) (bs:List Bool) (e:Ed):Bool:=qc1 bs e.f.toNat && (match s.ls[e.l.toNat]? with | some y=>qa0 y.g | none=>false)
def acX (s:Sy) (bs:List Bool) (k:Nat):List Int:=((s.es.take k).filter (acB s bs)).map (·.l)
theorem acX_succ (s:Sy) (bs:List Bool) {k:Nat} (h:k<s.es.length):acX s bs (k+1)=if acB s bs s.es[k]=true then acX s bs k++[s.es[k].l] else acX s bs k:=by
 unfold acX
 rw [List.take_succ_eq_append_getElem h,List.filter_append,List.map_append,List.filter_cons]
 split <;> simp
def qed (s:Sy) (n st:Nat):List Bool:=marksOf s.ls.length (acX s (qc2 s ((List.replicate n false).set st true)) s.es.length)
theorem qgq (s:Sy) (n st:Nat):(qed s n st).length=s.ls.length:=qbz _ _
set_option maxHeartbeats 8000000 in
set_option maxRecDepth 100000 in
theorem qrn (S:Nat→Prop) (s:Sy) (hok:qai s) (cs:List Value) (n st:Nat) (hn:s.n=(n:Int)) (hst:st<n) (w:World) (hx:RSy S w s cs) :
  Calls Tryz.prog 156 #[.agg cs.toArray,.int .i64 (st:Int)] w (qia s.ls.length (qed s n st) w):=by
 have hn1:n≤20000:=by have:=hok.2.1;omega
 have hll:=hok.2.2.1
 have hel:=hok.2.2.2.1
 have hed:Hid (∀ j,(h:j<s.es.length)→qb1 s s.es[j]=true):=fun j h=>(hok.2.2.2.2.2 j h).1
 obtain ⟨B0,hB0⟩:∃ B0,(List.replicate n false).set st true=B0:=⟨_,rfl⟩
 have hB0l:B0.length=n:=by rw [← hB0];simp
 have hcl:=fun W (hW:Ext w W) v (hv:RSl qad 1 (fun _=>True) W B0 [v])=>qnk (fun _=>True) s hok cs B0 v W (RSy.good.bel (RSy.good.mono hx fun _ _ _=>trivial) hW) hv (by rw [hB0l,hn])
 have HVAL:Hid (qed s n st=marksOf s.ls.length (acX s (qc2 s B0) s.es.length)):=by show _=_;rw [qed,hB0]
 have HBL:Hid ((qc2 s B0).length=n):=qn4 s B0 n hn
 obtain ⟨BS,hBS⟩:∃ BS,qc2 s B0=BS:=⟨_,rfl⟩
 rw [hBS] at hcl HVAL HBL
 rw [hB0l] at hcl
 obtain ⟨_,v1,u1,rfl,hv,hu⟩:=id hx
 obtain ⟨Al,cl,rfl,hcl1,hcl0⟩:=hv.val
 obtain ⟨Ae,ce,rfl,hce,hce0⟩:=hu.val
 have HLB:=Hd hv
 have HEB:=Hd hu
 have HN:=Hd hn
 rw [hn] at hcl ⊢
 clear hx hv hu hn hok hBS hB0l
 obtain ⟨W0,hW0⟩:∃ W0,w.alloc (.cells #[.int .i64 (n:Int),.slice Al s.ls.length cl,.slice Ae s.es.length ce] 25)=W0:=⟨_,rfl⟩
 have hE0:Ext w W0:=by rw [← hW0];exact (Ext.refl w).alloc _
 have hb0:qah W0 w.heap.size 25 [.int .i64 (n:Int),.slice Al s.ls.length cl,.slice Ae s.es.length ce]:=by rw [← hW0];exact qah.new w 25 _
 have hz0:W0.heap.size=w.heap.size+1:=by rw [← hW0,World.size_alloc]
 have hrow:=qgs W0 W0.heap.size n (Nat.le_refl _) (by omega)
 have hmk:=qh8 W0 n (by omega)
 obtain ⟨W1,hW1⟩:∃ W1,W0.alloc (.cells (Array.replicate n (.bool false)) 4)=W1:=⟨_,rfl⟩
 rw [hW1] at hrow hmk
 have hE1:Ext W0 W1:=by rw [← hW1];exact (Ext.refl _).alloc _
 have hb1:=hb0.ext hE1
 have hz1:W1.heap.size=w.heap.size+2:=by rw [← hW1,World.size_alloc,hz0]
 rw [hz0] at hrow hmk
 have hset:=qab.put1 qad.good hrow (by simp) st (.bool true) true (by simpa using hst) rfl
 rw [hB0] at hset
 obtain ⟨_,gc,_,gf⟩:=qab.get1 hrow st (by simpa using hst)
 have hbs:Bt (fun q=>q=w.heap.size+1) W1 (W1.setCell ⟨w.heap.size+1,st,none⟩ (.bool true)):=Bt.set (Z:=fun q=>q=w.heap.size+1) (Bt.refl _ W1) (p:=⟨w.heap.size+1,st,none⟩) (.inr rfl) _
 have hb2:=hb1.bt hbs (by omega)
 have hE2:Ext w (W1.setCell ⟨w.heap.size+1,st,none⟩ (.bool true)):=Bt.new (hE0.trans' hE1) hbs fun i _ hi=>by
  have h:i=w.heap.size+1:=hi
  omega
 have HE2:=Hd hE2
 have HCL:=Hd (hcl _ hE2 _ ((RSl.good qad.good).mono (hset.sl qad.good (by decide)) fun _ _ _=>trivial))
 have HB2:=Hd hb2
 have HW0:=Hd hW0
 have x1:=hb0.cell 0 _
 have xz:=hb0.lt
 have y1:=hb1.lt
 have c0:=hb2.cell 0 _
 have c1:=hb2.cell 1 _
 have c2:=hb2.cell 2 _
 have cz:=hb2.lt
 have zn:(0:Int)≤(st:Int):=by omega
 have zn2:(st:Int)<(n:Int):=by omega
 clear hb0 hb1 hb2 hbs hE2 hE0 hE1 hrow hset hcl hW0 hW1 hz0 hz1 hB0
 go_enter Tryz.func156,Tryz.ntmps156
 go_upto_region 1 with (fail)
 rw [HW0.out]
 go_wp2_with fail
 obtain ⟨W2,hW2⟩:∃ W2,W1.setCell ⟨w.heap.size+1,st,none⟩ (.bool true)=W2:=⟨_,rfl⟩
 rw [hW2] at HCL HE2 HB2 c0 c1 c2 cz
 rw [hW2]
 go_wp2_with fail
 refine HCL.out.mono ?_
 rintro e w3 ⟨A,c,rfl,h1,h2⟩
 have HE3:Hid (Ext w w3):=HE2.out.trans' h2
 have hb3:=HB2.out.ext h2
 have HM:Hid (RSl qad 1 (fun _=>True) w3 BS [.slice A n c]):=(RSl.good qad.good).mono (h1.sl qad.good (by decide)) fun _ _ _=>trivial
 obtain ⟨m,hm⟩:∃ m,s.ls.length=m:=⟨_,rfl⟩
 rw [hm] at HVAL hll HB2 c1 hb3
 have hrow:=qgs w3 w.heap.size m HE3.out.size (by omega)
 have hmk:=qh8 w3 m (by omega)
 obtain ⟨W4,hW4⟩:∃ W4,w3.alloc (.cells (Array.replicate m (.bool false)) 4)=W4:=⟨_,rfl⟩
 rw [hW4] at hrow hmk
 have hE4:Ext w3 W4:=by rw [← hW4];exact (Ext.refl _).alloc _
 have HROW:Hid (RBs w.heap.size W4 (marksOf m (acX s BS 0)) (.slice (some ⟨w3.heap.size,0,none⟩) m m)):=by
  show RBs _ _ _ _
  rw [acX,List.take_zero,List.filter_nil,List.map_nil,qk0]
  exact hrow
 have hz4:W4.heap.size=w3.heap.size+1:=by rw [← hW4,World.size_alloc]
 have hb4:=hb3.ext hE4
 have HB4:=Hd hb4
 have HE4:=Hd hE4
 have hpl:w.heap.size<w3.heap.size:=by have:=hb3.lt;omega
 have HW:=Hd (HE3.out.size)
 have HM0:=Hd hm
 obtain ⟨gm,hgm⟩:∃ gm,w3.heap.size=gm:=⟨_,rfl⟩
 have HG:Hid (w3.heap.size≤gm):=by show _≤_;omega
 have hg1:gm<W4.heap.size:=by omega
 have hgp:w.heap.size≠gm:=by omega
 rw [hgm] at HROW hmk
 have x0:=hb3.cell 0 _
 have x1:=hb3.cell 1 _
 have x2:=hb3.cell 2 _
 have xz:=hb3.lt
 clear hb3 hb4 hE4 hW4 hz4 hrow h1 h2 c0 c1 c2 cz hW2 gc gf hpl hm hgm HCL HB2 HE2
 go_wp2_with fail
 go_loopw [7] (fun vi wr=>∃ k:Nat,k≤s.es.length∧vi = .int .i64 k∧Bt (fun q=>q=gm) W4 wr∧Hid (RBs w.heap.size wr (marksOf m (acX s BS k)) (.slice (some ⟨gm,0,none⟩) m m))) (fun vi _=>s.es.length-(intOf vi).toNat)
 case atStart=>exact ⟨0,Nat.zero_le _,rfl,Bt.refl _ _,HROW.out⟩
 case round =>
  clear x0 x1 x2 xz
  obtain ⟨k,hk,rfl,hbt,hMK⟩:=hrel
  have hE:Ext w3 wr:=Bt.new HE4.out hbt fun i _ hi=>by subst hi;exact HG.out
  have hbx:=HB4.out.bt hbt hgp
  have x0:=hbx.cell 0 _
  have x1:=hbx.cell 1 _
  have x2:=hbx.cell 2 _
  have xz:=hbx.lt
  have hgl:gm<wr.heap.size:=Nat.lt_of_lt_of_le hg1 hbt.size
  clear hbx
  by_cases hlt:k<s.es.length
  ·obtain ⟨b,off,cs2,rfl,hb,hS,hl,hr,hcell⟩:=(qb6.good.bel HEB.out (HE3.out.trans' hE)).get k hlt
   obtain ⟨_,_,_,rfl⟩:=id hr
   have g0:=hcell.get 0 _
   have g1:=hcell.get 1 _
   have g2:=hcell.get 2 _
   simp only [Nat.add_zero] at g0
   have hoke:=hed.out k hlt
   have hst:=acX_succ s BS hlt
   have hmv:acB s BS s.es[k]=(qc1 BS s.es[k].f.toNat && (match s.ls[s.es[k].l.toNat]? with | some y=>qa0 y.g | none=>false)):=rfl
   rw [qhf] at hoke
   obtain ⟨qf,hq⟩:∃ q,s.es[k].f=q:=⟨_,rfl⟩;rw [hq] at hoke g0 hmv;clear hq
   obtain ⟨ql,hq⟩:∃ q,s.es[k].l=q:=⟨_,rfl⟩;rw [hq] at hoke g1 hmv hst;clear hq
   obtain ⟨qt,hq⟩:∃ q,s.es[k].t=q:=⟨_,rfl⟩;rw [hq] at hoke g2;clear hq
   obtain ⟨fi,rfl⟩:∃ fi:Nat,qf=(fi:Int):=⟨qf.toNat,by omega⟩
   obtain ⟨li,rfl⟩:∃ li:Nat,ql=(li:Int):=⟨ql.toNat,by omega⟩
   have hN:=HN.out
   have hBLo:=HBL.out
   have hli:li<s.ls.length:=by omega
   have hfi:fi<BS.length:=by omega
   rw [Int.toNat_natCast,Int.toNat_natCast,List.getElem?_eq_getElem hli,qd6 hfi] at hmv
   obtain ⟨bb,ob,cb2,hAb,hbb,_,_,hrb,hcb2⟩:=((RSl.good qad.good).bel HM.out hE).get fi hfi
   subst hAb
   obtain rfl:cb2=[.bool BS[fi]]:=hrb
   have d0:=hcb2.get 0 _
   simp only [Nat.add_zero,Nat.mul_one] at d0
   obtain ⟨bl,ol,cl2,hAl,hbl,_,_,hrl,hcl2⟩:=(qaa.good.bel HLB.out (HE3.out.trans' hE)).get li hli
   subst hAl
   obtain ⟨_,vl,rfl,hvl⟩:=id hrl
   have l0:=hcl2.get 0 _
   have l1:=hcl2.get 1 _
   simp only [Nat.add_zero] at l0
   have hlm:li<m:=by have:=HM0.out;omega
   have z1:(0:Int)≤(li:Int):=by omega
   have z2:(li:Int)<(m:Int):=by omega
   have z3:(0:Int)≤(fi:Int):=by omega
   have z4:(fi:Int)<(n:Int):=by omega
   have z7:(0:Int)≤(k:Int):=by omega
   have z8:(k:Int)<(s.es.length:Int):=by omega
   have hkl:k+1≤s.es.length:=hlt
   simp only at hmv
   obtain ⟨bf,hbf⟩:∃ bf,BS[fi]=bf:=⟨_,rfl⟩
   rw [hbf] at hmv d0
   obtain ⟨gl,hgl2⟩:∃ gl,s.ls[li].g=gl:=⟨_,rfl⟩
   rw [hgl2] at hmv l0
   have hvis:=fun W=>qnx gl vl W
   obtain ⟨bt,hbt2⟩:∃ bt,qa0 gl=bt:=⟨_,rfl⟩
   rw [hbt2] at hmv hvis
   rw [hmv] at hst
   clear hr hcell hS hl hoke hmv hN hBLo hcb2 hcl2 hrl hvl hbf hbt2 hgl2
   cases bf
   ·have HC:Hid (acX s BS (k+1)=acX s BS k):=by show _=_;rw [hst];rfl
    clear hst hvis
    go_wp2_with fail
    go_roundw
    case rel=>exact ⟨k+1,hkl,by go_num,hbt.ext ((Ext.refl wr).alloc _),by rw [HC.out];exact hMK.out.ext qad.good ((Ext.refl wr).alloc _)⟩
    case measure=>simp [intOf];omega
   ·cases bt
    ·have HC:Hid (acX s BS (k+1)=acX s BS k):=by show _=_;rw [hst];rfl
     clear hst
     go_wp2_with fail
     refine (hvis _).mono ?_
     rintro e w4 ⟨rfl,hx4⟩
     go_wp2_with fail
     go_roundw
     case rel=>exact ⟨k+1,hkl,by go_num,hbt.ext (Ext.trans' ((Ext.refl wr).alloc _) hx4),by rw [HC.out];exact hMK.out.ext qad.good (Ext.trans' ((Ext.refl wr).alloc _) hx4)⟩
     case measure=>simp [intOf];omega
    ·have HC:Hid (acX s BS (k+1)=acX s BS k++[(li:Int)]):=by show _=_;rw [hst];rfl
     clear hst
     go_wp2_with fail
     refine (hvis _).mono ?_
     rintro e w4 ⟨rfl,hx4⟩
     have hX4:Ext wr w4:=Ext.trans' ((Ext.refl wr).alloc _) hx4
     have hMK4:=hMK.out.ext qad.good hX4
     obtain ⟨ub4,gc4,hub4,gf4⟩:=qab.get1 hMK4 li (by rw [qbz];exact hlm)
     have hset:=qab.put1 qad.good hMK4 (qbz _ _).symm li (.bool true) true (by rw [qbz];exact hlm) rfl
     have HB6:Hid (Bt (fun q=>q=gm) W4 (w4.setCell ⟨gm,li,none⟩ (.bool true))):=Bt.set (Z:=fun q=>q=gm) (hbt.ext hX4) (p:=⟨gm,li,none⟩) (.inr rfl) _
     have t4:=Ext.keep hx4 (show (wr.alloc (.cells #[.int .i64 (fi:Int),.int .i64 (li:Int),.int .i64 qt] 88)).cell? ⟨wr.heap.size,1,none⟩=some (.int .i64 (li:Int)) from (qah.new wr 88 [.int .i64 (fi:Int),.int .i64 (li:Int),.int .i64 qt]).cell 1 _)
     have tz:wr.heap.size<w4.heap.size:=by have:=hx4.size;rw [World.size_alloc] at this;omega
     have hgl4:gm<w4.heap.size:=Nat.lt_of_lt_of_le hgl hX4.size
     rw [qjr,← HC.out] at hset
     have HSET:=Hd hset
     clear hset hMK4 hub4 hMK hvis
     go_wp2_with fail
     go_roundw
     case rel=>exact ⟨k+1,hkl,by go_num,HB6.out,HSET.out⟩
     case measure=>simp [intOf];omega
  ·obtain rfl:k=s.es.length:=by omega
   have HF:Hid (RBs w.heap.size wr (qed s n st) (.slice (some ⟨gm,0,none⟩) m m)):=by
    show RBs _ _ _ _
    rw [HVAL.out]
    exact hMK.out
   go_wp2_with fail
   go_ret
   rw [HM0.out]
   exact ⟨_,_,rfl,HF.out,HE3.out.trans' hE⟩
end
section
open Go.Shelf
theorem pushN2 {α:Type} {R:Rdr α} {k:Nat} (hR:Good R k) (hk:0<k) (base:Nat) (e ts:TypeId) (z:Value) (bs:Nat) (hu:Tryz.prog.underlying ts=some (.slice e)) (hi:(Tryz.prog.info? e).map (fun i=>(i.zero,i.size,i.bytes))=some (some z,k,bs)) (hzs:z.cells.size=k) (hbs:bs≤1000)
  (T:Nat→Prop) (w:World) (xs ys:List α) (v u:Value) (hown:qab R k e base T w xs v) (hy:RSl R k (fun b=>T b∧v.ownBlock≠some b) w ys [u]) (hbase:base≤w.heap.size) (hl:xs.length+ys.length≤100000000) :
  ∃ A c w',(Builtin.append_ #[ts,ts] ts #[v,u]).run Tryz.prog w = .ok (.slice A (xs++ys).length c) w'∧qab R k e base T w' (xs++ys) (.slice A (xs++ys).length c)∧Bt (fun q=>v.ownBlock=some q) w w'∧∀ q,(Value.slice A (xs++ys).length c).ownBlock=some q→v.ownBlock=some q∨w.heap.size≤q:=by
 obtain ⟨i,hi,hzz⟩:=Option.map_eq_some_iff.1 hi
 simp only [Prod.mk.injEq] at hzz
 obtain ⟨hz0,hz1,hz2⟩:=hzz
 obtain ⟨A,c,hv,hc,hc0,h⟩:=hy
 injection hv with hv
 subst hv
 rcases A with _ | a
 ·have hys:ys=[]:=by
   rcases h with h | ⟨b,off,h,_⟩
   ·exact h
   ·cases h
  subst hys
  obtain ⟨A',c',rfl,_,_⟩:=(hown.sl hR hk).val
  rw [List.append_nil]
  refine ⟨A',c',w,?_,hown,Bt.refl _ _,fun q h=>.inl h⟩
  obtain ⟨news,hrow,_⟩:=hown
  rcases hrow.2 with ⟨h1,h2⟩ | ⟨g,cap,cur,h1,_,_,hnc,_⟩
  ·rw [h1]
   simp [Builtin.append_,run_underlying hu,sizeOf,typeInfo,hi,Builtin.lenOf,Builtin.firstCells]
  ·rw [h1]
   simp [Builtin.append_,run_underlying hu,sizeOf,typeInfo,hi,Builtin.lenOf,Builtin.firstCells,hnc,storeCells]
 ·obtain ⟨news,hrow,hF⟩:=hown
  obtain ⟨cs,hG,hcell⟩:∃ cs,Flat R k (fun b=>T b∧v.ownBlock≠some b) w ys cs∧∀ j u,cs[j]? = some u→w.cell? (a.add j)=some u:=by
   rcases h with rfl | ⟨b,off,ha,hb,hS,hr⟩
   ·exact ⟨[],rfl,fun j u h=>by simp at h⟩
   ·obtain ⟨cs,h1,h2⟩:=hr.flat
    injection ha with ha
    subst ha
    exact ⟨cs,h1,fun j u hj=>by rw [Addr.add_lit];exact h2 j u hj⟩
  obtain ⟨v',w',hr,h1,h2,_,h4⟩:=run_append_own_at (P:=Tryz.prog) w base ts ts e i z k bs hu hi hz0 hz1 hz2 hzs hk v xs.length news hrow a ys.length c cs hG.len hcell (hG.one hR)
   (by unfold maxLen;omega) (Nat.le_trans (Nat.mul_le_mul (show xs.length+ys.length≤100000000 from hl) hbs) (by decide)) hbase
  have hp:=qab.push hR hF hG h1 h2 h4
  obtain ⟨A',c',hv',_,_⟩:=(hp.sl hR hk).val
  subst hv'
  refine ⟨A',c',w',hr,hp,(Bt.of_grown h2).mono fun q _ h=>h.symm,fun q h=>?_⟩
  rcases h4 with h4 | h4
  ·exact .inl (h4.symm.trans h)
  ·have h5:some w.heap.size=some q:=h4.symm.trans h
   injection h5 with h5
   exact .inr (by omega)
theorem qod (base:Nat) (T:Nat→Prop) (W:World) (tr:List Lb) (v0 vt:Value) (ho:qab RLb 2 61 base T W ([]:List Lb) v0) (ht:RSl RLb 2 (fun q=>T q∧v0.ownBlock≠some q) W tr [vt]) (hb:base≤W.heap.size) (hl:tr.length≤1000) :
  ∃ A c W',(Builtin.append_ #[22,22] 22 #[v0,vt]).run Tryz.prog W = .ok (.slice A tr.length c) W'∧qab RLb 2 61 base T W' tr (.slice A tr.length c)∧Bt (fun q=>v0.ownBlock=some q) W W'∧∀ q,(Value.slice A tr.length c).ownBlock=some q→v0.ownBlock=some q∨W.heap.size≤q:=by
 obtain ⟨A,c,W',h1,h2,h3,h4⟩:=pushN2 RLb.good (by decide) base 61 22 (.agg #[.int .i64 0,.slice none 0 0]) 32 Tryz.underlying22 qic rfl (by decide) T W [] tr v0 vt ho ht hb (by simp;omega)
 rw [List.nil_append] at h1 h2
 exact ⟨A,c,W',h1,h2,h3,h4⟩
theorem qlt (base:Nat) (T:Nat→Prop) (W:World) (tr:List Lb) (x:Lb) (v1 vx:Value) (ho:qab RLb 2 61 base T W tr v1) (hx:RSl RLb 2 (fun q=>T q∧v1.ownBlock≠some q) W [x] [vx]) (hb:base≤W.heap.size) (hl:tr.length≤1000) :
  ∃ A c W',(Builtin.append_ #[22,22] 22 #[v1,vx]).run Tryz.prog W = .ok (.slice A (tr.length+1) c) W'∧qab RLb 2 61 base T W' (tr++[x]) (.slice A (tr.length+1) c)∧Bt (fun q=>v1.ownBlock=some q) W W':=by
 obtain ⟨A,c,W',h1,h2,h3,h4⟩:=pushN2 RLb.good (by decide) base 61 22 (.agg #[.int .i64 0,.slice none 0 0]) 32 Tryz.underlying22 qic rfl (by decide) T W tr [x] v1 vx ho hx hb (by simp;omega)
 rw [show (tr++[x]).length=tr.length+1 by simp] at h1 h2
 exact ⟨A,c,W',h1,h2,h3⟩
theorem lit_lb {T S:Nat→Prop} {W:World} {x:Lb} {g:Int} {vl:Value} (hg:x.g=g) (hx:RLb S W x [.int .i64 g,vl]) (v:Value) (hS:∀ q,q<W.heap.size→S q→T q∧v.ownBlock≠some q) (hT:T W.heap.size) (hv:v.ownBlock≠some W.heap.size) :
  RSl RLb 2 (fun q=>(T q∧v.ownBlock≠some q)∧q<W.heap.size+1) (W.alloc (.cells #[.int .i64 g,vl] 61)) [x] [.slice (some ⟨W.heap.size,0,none⟩) 1 1]:=by
 subst hg
 refine ⟨_,1,rfl,by simp,by decide,.inr ⟨W.heap.size,0,rfl,by rw [World.size_alloc];omega,⟨⟨hT,hv⟩,by omega⟩,⟨[.int .i64 x.g,vl],rfl,?_,fun i u h=>by have:=qei W #[.int .i64 x.g,vl] 61 i u h;rwa [Addr.add_lit] at this⟩,trivial⟩⟩
 exact RLb.good.bel (RLb.good.mono hx fun q hq h=>⟨hS q hq h,by omega⟩) ((Ext.refl W).alloc _)
theorem qsp {T:Nat→Prop} {W W':World} {x:Lb} {v0 v1 vx:Value} {n:Nat} (hx:RSl RLb 2 (fun q=>(T q∧v0.ownBlock≠some q)∧q<n) W [x] [vx]) (hb:Bt (fun q=>v0.ownBlock=some q) W W') (hv:∀ q,v1.ownBlock=some q→v0.ownBlock=some q∨W.heap.size≤q) (hn:n≤W.heap.size) :
  RSl RLb 2 (fun q=>T q∧v1.ownBlock≠some q) W' [x] [vx]:=by
 refine (RSl.good RLb.good).mono ((RSl.good RLb.good).move hx (hb.kp fun q _ h1 h2=>h1.1.2 h2)) fun q _ h=>⟨h.1.1,fun e=>?_⟩
 rcases hv q e with h' | h'
 ·exact h.1.2 h'
 ·omega
end
end Go.Proofs.YtegenalcheooeaaGreat
