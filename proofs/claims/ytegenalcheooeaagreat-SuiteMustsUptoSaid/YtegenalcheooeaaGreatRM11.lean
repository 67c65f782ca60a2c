/- Of the proof of a law of the suites: RHas, PRefB, PRefM, RLabels, RefAfter, RefMusts, PlainLonger, PGenR, RefGen. -/
import Derived.Test.YtegenalcheooeaaGreatB16
import Derived.Test.YtegenalcheooeaaGreatB17
import Derived.Test.YtegenalcheooeaaGreatB19
import Derived.Test.YtegenalcheooeaaGreatB23
import Derived.Test.YtegenalcheooeaaGreatB26
import Derived.Test.YtegenalcheooeaaGreatB29
import Derived.Test.YtegenalcheooeaaGreatB30
import Derived.Test.YtegenalcheooeaaGreatRM03
import Derived.Test.YtegenalcheooeaaGreatRM05
import Derived.Test.YtegenalcheooeaaGreatRM06
import Derived.Test.YtegenalcheooeaaGreatRM08
import Derived.Test.YtegenalcheooeaaGreatRM09
import Derived.Test.YtegenalcheooeaaGreatRM10
set_option linter.unusedSectionVars false
set_option linter.unusedSimpArgs false
set_option linter.unusedVariables false
namespace Go.Proofs.YtegenalcheooeaaGreat
open Go.RowKit
attribute [local go_sem] cell?_exto
section
open Go.Shelf
end
section

theorem one_marks {n st:Nat} (h:st<n):(List.replicate n false).set st true=marksOf n [(st:Int)]:=by
 rw [← qk0,qjr]
 rfl
theorem acX_iff (s:Sy) (bs:List Bool) (y:Int):y∈acX s bs s.es.length↔∃ j:Fin s.es.length,acB s bs s.es[j]=true∧s.es[j].l=y:=by
 rw [acX,List.take_length,List.mem_map]
 constructor
 ·rintro ⟨e,he,rfl⟩
  obtain ⟨h1,h2⟩:=List.mem_filter.1 he
  obtain ⟨i,hi,rfl⟩:=List.getElem_of_mem h1
  exact ⟨⟨i,hi⟩,h2,rfl⟩
 ·rintro ⟨j,h,rfl⟩
  exact ⟨s.es[j],List.mem_filter.2 ⟨List.getElem_mem _,h⟩,rfl⟩
theorem qj9 {s:Sy} (hok:qai s) {n st:Nat} (hn:s.n=(n:Int)) (hst:st<n) {k:Nat} (hk:k<s.ls.length) :
  qc1 (qed s n st) k=true↔qa0 s.ls[k].g=true∧∃ y∈qap s [(st:Int)],∃ j∈qat s.es y,s.es[j].l=(k:Int):=by
 have hin:=qkx hok [(st:Int)] fun y hy=>by rw [List.mem_singleton.1 hy];omega
 rw [qd6 (by rw [qgq];exact hk)]
 unfold qed
 rw [qez,decide_eq_true_eq,acX_iff,one_marks hst,qmy s n hn _ fun y hy=>by rw [List.mem_singleton.1 hy];omega]
 have hac:∀ j:Fin s.es.length,s.es[j].l=(k:Int)→(acB s (marksOf n (qap s [(st:Int)])) s.es[j]=true↔s.es[j].f∈qap s [(st:Int)]∧qa0 s.ls[k].g=true):=fun j hj=>by
  obtain ⟨h1,h2,_⟩:=qiy hok j
  obtain ⟨fi,hfi⟩:∃ fi:Nat,s.es[j].f=(fi:Int):=⟨s.es[j].f.toNat,by omega⟩
  have hf:fi<(marksOf n (qap s [(st:Int)])).length:=by rw [qbz];omega
  rw [acB,hfi,hj,Int.toNat_natCast,Int.toNat_natCast,qd6 hf,qez,List.getElem?_eq_getElem hk]
  simp only [Bool.and_eq_true,decide_eq_true_eq]
 constructor
 ·rintro ⟨j,h,hl⟩
  obtain ⟨h1,h2⟩:=(hac j hl).1 h
  exact ⟨h2,_,h1,j,(qhy _ _ _).2 rfl,hl⟩
 ·rintro ⟨hv,y,hy,j,hj,hl⟩
  rw [qhy] at hj
  exact ⟨j,(hac j hl).2 ⟨by rw [hj];exact hy,hv⟩,hl⟩
theorem qlz {tr:List Lb} (h:qbo tr=true):∀ x∈tr,qa0 x.g=true:=fun x hx=>by
 rw [qbo,Bool.and_eq_true,List.all_eq_true] at h
 have:=h.2 x hx
 rw [okV,Bool.and_eq_true] at this
 exact this.2
end
section

variable {s:Sy}
theorem acI_lab (hok:qai s) {n st:Nat} (hn:s.n=(n:Int)) (hst:st<n):qak s (acI s n st)=qa9 s (st:Int):=by
 refine qjw qcv _ _ (qgm hok (qmu s n st)) (qqe hok _) fun x=>?_
 rw [qak,List.mem_map,qjv]
 constructor
 ·rintro ⟨i,hi,rfl⟩
  obtain ⟨k,hk,hm,rfl⟩:=(qhq _ _).1 hi
  rw [qgq] at hk
  rw [qi0 hk]
  exact ⟨k,hk,rfl,(qj9 hok hn hst hk).1 hm⟩
 ·rintro ⟨k,hk,rfl,h⟩
  exact ⟨(k:Int),(qhq _ _).2 ⟨k,by rw [qgq];exact hk,(qj9 hok hn hst hk).2 h,rfl⟩,qi0 hk⟩
theorem qm1 (n:Nat) {L:List Int} (hL:∀ y∈L,0≤y∧y<(n:Int)):(marksOf n L).any id=true↔L≠[]:=by
 rw [List.any_eq_true]
 constructor
 ·rintro ⟨b,hb,h⟩ rfl
  obtain ⟨i,hi,rfl⟩:=List.mem_iff_getElem.1 hb
  rw [qez] at h
  simp at h
 ·intro h
  cases L with
  | nil=>exact absurd rfl h
  | cons y L =>
   have:=hL y (by simp)
   obtain ⟨k,rfl⟩:∃ k:Nat,y=(k:Int):=⟨y.toNat,by omega⟩
   have hk:k<(marksOf n ((k:Int) :: L)).length:=by rw [qbz];omega
   exact ⟨_,List.getElem_mem hk,by rw [qez];simp⟩
theorem qst (hok:qai s) {n:Nat} (hn:s.n=(n:Int)) {L:List Int} (hL:∀ y∈L,0≤y∧y<s.n) (hr:L.Pairwise (· < ·)):qbg s L=(qd1 s n (marksOf n L)).map (List.map (qak s)):=by
 have hL':∀ y∈L,0≤y∧y<(n:Int):=fun y hy=>by have:=hL y hy;omega
 unfold qbg qd1
 by_cases h:L=[]
 ·rw [if_pos h,if_neg fun h'=>(qm1 n hL').1 h' h]
  rfl
 ·rw [if_neg h,if_pos ((qm1 n hL').2 h)]
  have hN:((List.range n).filter (qc1 (marksOf n L))).map (fun i:Nat=>(i:Int))=L:=by
   have:=qsk n L hL' hr
   rw [mkL,mkT,qbz] at this
   exact this
  have hacc:(qd8 s n (marksOf n L) n).map (qak s)=qb4 (qbw (L.map (qa9 s))):=by
   rw [qd8,lab_sc hok _ fun m hm=>by obtain ⟨st,_,rfl⟩:=List.mem_map.1 hm;exact qmu s n st]
   congr 2
   conv=>rhs;rw [← hN]
   rw [List.map_map,List.map_map]
   refine List.map_congr_left fun st hst=>?_
   exact acI_lab hok hn (List.mem_range.1 (List.mem_filter.1 hst).1)
  have:=qpr hok (qd8 s n (marksOf n L) n) [[]] (fun a ha=>(qms s n _ n a ha).1) fun m hm=>by rw [List.mem_singleton.1 hm];exact ⟨List.Pairwise.nil,by simp⟩
  rw [← hacc,← this]
  rfl
theorem errO_map {α β:Type} (f:α→β) (o:Option α):qes (o.map f)=if o.isSome then 0 else 2:=by cases o <;> rfl
theorem rowO_map {α β:Type} (f:α→β) (o:Option (List α)):qa2 (o.map (List.map f))=(qa2 o).map f:=by cases o <;> rfl
theorem qp2 (hok:qai s) (n:Nat) (bs:List Bool):∀ m∈qa2 (qd1 s n bs),qbi s m∧m.length≤64:=by
 have go:∀ (bs' ls r:List (List Int)),(∀ a∈bs',qbi s a)→(∀ m∈ls,qbi s m∧m.length≤64)→qdv bs' ls=some r→∀ m∈r,qbi s m∧m.length≤64:=by
  intro bs'
  induction bs' with
  | nil =>
   intro ls r _ h e
   rw [qdv] at e
   injection e with e
   rw [← e]
   exact h
  | cons a bs' ih =>
   intro ls r ha h e
   rw [qdv] at e
   split at e
   ·cases e
   ·rename_i hm
    refine ih _ _ (fun b hb=>ha b (by simp [hb])) (fun m hm2=>?_) e
    have hmem:=(List.mem_filter.1 hm2).1
    refine ⟨qli (ha a (by simp)) (fun z hz=>(h z hz).1) m hmem,Nat.le_of_not_lt fun hlt=>hm (qpo hmem hlt)⟩
 intro m hm
 unfold qd1 at hm
 split at hm
 ·cases e:qdv (qd8 s n bs n) [[]] with
  | none =>
   rw [e] at hm
   simp [qa2] at hm
  | some r =>
   rw [e] at hm
   exact go _ _ r (fun a ha=>(qms s n bs n a ha).1) (fun m hm=>by rw [List.mem_singleton.1 hm];exact ⟨⟨List.Pairwise.nil,by simp⟩,by simp⟩) e m hm
 ·simp [qa2] at hm
theorem qoy (n:Nat) (bs:List Bool):(qa2 (qd1 s n bs)).length≤2000:=by
 have go:∀ (bs' ls r:List (List Int)),ls.length≤2000→qdv bs' ls=some r→r.length≤2000:=by
  intro bs'
  induction bs' with
  | nil =>
   intro ls r h e
   rw [qdv] at e
   injection e with e
   rw [← e]
   exact h
  | cons a bs' ih =>
   intro ls r h e
   rw [qdv] at e
   split at e
   ·cases e
   ·rename_i hm
    refine ih _ _ (Nat.le_trans (List.length_filter_le _ _) (Nat.le_of_not_lt fun hlt=>hm (qmf hlt))) e
 unfold qd1
 split
 ·cases e:qdv (qd8 s n bs n) [[]] with
  | none=>simp [qa2]
  | some r=>exact go _ _ r (by simp) e
 ·simp [qa2]
end
section
set_option maxHeartbeats 8000000
set_option maxRecDepth 100000
/- The reference's labels and none: walked. -/
open Go.Shelf
theorem qsl (S S':Nat→Prop) (s:Sy) (cs:List Value) (m:List Int) (v:Value) (w:World) (hx:RSy S w s cs) (hm:RIs S' w m [v]) (hr:∀ i∈m,0≤i∧i<s.ls.length) (hl:m.length≤100000) :
  Calls Tryz.prog 87 #[.agg cs.toArray,v] w (qln (fun b=>S b∧b<w.heap.size) w.heap.size (qak s m) w):=by
 obtain ⟨_,v1,u1,rfl,hv,hu⟩:=id hx
 obtain ⟨Al,cl,rfl,hcl1,hcl0⟩:=hv.val
 obtain ⟨Ae,ce,rfl,hce,hce0⟩:=hu.val
 obtain ⟨A,c,rfl,hc,hc0⟩:=hm.val
 have HLB:=Hd hv
 have HM:=Hd hm
 have HR:Hid (∀ i,(hi:i<m.length)→0≤m[i]∧m[i]<s.ls.length):=fun i hi=>hr _ (List.getElem_mem hi)
 obtain ⟨n,hn⟩:∃ n,s.n=n:=⟨_,rfl⟩
 rw [hn]
 clear hx hv hu hm hr hn
 obtain ⟨W0,hW0⟩:∃ W0,w.alloc (.cells #[.int .i64 n,.slice Al s.ls.length cl,.slice Ae s.es.length ce] 25)=W0:=⟨_,rfl⟩
 have hE0:Ext w W0:=by rw [← hW0];exact (Ext.refl w).alloc _
 have hb0:qah W0 w.heap.size 25 [.int .i64 n,.slice Al s.ls.length cl,.slice Ae s.es.length ce]:=by rw [← hW0];exact qah.new w 25 _
 have hz0:W0.heap.size=w.heap.size+1:=by rw [← hW0,World.size_alloc]
 have HB0:=Hd hb0
 have HE0:=Hd hE0
 have HW0:=Hd hW0
 have HZ0:=Hd hz0
 obtain ⟨p0,hp0⟩:∃ p0,w.heap.size=p0:=⟨_,rfl⟩
 rw [hp0] at HB0 HZ0
 have HP0:=Hd hp0
 clear hb0 hE0 hW0 hz0 hp0
 go_enter Tryz.func87,Tryz.ntmps87
 go_upto_region 1 with (fail)
 rw [HW0.out,HP0.out]
 go_wp2_with fail
 go_loopw [5,6] (fun v5 vi wr=>∃ (i:Nat) (Ao:Option Addr) (co:Nat),i≤m.length∧vi = .int .i64 i∧v5 = .slice Ao i co∧Ext W0 wr∧Hid (qab RLb 2 61 W0.heap.size (fun b=>S b∧b<w.heap.size) wr (qak s (m.take i)) (.slice Ao i co))) (fun _ vi _=>m.length-(intOf vi).toNat)
 case atStart=>exact ⟨0,none,0,Nat.zero_le _,rfl,rfl,Ext.refl _,qab.nil ..⟩
 case round =>
  obtain ⟨i,Ao,co,hi,rfl,rfl,hE,hO⟩:=hrel
  have hE':=HE0.out.trans' hE
  have hbx:=HB0.out.ext hE
  have x1:=hbx.cell 1 _
  have xz:=hbx.lt
  clear hbx
  by_cases hil:i<m.length
  ·obtain ⟨b,off,cs,rfl,hbw,hS,hl2,hr,hcell⟩:=HM.out.get i hil
   obtain rfl:=hr.1
   have g0:=Ext.keep hE' (by simpa using hcell.get 0 _:w.cell? ⟨b,off+i,none⟩=some (.int .i64 m[i]))
   have hb:b<wr.heap.size:=Nat.lt_of_lt_of_le hbw hE'.size
   have hran:=HR.out i hil
   have htk:qak s (m.take (i+1))=qak s (m.take i)++[lbI s m[i]]:=by rw [List.take_succ_eq_append_getElem hil,qak,List.map_append];rfl
   have htl:(qak s (m.take i)).length=i:=by rw [qak,List.length_map,List.length_take];omega
   obtain ⟨q,hq⟩:∃ q,m[i]=q:=⟨_,rfl⟩
   rw [hq] at g0 hran htk
   obtain ⟨li,rfl⟩:∃ li:Nat,q=(li:Int):=⟨q.toNat,by omega⟩
   have hli:li<s.ls.length:=by omega
   rw [qi0 hli] at htk
   obtain ⟨bl,ol,cl2,hAl,hbl,_,_,hrl,hcl2⟩:=HLB.out.get li hli
   subst hAl
   have HRL:=Hd hrl
   obtain ⟨_,vl,rfl,hvl⟩:=id hrl
   have l0:=Ext.keep hE' (hcl2.get 0 _)
   have l1:=Ext.keep hE' (hcl2.get 1 _)
   simp only [Nat.add_zero] at l0
   have hblw:bl<wr.heap.size:=Nat.lt_of_lt_of_le hbl hE'.size
   have z1:(0:Int)≤(li:Int):=by omega
   have z2:(li:Int)<(s.ls.length:Int):=by omega
   have z3:(0:Int)≤(i:Int):=by omega
   have z4:(i:Int)<(m.length:Int):=by omega
   have hi1:i+1≤m.length:=hil
   obtain ⟨y,hy⟩:∃ y,s.ls[li]=y:=⟨_,rfl⟩
   rw [hy] at l0 HRL htk
   have hlo:∀ q,(Value.slice Ao i co).ownBlock=some q→W0.heap.size≤q:=fun q e=>(hO.out.own_lt e).1
   have hn1:¬ (Value.slice Ao i co).ownBlock=some p0:=fun e=>by have:=hlo _ e;have:=HZ0.out;omega
   have hn2:¬ (Value.slice Ao i co).ownBlock=some bl:=fun e=>by have:=hlo _ e;have:=HZ0.out;have:=HP0.out;omega
   have hn3:¬ (Value.slice Ao i co).ownBlock=some b:=fun e=>by have:=hlo _ e;have:=HZ0.out;have:=HP0.out;omega
   clear hr hcell hl2 hS hq hy hcl2 hrl hvl
   go_wp2_with fail
   refine qfi (fun W=>W.cell? ⟨p0,1,none⟩=some (.slice (some ⟨bl,ol,none⟩) s.ls.length cl)∧W.cell? ⟨b,off+i,none⟩=some (.int .i64 (li:Int))∧W.cell? ⟨bl,ol+li*2,none⟩=some (.int .i64 y.g)∧W.cell? ⟨bl,ol+li*2+1,none⟩=some vl) (by kernel_rfl) (by rfl) (by kernel_rfl) ⟨x1,g0,l0,l1⟩ (fun hHeld=>?_)
   dsimp only [List.dropLast,List.getLastD,List.getLast?,List.getLast]
   obtain ⟨Wd,hWd⟩:∃ Wd,wr.drew=Wd:=⟨_,rfl⟩
   have hXd:Ext wr Wd:=hWd ▸ Below.drew (Ext.refl _)
   rw [hWd] at hHeld ⊢
   clear hWd x1 g0 l0 l1
   obtain ⟨g8,c8,w8,hr8,ho8,hb8,ha8,hbA⟩:=qcy RLb.good (by decide) W0.heap.size 61 22 (.agg #[.int .i64 0,.slice none 0 0]) 32 Tryz.underlying22 qic rfl (by decide) (fun q=>S q∧q<w.heap.size) Wd (qak s (m.take i)) (.slice Ao i co) y [.int .i64 y.g,vl]
    (hO.out.ext RLb.good hXd) (RLb.good.mono (RLb.good.bel (RLb.good.mono HRL.out (S':=fun q=>S q∧q<w.heap.size) fun q h1 h2=>⟨h2,h1⟩) (hE'.trans' hXd)) fun q _ hq=>⟨hq,fun e=>by have:=hlo q e;have:=HZ0.out;have:=HP0.out;omega⟩) (Nat.le_trans hE.size hXd.size) (by omega)
   rw [htl] at hr8 ho8
   rw [← htk] at ho8
   have HO8:=Hd ho8
   have HB8:Hid (Ext W0 w8):=Bt.new (hE.trans' hXd) hb8 fun q _ h=>hlo q h
   have HRUN:=Hd hr8
   clear hr8 ho8 hb8 htk htl hO hlo
   (refine tk 0 ?_;try simp only [qae])
   (refine tk 1 ?_;try simp only [qae])
   (refine tk 2 ?_;try simp only [qae])
   (refine tk 3 ?_;try simp only [qae])
   (refine tk 4 ?_;try simp only [qae])
   (refine tk 5 ?_;try simp only [qae])
   (refine tk 6 ?_;try simp only [qae])
   (refine tk 7 ?_;try simp only [qae])
   (refine tk 8 ?_;try simp only [qae])
   refine wpAnyH_ready (rs:=[9]) (by kernel_rfl) (by simp) ?_
   refine AllReadyH.cons rfl (fun K hK=>?_) AllReadyH.nil
   go_simp
   have hHeld6:=Ext.k4 ((Ext.refl Wd).alloc (.cells #[.int .i64 y.g,vl] 61)) hHeld
   refine hK.out _ _ hHeld6 (fun _=>?_)
   clear hK K
   try simp only [qae]
   refine wpAnyH_ready (rs:=[10]) (by kernel_rfl) (by simp) ?_
   refine AllReadyH.cons rfl (fun K hK=>?_) AllReadyH.nil
   refine qdj rfl _ _ _ rfl _ _ _ rfl rfl HRUN.out ?_
   refine hK.out _ _ ⟨hbA.cell hHeld6.1 hn1,hbA.cell hHeld6.2.1 hn3,hbA.cell hHeld6.2.2.1 hn2,hbA.cell hHeld6.2.2.2 hn2⟩ (fun hHeld8=>?_)
   clear hK K
   try simp only [qae]
   refine wpAnyH_done (by kernel_rfl) ?_ _
   show Oper.wp _ _ _ _ _ _
   go_simp
   clear hHeld hHeld6 hHeld8 hbA
   go_wp2_with fail
   go_roundw
   case rel=>exact ⟨i+1,some ⟨g8,0,none⟩,c8,hi1,by go_num,rfl,HB8.out,HO8.out⟩
   case measure=>simp [intOf];omega
  ·obtain rfl:i=m.length:=by omega
   have HF:Hid (qab RLb 2 61 W0.heap.size (fun b=>S b∧b<w.heap.size) wr (qak s m) (.slice Ao m.length co)):=by have h:=hO.out;rw [List.take_length] at h;exact h
   have hlen:(qak s m).length=m.length:=by rw [qak,List.length_map]
   have HL:=Hd hlen
   clear hlen hO
   go_wp2_with fail
   go_ret
   exact ⟨Ao,co,by rw [HL.out];rfl,by rw [HL.out];exact HF.out.base (by have:=HZ0.out;have:=HP0.out;omega),hE'⟩
theorem none_take {l:List Bool} {k:Nat} (h:k<l.length):(l.take (k+1)).any id=((l.take k).any id || l[k]):=by
 rw [List.take_succ_eq_append_getElem h,List.any_append,List.any_cons,List.any_nil,Bool.or_false]
 rfl
theorem none_c (S:Nat→Prop) (l:List Bool) (v:Value) (w:World) (hx:RSl qad 1 S w l [v]):Calls Tryz.prog 92 #[v] w fun e w'=>e = .returned (.bool (!l.any id))∧Ext w w':=by
 obtain ⟨A,c,rfl,hc,hc0⟩:=hx.val
 have HX:=Hd hx
 clear hx
 go_enter Tryz.func92,Tryz.ntmps92
 go_wp2_with fail
 go_loopw [3] (fun vi wr=>∃ k:Nat,k≤l.length∧vi = .int .i64 k∧Ext w wr∧Hid ((l.take k).any id=false)) (fun vi _=>l.length-(intOf vi).toNat)
 case atStart=>exact ⟨0,Nat.zero_le _,rfl,Ext.refl _,(rfl:([]:List Bool).any id=false)⟩
 case round =>
  obtain ⟨k,hk,rfl,hE,hno⟩:=hrel
  by_cases hlt:k<l.length
  ·obtain ⟨b,off,cs,rfl,hb,hSb,hl1,hr,hcell⟩:=((RSl.good qad.good).bel HX.out hE).get k hlt
   obtain rfl:cs=[.bool l[k]]:=hr
   have a0:=hcell.get 0 _
   simp only [Nat.add_zero,Nat.mul_one] at a0
   have hst:=none_take hlt
   have hY:l[k]=true→l.any id=true:=fun h=>List.any_eq_true.2 ⟨l[k],List.getElem_mem hlt,h⟩
   obtain ⟨bk,hbk⟩:∃ bk,l[k]=bk:=⟨_,rfl⟩
   rw [hbk] at a0 hst hY
   have hk1:k+1≤l.length:=hlt
   clear hl1 hcell hSb hbk
   cases bk
   ·have HST:=Hd hst
    clear hst hY
    go_wp2_with fail
    go_roundw
    case rel=>exact ⟨k+1,hk1,by go_num,hE,(by rw [HST.out,hno.out];rfl:(l.take (k+1)).any id=false)⟩
    case measure=>simp [intOf];omega
   ·have HY:=Hd (hY rfl)
    clear hst hY
    go_wp2_with fail
    go_ret
    exact ⟨by rw [HY.out];rfl,hE⟩
  ·obtain rfl:k=l.length:=by omega
   have HF:Hid (l.any id=false):=by have h:=hno.out;rw [List.take_length] at h;exact h
   go_wp2_with fail
   go_ret
   exact ⟨by rw [HF.out];rfl,hE⟩
end
section
open Go.Shelf
end
section
open Go.Shelf
theorem info22q:(Tryz.prog.info? 22).map (fun i=>(i.zero,i.size,i.bytes))=some (some (.slice none 0 0),1,24):=by kernel_rfl
def qo1 {α:Type} (R:Rdr α) (k:Nat) (r:List α) (err:Int) (w:World) (e:Ending) (w':World):Prop :=
 ∃ A c,e = .returned (.tuple #[.slice A r.length c,.int .i64 err])∧RSl R k (fun _=>True) w' r [.slice A r.length c]∧Ext w w'
theorem lbs_take (s:Sy) (l:List (List Int)) {k:Nat} (h:k<l.length):(l.take (k+1)).map (qak s)=(l.take k).map (qak s)++[qak s l[k]]:=by
 rw [List.take_succ_eq_append_getElem h,List.map_append]
 rfl
set_option maxHeartbeats 8000000 in
set_option maxRecDepth 100000 in
theorem rMusts_c (S:Nat→Prop) (s:Sy) (cs:List Value) (tr:List Lb) (v:Value) (w:World) (hx:RSy S w s cs) (ht:qaa S w tr [v]) :
  Calls Tryz.prog 19 #[.agg cs.toArray,v] w (qo1 qaa 1 (qcj s tr) (qcz s tr) w):=by
 have hck:=fun W (hW:Ext w W)=>qne S s cs W (RSy.good.bel hx hW)
 have htr:=fun W (hW:Ext w W)=>Trace_c S tr v W (qaa.good.bel ht hW)
 have haf:=fun (hok:qai s) n hn (hl:tr.length≤1000000) W (hW:Ext w W)=>qso (fun _=>True) s hok cs n hn tr v W (RSy.good.bel (RSy.good.mono hx fun _ _ _=>trivial) hW) (qaa.good.bel (qaa.good.mono ht fun _ _ _=>trivial) hW) hl
 have hmu:=fun (hok:qai s) n hn bs hb vb W (hW:Ext w W) (hm:RSl qad 1 (fun _=>True) W bs [vb])=>qpw (fun _=>True) s hok cs n hn bs hb vb W (RSy.good.bel (RSy.good.mono hx fun _ _ _=>trivial) hW) hm
 have hla:=fun (m:List Int) (hr:∀ i∈m,0≤i∧i<s.ls.length) (hl:m.length≤100000) vm W (hW:Ext w W) (hm:RIs (fun _=>True) W m [vm])=>qsl (fun q=>q<w.heap.size) (fun _=>True) s cs m vm W (RSy.good.bel (RSy.good.mono hx fun _ hq _=>hq) hW) hm hr hl
 obtain ⟨_,v1,u1,rfl,hv,hu⟩:=id hx
 obtain ⟨Al,cl,rfl,hcl1,hcl0⟩:=hv.val
 obtain ⟨Ae,ce,rfl,hce,hce0⟩:=hu.val
 obtain ⟨At,ct,rfl,hct,hct0⟩:=ht.val
 clear hx hv hu ht
 by_cases hok:qai s
 rotate_left
 ·have HE:Hid (qcz s tr=8):=if_neg hok
  have HR:Hid (qcj s tr=[]):=if_neg fun h=>hok h.1
  rw [qfb hok] at hck
  clear haf htr hok hmu hla
  go_enter Tryz.func19,Tryz.ntmps19
  go_wp2_with fail
  refine (hck _ bel).mono ?_
  rintro e w1 ⟨rfl,h1⟩
  go_wp2_with fail
  go_ret2
  rw [HE.out,HR.out]
  exact ⟨none,0,rfl,qef _,bel⟩
 rw [qim hok] at hck
 cases htb:qbo tr
 ·have HE:Hid (qcz s tr=1):=by show _=_;rw [qcz,if_pos hok,htb];rfl
  have HR:Hid (qcj s tr=[]):=by show _=_;rw [qcj,htb];exact if_neg fun h=>by cases h.2
  rw [htb] at htr
  clear haf hok htb hmu hla
  go_enter Tryz.func19,Tryz.ntmps19
  go_wp2_with fail
  refine (hck _ bel).mono ?_
  rintro e w1 ⟨rfl,h1⟩
  go_wp2_with fail
  refine (htr _ bel).mono ?_
  rintro e w2 ⟨rfl,h2⟩
  go_wp2_with fail
  go_ret2
  rw [HE.out,HR.out]
  exact ⟨none,0,rfl,qef _,bel⟩
 rw [htb] at htr
 have hn0:=hok.1
 obtain ⟨n,hn⟩:∃ n:Nat,s.n=(n:Int):=⟨s.n.toNat,by omega⟩
 have hmm:=qst hok hn (qns hok tr) (qsj s tr)
 have hME:qcz s tr=qes (qbg s (qan s tr)):=by rw [qcz,if_pos hok,if_pos htb]
 have hMR:qcj s tr=qa2 (qbg s (qan s tr)):=by rw [qcj,if_pos ⟨hok,htb⟩]
 rw [hmm,errO_map,← qlf hok hn tr (qlz htb)] at hME
 rw [hmm,rowO_map,← qlf hok hn tr (qlz htb)] at hMR
 have hal:=qmv s n hn tr
 have hrn:=qp2 hok n (qde s n tr)
 have hrw:=qoy (s:=s) n (qde s n tr)
 rw [qbo,Bool.and_eq_true,decide_eq_true_eq] at htb
 have haf':=haf hok n hn (by have:=htb.1;omega)
 obtain ⟨AM,hAM⟩:∃ AM,qde s n tr=AM:=⟨_,rfl⟩
 rw [hAM] at hal haf' hME hMR hrn hrw
 have hmu':=hmu hok n hn AM hal
 obtain ⟨MM,hMM⟩:∃ MM,qd1 s n AM=MM:=⟨_,rfl⟩
 rw [hMM] at hME hMR hmu' hrn hrw
 obtain ⟨L,hL⟩:∃ L,qa2 MM=L:=⟨_,rfl⟩
 have hN0:MM.isSome=false→L=[]:=fun h=>by rw [← hL];cases MM with
  | none=>rfl
  | some _=>cases h
 unfold qn0 at hmu'
 rw [hL] at hMR hmu' hrn hrw
 have HE:=Hd hME
 have HR:=Hd hMR
 have HLA:Hid (∀ m:List Int,(∀ i∈m,0≤i∧i<s.ls.length)→m.length≤100000→∀ vm W,Ext w W→RIs (fun _=>True) W m [vm]→Calls Tryz.prog 87 #[.agg [Value.int .i64 (n:Int),.slice Al s.ls.length cl,.slice Ae s.es.length ce].toArray,vm] W (qln (fun b=>b<w.heap.size∧b<W.heap.size) W.heap.size (qak s m) W)):=fun m h1 h2 vm W hW hm=>by
  have h:=hla m h1 h2 vm W hW hm
  rw [hn] at h
  exact h
 have HRN:Hid (∀ m∈L,(∀ i∈m,0≤i∧i<s.ls.length)∧m.length≤64):=fun m hm=>⟨(hrn m hm).1.ran,(hrn m hm).2⟩
 rw [hn] at hck haf' hmu' ⊢
 obtain ⟨W0,hW0⟩:∃ W0,w.alloc (.cells #[.int .i64 (n:Int),.slice Al s.ls.length cl,.slice Ae s.es.length ce] 25)=W0:=⟨_,rfl⟩
 have hE0:Ext w W0:=by rw [← hW0];exact (Ext.refl w).alloc _
 have hB0:qah W0 w.heap.size 25 [.int .i64 (n:Int),.slice Al s.ls.length cl,.slice Ae s.es.length ce]:=by rw [← hW0];exact qah.new w 25 _
 have x0:=hB0.cell 0 _
 have x1:=hB0.cell 1 _
 have x2:=hB0.cell 2 _
 have xz:=hB0.lt
 have HB0:=Hd hB0
 have HE0:=Hd hE0
 have HW0:=Hd hW0
 have hc0:=hck W0 hE0
 obtain ⟨p0,hp0⟩:∃ p0,w.heap.size=p0:=⟨_,rfl⟩
 have HP0:=Hd hp0
 rw [hp0] at HB0 x0 x1 x2 xz
 clear hok htb hn haf hmu hla hAM hMM hL hn0 hW0 hB0 hE0 hck hp0 hME hMR hmm hrn
 go_enter Tryz.func19,Tryz.ntmps19
 go_upto_region 1 with (fail)
 rw [HW0.out,HP0.out]
 go_wp2_with fail
 refine hc0.mono ?_
 rintro e w1 ⟨rfl,h1⟩
 have hE1:=HE0.out.trans' h1
 have hB1:=HB0.out.ext h1
 clear x0 x1 x2 xz
 go_wp2_with fail
 refine (htr _ hE1).mono ?_
 rintro e w2 ⟨rfl,h2⟩
 have hE2:=hE1.trans' h2
 have hB2:=hB1.ext h2
 have x0:=hB2.cell 0 _
 have x1:=hB2.cell 1 _
 have x2:=hB2.cell 2 _
 have xz:=hB2.lt
 have HB2:=Hd hB2
 clear hB1 hB2
 go_wp2_with fail
 go_region_held3 (fun W=>W.cell? ⟨p0,0,none⟩=some (.int .i64 (n:Int))∧W.cell? ⟨p0,1,none⟩=some (.slice Al s.ls.length cl)∧W.cell? ⟨p0,2,none⟩=some (.slice Ae s.es.length ce))
  (first | (refine ⟨?_,?_,?_⟩ <;> go_simp <;> done) | exact Ext.k3 hx1 (by assumption) | exact Ext.k3 (qaf.ext hx1) (by assumption) | exact Ext.k3 ((Ext.refl _).alloc _) (by assumption))
  (first | (go_at_call 86;refine (haf' _ bel).mono ?_;rintro e w4 ⟨A4,c4,rfl,ho4,hx1⟩) | (go_at_call 85;refine (hmu' _ _ bel ((RSl.good qad.good).mono (ho4.sl qad.good (by decide)) fun _ _ _=>trivial)).mono ?_;rintro e w5 ⟨A5,c5,rfl,hs5,hx1⟩))
 have hE25:Ext w2 w5:=bel
 have hE5:Ext w w5:=hE2.trans' hE25
 have HS5:=Hd (RSl.good RIs.good |>.mono hs5 (S':=fun _=>True) fun _ _ _=>trivial)
 have hB5:=HB2.out.ext hE25
 have HB5:=Hd hB5
 clear hs5 haf' hmu' htr hc0 x0 x1 x2 xz hB5
 cases hMS:MM.isSome
 ·have HE2:Hid (qcz s tr=2):=by show _=_;rw [HE.out,hMS];rfl
  have HR2:Hid (qcj s tr=[]):=by show _=_;rw [HR.out,hN0 hMS];rfl
  clear hMS hN0
  go_wp2_with fail
  go_ret2
  rw [HE2.out,HR2.out]
  exact ⟨none,0,rfl,qef _,hE5⟩
 have HE2:Hid (qcz s tr=0):=by show _=_;rw [HE.out,hMS];rfl
 clear hMS hN0 HE
 go_wp2_with fail
 go_loopw [9,10] (fun v9 vi wr=>∃ (k:Nat) (Ao:Option Addr) (co:Nat),k≤L.length∧vi = .int .i64 k∧v9 = .slice Ao k co∧Ext w5 wr∧Hid (qab qaa 1 22 w5.heap.size (fun _=>True) wr ((L.take k).map (qak s)) (.slice Ao k co))) (fun _ vi _=>L.length-(intOf vi).toNat)
 case atStart=>exact ⟨0,none,0,Nat.zero_le _,rfl,rfl,Ext.refl _,qab.nil ..⟩
 case round =>
  obtain ⟨k,Ao,co,hk,rfl,rfl,hE,hO⟩:=hrel
  have hE':=hE5.trans' hE
  have hbx:=HB5.out.ext hE
  have x0:=hbx.cell 0 _
  have x1:=hbx.cell 1 _
  have x2:=hbx.cell 2 _
  have xz:=hbx.lt
  clear hbx
  by_cases hkl:k<L.length
  ·obtain ⟨b,off,cs2,rfl,hb5,_,_,hr,hcell⟩:=HS5.out.get k hkl
   obtain ⟨Ak,ck,rfl,hck,hck0⟩:=id hr
   have g0:=Ext.keep hE (by simpa using hcell.get 0 _:w5.cell? ⟨b,off+k,none⟩=some (.slice Ak (L[k]).length ck))
   have hb:b<wr.heap.size:=Nat.lt_of_lt_of_le hb5 hE.size
   have hlab:=fun W (hW:Ext wr W)=>HLA.out L[k] (HRN.out _ (List.getElem_mem hkl)).1 (by have:=(HRN.out _ (List.getElem_mem hkl)).2;omega) _ W (hE'.trans' hW) (RIs.good.bel hr (hE.trans' hW))
   have htk:=lbs_take s L hkl
   have htl:((L.take k).map (qak s)).length=k:=by rw [List.length_map,List.length_take];omega
   have hk1:k+1≤L.length:=hkl
   have z1:(0:Int)≤(k:Int):=by omega
   have z2:(k:Int)<(L.length:Int):=by omega
   obtain ⟨nk,hnk⟩:∃ nk,(L[k]).length=nk:=⟨_,rfl⟩
   rw [hnk] at g0 hlab
   obtain ⟨y,hy⟩:∃ y,qak s L[k]=y:=⟨_,rfl⟩
   rw [hy] at hlab htk
   have hlo:∀ q,(Value.slice Ao k co).ownBlock=some q→w5.heap.size≤q∧q<wr.heap.size:=fun q e=>hO.out.own_lt e
   have hn1:¬ (Value.slice Ao k co).ownBlock=some p0:=fun e=>by have:=(hlo _ e).1;have:=HB5.out.lt;omega
   have hn3:¬ (Value.slice Ao k co).ownBlock=some b:=fun e=>by have:=(hlo _ e).1;omega
   clear hcell hr hnk hy hck
   go_wp2_with fail
   refine qfi (fun W=>W.cell? ⟨p0,0,none⟩=some (.int .i64 (n:Int))∧W.cell? ⟨p0,1,none⟩=some (.slice Al s.ls.length cl)∧W.cell? ⟨p0,2,none⟩=some (.slice Ae s.es.length ce)∧W.cell? ⟨b,off+k,none⟩=some (.slice Ak nk ck)) (by kernel_rfl) (by rfl) (by kernel_rfl) ⟨x0,x1,x2,g0⟩ (fun hHeld=>?_)
   dsimp only [List.dropLast,List.getLastD,List.getLast?,List.getLast]
   obtain ⟨Wd,hWd⟩:∃ Wd,wr.drew=Wd:=⟨_,rfl⟩
   have hXd:Ext wr Wd:=hWd ▸ Below.drew (Ext.refl _)
   rw [hWd] at hHeld ⊢
   clear hWd x0 x1 x2 g0
   (refine tk 0 ?_;try simp only [qae])
   (refine tk 1 ?_;try simp only [qae])
   (refine tk 2 ?_;try simp only [qae])
   (refine tk 3 ?_;try simp only [qae])
   (refine tk 4 ?_;try simp only [qae])
   (refine tk 5 ?_;try simp only [qae])
   refine wpAnyH_ready (rs:=[6]) (by kernel_rfl) (by simp) ?_
   refine AllReadyH.cons rfl (fun K hK=>?_) AllReadyH.nil
   go_simp
   refine (hlab _ hXd).mono ?_
   rintro e w6 ⟨A6,c6,rfl,ho6,hx6⟩
   have hX6:=hXd.trans' hx6
   obtain ⟨g8,c8,w8,hr8,ho8,hb8,ha8,hbA⟩:=qcy qaa.good (by decide) w5.heap.size 22 30 (.slice none 0 0) 24 Tryz.underlying30 info22q rfl (by decide) (fun _=>True) w6 ((L.take k).map (qak s)) (.slice Ao k co) y [.slice A6 y.length c6]
    (hO.out.ext qaa.good hX6) (qaa.good.mono (ho6.sl RLb.good (by decide)) fun q _ hq=>⟨trivial,fun e=>by have h1:=hlo q e;have h2:=hE5.size;have h3:=hXd.size;rcases hq with h | h <;> omega⟩) (Nat.le_trans hE.size hX6.size) (by omega)
   rw [htl] at hr8 ho8
   rw [← htk] at ho8
   have HO8:=Hd ho8
   have HB8:Hid (Ext w5 w8):=Bt.new (hE.trans' hX6) hb8 fun q _ h=>(hlo q h).1
   have HRUN:=Hd hr8
   clear hr8 ho8 hb8 htk htl hO hlo
   refine hK.out _ _ (Ext.k4 hx6 hHeld) (fun hHeld5=>?_)
   clear hK K
   try simp only [qae]
   refine wpAnyH_ready (rs:=[7]) (by kernel_rfl) (by simp) ?_
   refine AllReadyH.cons rfl (fun K hK=>?_) AllReadyH.nil
   go_simp
   have hHeld6:=Ext.k4 ((Ext.refl w6).alloc (.cells #[.slice A6 y.length c6] 22)) hHeld5
   refine hK.out _ _ hHeld6 (fun _=>?_)
   clear hK K
   try simp only [qae]
   refine wpAnyH_ready (rs:=[8]) (by kernel_rfl) (by simp) ?_
   refine AllReadyH.cons rfl (fun K hK=>?_) AllReadyH.nil
   refine qdj rfl _ _ _ rfl _ _ _ rfl rfl HRUN.out ?_
   refine hK.out _ _ ⟨hbA.cell hHeld6.1 hn1,hbA.cell hHeld6.2.1 hn1,hbA.cell hHeld6.2.2.1 hn1,hbA.cell hHeld6.2.2.2 hn3⟩ (fun hHeld8=>?_)
   clear hK K
   try simp only [qae]
   refine wpAnyH_done (by kernel_rfl) ?_ _
   show Oper.wp _ _ _ _ _ _
   go_simp
   clear hHeld hHeld5 hHeld6 hHeld8 hbA
   go_wp2_with fail
   go_roundw
   case rel=>exact ⟨k+1,some ⟨g8,0,none⟩,c8,hk1,by go_num,rfl,HB8.out,HO8.out⟩
   case measure=>simp [intOf];omega
  ·obtain rfl:k=L.length:=by omega
   have HF:Hid (RSl qaa 1 (fun _=>True) wr (L.map (qak s)) [.slice Ao L.length co]):=by have h:=hO.out;rw [List.take_length] at h;exact RSl.good qaa.good |>.mono (h.sl qaa.good (by decide)) fun _ _ _=>trivial
   have hlen:(L.map (qak s)).length=L.length:=by rw [List.length_map]
   have HLN:=Hd hlen
   clear hlen hO
   go_wp2_with fail
   go_ret2
   rw [HE2.out,HR.out]
   exact ⟨Ao,co,by rw [HLN.out];rfl,by rw [HLN.out];exact HF.out,hE'⟩
end
section

theorem qn6 (s:Sy):∀ (e:Nat) (out lev r:List Pl),qca s e out lev=some r→∃ m,r=out++m
 | 0,out,lev,r,h=>by
  rw [qca] at h
  injection h with h
  exact ⟨[],by rw [List.append_nil,h]⟩
 | e+1,out,lev,r,h=>by
  rw [qca] at h
  split at h
  ·cases h
  ·obtain ⟨m,hm⟩:=qn6 s e _ _ _ h
   exact ⟨qb5 s lev++m,by rw [hm,List.append_assoc]⟩
theorem qis (s:Sy):∀ (ps qs:List Pl) (out:List Te),qbe s (ps++qs) out=match qbe s ps out with
  | none=>none
  | some r=>qbe s qs r
 | [],qs,out=>by rw [List.nil_append,qbe]
 | p :: ps,qs,out=>by
  rw [List.cons_append,qbe,qbe]
  cases qbg s p.st with
  | none=>rfl
  | some ms =>
   simp only
   split
   ·rfl
   ·exact qis s ps qs _
end
section

def qc8 (s:Sy) (d:Nat) (p:Pl):List Pl:=if p.tr.length<d then plRow s p else []
def qGo (s:Sy) (d:Nat):Nat→List Pl→Nat→List Te→Option (List Te)
 | _,[],_,out=>some out
 | 0,_ :: _,_,_=>none
 | f+1,p :: ps,tot,out=>match qbg s p.st with
  | none=>none
  | some ms=>if 4000<(out++ms.map (Te.mk p.tr)).length∨4000<tot+(qc8 s d p).length then none else qGo s d f (ps++qc8 s d p) (tot+(qc8 s d p).length) (out++ms.map (Te.mk p.tr))
theorem ql2 (s:Sy) (d:Nat):∀ (lev acc:List Pl) (f tot:Nat) (out:List Te),lev.length≤f→tot≤4000→qGo s d f (lev++acc) tot out =
  match qbe s lev out with
  | none=>none
  | some out'=>if 4000<tot+(lev.flatMap (qc8 s d)).length then none else qGo s d (f-lev.length) (acc++lev.flatMap (qc8 s d)) (tot+(lev.flatMap (qc8 s d)).length) out'
 | [],acc,f,tot,out,_,ht=>by
  rw [qbe]
  simp only [List.flatMap_nil,List.length_nil,List.nil_append,List.append_nil,Nat.add_zero,Nat.sub_zero]
  rw [if_neg (by omega)]
 | p :: lev,acc,0,tot,out,hf,_=>by simp at hf
 | p :: lev,acc,f+1,tot,out,hf,ht=>by
  have hl:lev.length≤f:=by simpa using hf
  rw [List.cons_append,qGo,qbe,List.flatMap_cons,List.length_append]
  cases qbg s p.st with
  | none=>rfl
  | some ms =>
   simp only
   by_cases h1:4000<(out++ms.map (Te.mk p.tr)).length
   ·rw [if_pos (.inl h1),if_pos h1]
   ·rw [if_neg h1]
    by_cases h2:4000<tot+(qc8 s d p).length
    ·rw [if_pos (.inr h2)]
     cases qbe s lev (out++ms.map (Te.mk p.tr)) with
     | none=>rfl
     | some o =>
      simp only
      rw [if_pos (by omega)]
    ·rw [if_neg (by rintro (h | h);exact h1 h;exact h2 h),List.append_assoc,ql2 s d lev (acc++qc8 s d p) f (tot+(qc8 s d p).length) _ hl (by omega)]
     cases qbe s lev (out++ms.map (Te.mk p.tr)) with
     | none=>rfl
     | some o =>
      simp only [List.length_cons,Nat.add_assoc,List.append_assoc,Nat.add_sub_add_right]
theorem qRow_at (s:Sy) (d k:Nat) (lev:List Pl) (h:∀ p∈lev,p.tr.length=k):lev.flatMap (qc8 s d)=if k<d then qb5 s lev else []:=by
 induction lev with
 | nil=>split <;> rfl
 | cons p lev ih =>
  rw [List.flatMap_cons,ih fun q hq=>h q (by simp [hq]),qc8,h p (by simp)]
  split
  ·rw [qb5,qb5,List.flatMap_cons]
  ·rfl
theorem plNext_lv (s:Sy) (k:Nat) (lev:List Pl) (h:∀ p∈lev,p.tr.length=k):∀ p∈qb5 s lev,p.tr.length=k+1:=fun p hp=>by
 obtain ⟨q,hq,hp⟩:=List.mem_flatMap.1 hp
 obtain ⟨x,hx,hp⟩:=List.mem_flatMap.1 hp
 unfold qbu at hp
 split at hp
 ·rw [List.mem_singleton.1 hp]
  simp [h q hq]
 ·simp at hp
theorem qGo_gen (s:Sy) (d:Nat):∀ (e k f tot:Nat) (lev pre:List Pl) (o:List Te),k+e=d→(∀ p∈lev,p.tr.length=k)→tot=pre.length+lev.length→tot≤4000→4000≤f+pre.length→qbe s pre []=some o →
  qGo s d f lev tot o=match qca s e (pre++lev) lev with
   | none=>none
   | some r=>qbe s r []
 | 0,k,f,tot,lev,pre,o,hk,hl,ht,ht2,hf,hg=>by
  have h:=ql2 s d lev [] f tot o (by omega) ht2
  rw [List.append_nil,qRow_at s d k lev hl,if_neg (by omega)] at h
  rw [h,qca]
  simp only
  rw [qis,hg]
  simp only [List.length_nil,Nat.add_zero,List.append_nil]
  cases qbe s lev o with
  | none=>rfl
  | some o' =>
   simp only
   rw [if_neg (by omega)]
   cases f-lev.length <;> rfl
 | e+1,k,f,tot,lev,pre,o,hk,hl,ht,ht2,hf,hg=>by
  have h:=ql2 s d lev [] f tot o (by omega) ht2
  rw [List.append_nil,qRow_at s d k lev hl,if_pos (by omega),List.nil_append] at h
  have hgl:qbe s (pre++lev) []=qbe s lev o:=by rw [qis,hg]
  rw [h,qca,List.length_append,← ht]
  cases hn:qbe s lev o with
  | none =>
   simp only
   split
   ·rename_i hp
    rfl
   ·rename_i r hp
    split at hp
    ·cases hp
    ·obtain ⟨m,hm⟩:=qn6 s _ _ _ _ hp
     rw [hm,List.append_assoc,qis,hgl,hn]
  | some o' =>
   simp only
   by_cases h4:4000<tot+(qb5 s lev).length
   ·rw [if_pos h4,if_pos h4]
   ·rw [if_neg h4,if_neg h4]
    exact qGo_gen s d e (k+1) _ _ _ (pre++lev) o' (by omega) (plNext_lv s k lev hl) (by rw [List.length_append,ht]) (by omega) (by rw [List.length_append];omega) (by rw [hgl,hn])
theorem qt5 (s:Sy) (d:Nat):qGo s d 4000 [⟨[],qap s [0]⟩] 1 []=qbm s d:=by
 rw [qGo_gen s d d 0 4000 1 [⟨[],qap s [0]⟩] [] [] (by omega) (fun p hp=>by rw [List.mem_singleton.1 hp];rfl) rfl (by omega) (by simp) rfl]
 rfl
end
section
open Go.Shelf
def RSp (n:Nat):Rdr Pl:=fun S w x cs=>∃ v u,cs=[v,u]∧qaa S w x.tr [v]∧RSl qad 1 S w (marksOf n x.st) [u]
theorem RSp.good (n:Nat):Good (RSp n) 2:={
 len:=by rintro S w x cs ⟨v,u,rfl,_⟩;rfl
 one:=by
  rintro S w t cs ⟨v,u,rfl,hv,hu⟩ y hy
  simp at hy
  rcases hy with rfl | rfl
  ·exact hv.oneCell
  ·exact hu.oneCell
 move:=by rintro S w w' x cs ⟨v,u,rfl,hv,hu⟩ hk;exact ⟨v,u,rfl,qaa.good.move hv hk,(RSl.good qad.good).move hu hk⟩
 mono:=by rintro S S' w x cs ⟨v,u,rfl,hv,hu⟩ hs;exact ⟨v,u,rfl,qaa.good.mono hv hs,(RSl.good qad.good).mono hu hs⟩ }
theorem qn5:(Tryz.prog.info? 124).map (fun i=>(i.zero,i.size,i.bytes))=some (some (.agg #[.slice none 0 0,.slice none 0 0]),2,48):=by kernel_rfl
theorem info40:(Tryz.prog.info? 40).map (fun i=>(i.zero,i.size,i.bytes))=some (some (.agg #[.slice none 0 0,.slice none 0 0]),2,48):=by kernel_rfl
structure SpOk (s:Sy) (p:Pl):Prop where
 ran:∀ y∈p.st,0≤y∧y<s.n
 ris:p.st.Pairwise (· < ·)
 len:p.tr.length≤8
theorem quj (s:Sy) (x:Lb) (l:List Int):(qa7 s x l).Pairwise (· < ·):=qj1 s (qo0 s x l)
theorem plOne_ok {s:Sy} (hok:qai s) {p:Pl} (hp:p.tr.length<8) (x:Lb):∀ q∈qbu s p x,SpOk s q:=fun q hq=>by
 unfold qbu at hq
 split at hq
 ·rw [List.mem_singleton.1 hq]
  exact ⟨qly hok x p.st,quj s x p.st,by simp only [List.length_append,List.length_cons,List.length_nil];omega⟩
 ·simp at hq
theorem qRow_ok {s:Sy} (hok:qai s) {d:Nat} (hd:d≤8) (p:Pl):∀ q∈qc8 s d p,SpOk s q:=fun q hq=>by
 unfold qc8 at hq
 split at hq
 ·obtain ⟨x,_,hq⟩:=List.mem_flatMap.1 hq
  exact plOne_ok hok (by omega) x q hq
 ·simp at hq
theorem start_ok {s:Sy} (hok:qai s):SpOk s ⟨[],qap s [0]⟩:=⟨qkx hok [0] fun y hy=>by
 rw [List.mem_singleton.1 hy]
 have:=hok.1
 omega,qj1 s (l:=[0]) (by simp),by simp⟩
theorem qub (s:Sy) (p:Pl) (k:Nat) (h:k<s.ls.length):(s.ls.take (k+1)).flatMap (qbu s p)=(s.ls.take k).flatMap (qbu s p)++qbu s p s.ls[k]:=by
 rw [List.take_succ_eq_append_getElem h,List.flatMap_append,List.flatMap_cons,List.flatMap_nil,List.append_nil]
theorem plOne_no {s:Sy} {p:Pl} {x:Lb} (h:qa0 x.g=false):qbu s p x=[]:=by
 unfold qbu
 rw [if_neg]
 rintro ⟨h',_⟩
 rw [h] at h'
 cases h'
theorem plOne_any {s:Sy} (hok:qai s) {n:Nat} (hn:s.n=(n:Int)) (p:Pl) (x:Lb) (hv:qa0 x.g=true):qbu s p x=if (marksOf n (qa7 s x p.st)).any id=true then [⟨p.tr++[x],qa7 s x p.st⟩] else []:=by
 have h:=qm1 n (L:=qa7 s x p.st) fun y hy=>by have:=qly hok x p.st y hy;omega
 unfold qbu
 by_cases hb:qa7 s x p.st=[]
 ·rw [if_neg fun h'=>by have:=h'.2;rw [hb] at this;simp at this,if_neg fun h'=>h.1 h' hb]
 ·rw [if_pos ⟨hv,List.length_pos_iff.2 hb⟩,if_pos (h.2 hb)]
theorem te_take (s:Sy) (tr:List Lb) (l:List (List Int)) {k:Nat} (h:k<l.length):(l.take (k+1)).map (fun m=>Te.mk tr (qak s m))=(l.take k).map (fun m=>Te.mk tr (qak s m))++[Te.mk tr (qak s l[k])]:=by
 rw [List.take_succ_eq_append_getElem h,List.map_append]
 rfl
def ob (A:Option Addr):Option Nat:=(Value.slice A 0 0).ownBlock
theorem qfv (A:Option Addr) (n c:Nat):(Value.slice A n c).ownBlock=ob A:=by cases A <;> rfl
theorem qab.obl {α:Type} {R:Rdr α} {k base:Nat} {e:TypeId} {T:Nat→Prop} {w:World} {xs:List α} {A:Option Addr} {n c:Nat} (h:qab R k e base T w xs (.slice A n c)) {q:Nat} (hq:ob A=some q):base≤q∧q<w.heap.size:=h.own_lt ((qfv ..).trans hq)
end
end Go.Proofs.YtegenalcheooeaaGreat
