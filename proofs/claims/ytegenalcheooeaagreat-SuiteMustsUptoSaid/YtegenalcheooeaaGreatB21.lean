/- Of the proof of a law of the suites: Musts, Musts2. -/
import Derived.Test.YtegenalcheooeaaGreatB11
import Derived.Test.YtegenalcheooeaaGreatB16
import Derived.Test.YtegenalcheooeaaGreatB18
import Derived.Test.YtegenalcheooeaaGreatB20
set_option linter.unusedSectionVars false
set_option linter.unusedSimpArgs false
set_option linter.unusedVariables false
namespace Go.Proofs.YtegenalcheooeaaGreat
open Go.RowKit
attribute [local go_sem] cell?_exto
section
set_option maxHeartbeats 1000000
set_option maxRecDepth 100000
/- suite.musts: walked. -/
open Go.Shelf
def qe4 (a m:List Lb):List (List Lb):=if qd3 m a then [m] else a.map (qci m)
def qcf (ls:List (List Lb)) (a:List Lb):List (List Lb):=ls.flatMap (qe4 a)
def qdi (ls:List (List Lb)) (a:List Lb):List (List Lb):=qb4 (qbw (qcf ls a))
def qfz (n:List (List Lb)):Bool:=decide (2000<n.length) || n.any fun m=>decide (64<m.length)
def qct:List (List Lb)→List (List Lb)→Option (List (List Lb))
 | [],ls=>some ls
 | a :: bs,ls=>if qfz (qdi ls a) then none else qct bs (qeh (qdi ls a))
def qbg (s:Sy) (sts:List Int):Option (List (List Lb)):=if sts=[] then some [] else qct (qb4 (qbw (sts.map (qa9 s)))) [[]]
def qes {α:Type}:Option α→Int
 | none=>2
 | some _=>0
def qa2 {α:Type}:Option (List α)→List α
 | none=>[]
 | some l=>l
def MustPost (P:Nat→Prop) (r:Option (List (List Lb))) (w:World) (e:Ending) (w':World):Prop :=
 ∃ A c,e = .returned (.tuple #[.slice A (qa2 r).length c,.int .i64 (qes r)])∧qab qaa 1 22 w.heap.size P w' (qa2 r) (.slice A (qa2 r).length c)∧Ext w w'
theorem qut (a m:List Lb) (ha:a.length≤4000):(qe4 a m).length≤4000:=by
 unfold qe4
 split
 ·simp
 ·rw [List.length_map];exact ha
theorem qnj (a:List Lb) (ha:a.length≤4000):∀ ls:List (List Lb),(qcf ls a).length≤ls.length*4000
 | []=>by simp [qcf]
 | m :: ls=>by
  have h1:=qnj a ha ls
  have h2:=qut a m ha
  unfold qcf at *
  rw [List.flatMap_cons,List.length_append,List.length_cons]
  omega
theorem qvm (ls:List (List Lb)) (a:List Lb) (i:Nat) (h:i<ls.length):qcf (ls.take (i+1)) a=qcf (ls.take i) a++qe4 a ls[i]:=by
 rw [List.take_succ_eq_append_getElem h,qcf,List.flatMap_append]
 simp [qcf]
theorem qog (l:List (List Lb)) (x:List Lb) (h:x∈qeh l):x∈l:=(qg8 l x).1 (qjk qcd _ x (List.mem_filter.1 h).1)
theorem qti (l:List (List Lb)):(qeh l).length≤l.length:=by
 have h1:=List.length_filter_le (fun a=>!((qb4 (qbw l)).any (qff a))) (qb4 (qbw l))
 have h2:=qma (qbw l)
 rw [qi5] at h2
 exact Nat.le_trans h1 h2
theorem qpt {n:List (List Lb)} (h:qfz n=false):n.length≤2000∧∀ m∈n,m.length≤64:=by
 simp only [qfz,Bool.or_eq_false_iff,decide_eq_false_iff_not,List.any_eq_false,decide_eq_true_eq] at h
 exact ⟨by omega,fun m hm=>by have:=h.2 m hm;omega⟩
theorem eg148:∀ args w,(callFunc 148 args).run Tryz.prog w = .ok (.enter 148 args) w:=enters_of Tryz.func148 (by kernel_rfl) rfl
theorem musts1_c (S:Nat→Prop) (m:List Lb) (u:Value) (w:World) (hm:qaa S w m [u]):Calls Tryz.prog 148 #[u] w fun e w'=>e = .returned (.bool (decide (64<m.length)))∧Ext w w':=by
 obtain ⟨A,c,rfl,_,_⟩:=hm.val
 clear hm
 go_enter Tryz.func148,Tryz.ntmps148
 go_wp2_with fail
 go_ret
 refine ⟨?_,Ext.refl _⟩
 have:decide ((64:Int)<(m.length:Int))=decide (64<m.length):=decide_eq_decide.2 (by omega)
 rw [← this]
 rfl
theorem qm5 {P:Nat→Prop} {base:Nat} {w w':World} {xs:List (List Lb)} {y:List Lb} {v v' u:Value} {news:List Value} (hF:Flat qaa 1 (fun b=>P b∧v.ownBlock≠some b) w xs news) (hy:qaa (fun b=>P b∧v.ownBlock≠some b) w y [u])
  (hown:w'.ownsRow base 22 1 v' (xs.length+1) (news++[u])) (hg:w.grownBy w' v.ownBlock) (hat:v'.ownBlock=v.ownBlock∨v'.ownBlock=some w.heap.size):qab qaa 1 22 base P w' (xs++[y]) v' :=
 qab.push qaa.good hF (Flat.single hy rfl) hown hg hat
theorem musts_c (P S:Nat→Prop) (s:Sy) (hok:qai s) (g:Nat) (sts:List Int) (v:Value) (w:World) (hS:qau P w g s) (hP:∀ b,w.heap.size≤b→P b) (hl:RSl qac 1 S w sts [v]) (hlen:sts.length≤1000000) :
  Calls Tryz.prog 80 #[.pointer (some ⟨g,0,none⟩),v] w (MustPost P (qbg s sts) w):=by
 obtain ⟨A0,c0,rfl,_,_⟩:=hl.val
 have HS:Hid (qau (fun b=>P b∧b<w.heap.size) w g s):=hS.mono fun b hb h=>⟨h,hb⟩
 have HL:=Hd hl
 clear hS hl
 by_cases h0:sts=[]
 ·subst h0
  have HV:Hid (qbg s []=some []):=rfl
  go_enter Tryz.func80,Tryz.ntmps80
  go_wp2_with fail
  go_ret2
  rw [HV.out]
  exact ⟨none,0,rfl,qab.nil ..,Ext.refl _⟩
 have hne:((sts.length:Int) == 0)=false:=beq_eq_false_iff_ne.2 fun e=>h0 (List.length_eq_zero_iff.1 (by omega))
 have HV:Hid (qbg s sts=qct (qb4 (qbw (sts.map (qa9 s)))) [[]]):=if_neg h0
 have hlb:=qrs
 obtain ⟨i3,hi3,hzz⟩:=Option.map_eq_some_iff.1 hlb
 simp only [Prod.mk.injEq] at hzz
 obtain ⟨hz0,hz1,hz2⟩:=hzz
 clear h0 hlb
 go_enter Tryz.func80,Tryz.ntmps80
 go_wp2_with fail
 go_loopw [6,22] (fun vo vi wr=>∃ (k:Nat) (A:Option Addr) (c:Nat),k≤sts.length∧vi = .int .i64 k∧vo = .slice A k c∧qab qaa 1 22 w.heap.size P wr ((sts.take k).map (qa9 s)) (.slice A k c)∧Ext w wr) (fun _ vi _=>sts.length-(intOf vi).toNat)
 case atStart=>exact ⟨0,none,0,Nat.zero_le _,rfl,rfl,qab.nil ..,Ext.refl _⟩
 case round =>
  obtain ⟨k,A,c,hk,rfl,rfl,hown,hE⟩:=hrel
  by_cases hlt:k<sts.length
  ·obtain ⟨b,off,cs,rfl,hb,hT,hl,hr,hcell⟩:=((RSl.good qac.good).bel HL.out hE).get k hlt
   obtain ⟨rfl,hi⟩:=hr
   have g0:=(by simpa using hcell.get 0 _:wr.cell? ⟨b,off+k,none⟩=some (.int .i64 sts[k]))
   have hac:=qm6 (fun b=>P b∧b<w.heap.size) s hok g sts[k] wr hi (HS.out.bel hE)
   have hkl:Hid ((sts.take k).length=k):=by show _=_;rw [List.length_take];omega
   have hst:Hid ((sts.take (k+1)).map (qa9 s)=(sts.take k).map (qa9 s)++[qa9 s sts[k]]):=by show _=_;rw [List.take_succ_eq_append_getElem hlt,List.map_append];rfl
   have HO:=Hd hown
   have hob:=fun q hq=>hown.own_lt (b:=q) hq
   clear hcell hl hT hown
   go_wp2_with fail
   refine hac.mono ?_
   rintro e w3 ⟨A3,c3,rfl,ho3,hx3⟩
   have ho4:=HO.out.ext qaa.good (hx3.alloc (.cells #[.slice A3 (qa9 s sts[k]).length c3] 22))
   obtain ⟨news,hrow,hF⟩:=ho4
   have hcc:=qei w3 #[.slice A3 (qa9 s sts[k]).length c3] 22
   have hy:qaa (fun b=>P b∧(Value.slice A k c).ownBlock≠some b) (w3.alloc (.cells #[.slice A3 (qa9 s sts[k]).length c3] 22)) (qa9 s sts[k]) [.slice A3 (qa9 s sts[k]).length c3] :=
    qaa.good.bel (qaa.good.mono (ho3.sl RLb.good (by decide)) fun q _ hq=>⟨hq.elim (fun h=>h.1.1) fun h=>hP q (by have:=hE.size;omega),fun e=>by
     have:=hob q e
     rcases hq with h | h
     ·have h':q<w.heap.size:=h.1.2;omega
     ·omega⟩) ((Ext.refl _).alloc _)
   have HF:=Hd hF
   have HY:=Hd hy
   have hsz3:=hx3.size
   have hszE:=hE.size
   rw [List.length_map,hkl.out] at hrow
   clear hF hy ho3 hac
   go_wp2_with (at_builtin;refine wpList_append_own_at _ rfl _ _ 30 rfl w.heap.size 22 i3 _ 1 24 Tryz.underlying30 hi3 hz0 hz1 hz2 rfl (by decide) _ _ _ rfl hrow ⟨w3.heap.size,0,none⟩ 1 1 [.slice A3 (qa9 s sts[k]).length c3] rfl rfl hcc (by simp [Value.oneCell']) (by unfold maxLen;omega) (by omega) (by simp;omega) ?_;intro v5 w5 hown5 hgrow5 hnil5 hat5;obtain ⟨g5,c5,rfl⟩:=ownsRow_succ hown5)
   have hp5:=Hd (qm5 HF.out HY.out (by rw [List.length_map,hkl.out];exact hown5) hgrow5 hat5)
   have hX5:Ext w w5:=Below.grown ((hE.trans' hx3).alloc _) hgrow5 (by simp;omega) fun q hq=>(hob q hq).1
   clear hown5 hgrow5 hat5 hnil5 hrow hcc
   go_wp2_with fail
   go_roundw
   case rel=>exact ⟨k+1,some ⟨g5,0,none⟩,c5,by omega,by go_num,rfl,by rw [hst.out];exact hp5.out,hX5⟩
   case measure=>simp [intOf];omega
  ·obtain rfl:k=sts.length:=by omega
   rw [List.take_length] at hown
   obtain ⟨wa,rfl⟩:∃ wa,wa=wr:=⟨_,rfl⟩
   obtain ⟨ac,hac⟩:∃ ac,sts.map (qa9 s)=ac:=⟨_,rfl⟩
   have hacl:ac.length=sts.length:=by rw [← hac,List.length_map]
   have hace:∀ a∈ac,a.length≤4000:=fun a ha=>by
    rw [← hac] at ha
    obtain ⟨t,_,rfl⟩:=List.mem_map.1 ha
    have:=accL_len s t
    have:=hok.2.2.1
    omega
   have HV2:Hid (qbg s sts=qct (qb4 (qbw ac)) [[]]):=by show _=_;rw [HV.out,hac]
   rw [hac] at hown
   have hob:=fun q hq=>hown.own_lt (b:=q) hq
   have hs:=qm2 w.heap.size _ ac _ wa hown (by omega)
   have hc1:=fun W (hW:qab qaa 1 22 w.heap.size P W (qbw ac) (.slice A sts.length c))=>qoe w.heap.size _ (qbw ac) _ W hW (by rw [qi5];omega)
   have HACL:=Hd hacl
   clear hacl hac hown HV
   go_wp2_with fail
   refine hs.mono ?_
   rintro e w1 ⟨rfl,ho1,hb1⟩
   have ho1':=ho1.ext qaa.good ((Ext.refl w1).alloc (.cells #[.slice none 0 0] 22))
   go_wp2_with fail
   refine (hc1 _ ho1').mono ?_
   rintro e w2 ⟨A2,c2,rfl,ho2,hb2⟩
   have hz1:=hb1.size
   have hz2:=hb2.size
   simp only [World.size_alloc] at hz2
   have hlit:qab qaa 1 22 w.heap.size P w2 [[]] (.slice (some ⟨w1.heap.size,0,none⟩) 1 1):=by
    have h1:=World.ownsRow_lit (base:=w.heap.size) (e:=22) (size:=1) w1 #[.slice none 0 0] 1 (by have:=hE.size;omega) (by decide) rfl
    have h2:qab qaa 1 22 w.heap.size (fun _=>False) (w1.alloc (.cells #[.slice none 0 0] 22)) [[]] (.slice (some ⟨w1.heap.size,0,none⟩) 1 1):=⟨[.slice none 0 0],h1,[.slice none 0 0],[],rfl,rfl,⟨none,0,rfl,Nat.le_refl _,by decide,.inl rfl⟩,rfl⟩
    refine (h2.bt qaa.good hb2 fun b _ hz=>⟨fun h=>h,fun e=>?_⟩).mono qaa.good fun _ _ h=>h.elim
    have h3:=(hob b hz).2
    have h4:w1.heap.size=b:=by simpa [Value.ownBlock] using e
    omega
   obtain ⟨acs,hacs⟩:∃ acs,qb4 (qbw ac)=acs:=⟨_,rfl⟩
   have hacn:acs.length≤1000000:=by rw [← hacs];have:=qma (qbw ac);rw [qi5,HACL.out] at this;omega
   have hace2:∀ a∈acs,a.length≤4000:=fun a ha=>hace a ((qg8 ac a).1 (qjk qcd _ a (by rw [← hacs] at ha;exact ha)))
   have hX2:Ext w w2:=Bt.new (Z:=fun b=>w.heap.size≤b) hE (((hb1.mono fun b _ h=>(hob b h).1).trans ((Bt.refl _ _).alloc _)).trans (hb2.mono fun b _ h=>(hob b h).1)) fun _ _ h=>h
   rw [hacs] at ho2 HV2 ⊢
   have HO2:=Hd ho2
   have HLIT:=Hd hlit
   clear hacs hlit ho2 ho1 ho1' hs hc1 hb1 hb2 HACL hace hob hz1 hz2
   go_wp2_with fail
   go_loopw [9,39] (fun vl vi wr=>∃ (k:Nat) (A:Option Addr) (c:Nat) (ls:List (List Lb)),k≤acs.length∧vi = .int .i64 k∧vl = .slice A ls.length c∧qab qaa 1 22 w.heap.size P wr ls (.slice A ls.length c)∧ls.length≤2000∧(∀ m∈ls,m.length≤64)∧Hid (qct (acs.drop k) ls=qct acs [[]])∧Ext w2 wr) (fun _ vi _=>acs.length-(intOf vi).toNat)
   case atStart=>exact ⟨0,some ⟨w1.heap.size,0,none⟩,1,[[]],Nat.zero_le _,rfl,rfl,HLIT.out,by decide,by simp,rfl,Ext.refl _⟩
   case round =>
    obtain ⟨k,A,c,ls,hk,rfl,rfl,hown,hln,hlm,hgo,hE2⟩:=hrel
    by_cases hlt:k<acs.length
    ·obtain ⟨b,off,cs,rfl,hb,hT,hl,hr,hcell⟩:=((RSl.good qaa.good).bel ((RSl.good qaa.good).mono (S':=fun b=>P b∧b<w2.heap.size) (HO2.out.sl qaa.good (by decide)) fun b hb h=>⟨h.elim id (hP b),hb⟩) hE2).get k hlt
     obtain ⟨Aa,ca,rfl,hra0,hra1,_⟩:=id hr
     have g0:=(by simpa using hcell.get 0 _:wr.cell? ⟨b,off+k,none⟩=some (.slice Aa acs[k].length ca))
     have ha:=hace2 _ (List.getElem_mem hlt)
     obtain ⟨a,haa⟩:∃ a,acs[k]=a:=⟨_,rfl⟩
     have hstep:qct (acs.drop k) ls=if qfz (qdi ls a) then none else qct (acs.drop (k+1)) (qeh (qdi ls a)):=by rw [List.drop_eq_getElem_cons hlt,qct,haa]
     rw [haa] at ha hr g0
     have HST:=Hd hstep
     have HRA:=Hd hr
     have HLS:=Hd hown
     have hob:=fun q hq=>hown.own_lt (b:=q) hq
     obtain ⟨wb,rfl⟩:∃ wb,wb=wr:=⟨_,rfl⟩
     have hwb:w.heap.size≤wb.heap.size:=by have:=hX2.size;have:=hE2.size;omega
     clear hstep hr hown hcell hl hT haa
     go_wp2_with fail
     go_loopw [12,45] (fun vn vi wr=>∃ (i:Nat) (A':Option Addr) (c':Nat),i≤ls.length∧vi = .int .i64 i∧vn = .slice A' (qcf (ls.take i) a).length c'∧qab qaa 1 22 wb.heap.size P wr (qcf (ls.take i) a) (.slice A' (qcf (ls.take i) a).length c')∧Ext wb wr) (fun _ vi _=>ls.length-(intOf vi).toNat)
     case atStart=>exact ⟨0,none,0,Nat.zero_le _,rfl,rfl,qab.nil ..,Ext.refl _⟩
     case round =>
      obtain ⟨i,A',c',hi,rfl,rfl,hown,hE3⟩:=hrel
      by_cases hlt3:i<ls.length
      ·have hls2:=(RSl.good qaa.good).mono (HLS.out.sl qaa.good (by decide)) (S':=fun b=>P b∧b<wb.heap.size) fun b hb h=>⟨h.elim id (hP b),hb⟩
       obtain ⟨b2,off2,cs2,rfl,hb2,hT2,hl2,hr2,hcell2⟩:=hls2.get i hlt3
       obtain ⟨Am,cm,rfl,hm0,hm1,_⟩:=id hr2
       have g2:=Ext.keep hE3 (by simpa using hcell2.get 0 _:wb.cell? ⟨b2,off2+i,none⟩=some (.slice Am ls[i].length cm))
       have hml:=hlm _ (List.getElem_mem hlt3)
       have hnt:=qvm ls a i hlt3
       obtain ⟨m,hmm⟩:∃ m,ls[i]=m:=⟨_,rfl⟩
       rw [hmm] at hml hr2 g2 hnt
       have hrl:=qnj a ha (ls.take i)
       rw [List.length_take,Nat.min_eq_left (by omega)] at hrl
       have HR2:=Hd hr2
       have HNT:=Hd hnt
       have HOW:=Hd hown
       have hob3:=fun q hq=>hown.own_lt (b:=q) hq
       have hcom:=qmt (fun _=>True) m a _ _ wr (qaa.good.mono (qaa.good.bel hr2 hE3) fun _ _ _=>trivial) (qaa.good.mono (qaa.good.bel HRA.out hE3) fun _ _ _=>trivial) (by omega)
       have hnr:(qcf (ls.take i) a).length≤8000000:=by omega
       clear hr2 hnt hown hcell2 hl2 hT2 hls2 hmm hrl
       by_cases hco:qd3 m a=true
       ·rw [hco] at hcom
        have hst:Hid (qcf (ls.take (i+1)) a=qcf (ls.take i) a++[m]):=by show _=_;rw [HNT.out,qe4,if_pos hco]
        clear hco
        go_wp2_with fail
        refine hcom.mono ?_
        rintro e w3 ⟨rfl,hx3⟩
        have ho4:=HOW.out.ext qaa.good (hx3.alloc (.cells #[.slice Am m.length cm] 22))
        obtain ⟨news,hrow,hF⟩:=ho4
        have hcc:=qei w3 #[.slice Am m.length cm] 22
        have hy:qaa (fun b=>P b∧(Value.slice A' (qcf (ls.take i) a).length c').ownBlock≠some b) (w3.alloc (.cells #[.slice Am m.length cm] 22)) m [.slice Am m.length cm] :=
         qaa.good.bel (qaa.good.mono HR2.out fun q _ hq=>⟨hq.1,fun e=>by have:=(hob3 q e).1;have h':q<wb.heap.size:=hq.2;omega⟩) ((hE3.trans' hx3).alloc _)
        have HF:=Hd hF
        have HY:=Hd hy
        have hsz3:=hx3.size
        have hszE:=hE3.size
        clear hF hy hcom
        go_wp2_with (at_builtin;refine wpList_append_own_at _ rfl _ _ 30 rfl wb.heap.size 22 i3 _ 1 24 Tryz.underlying30 hi3 hz0 hz1 hz2 rfl (by decide) _ _ _ rfl hrow ⟨w3.heap.size,0,none⟩ 1 1 [.slice Am m.length cm] rfl rfl hcc (by simp [Value.oneCell']) (by unfold maxLen;omega) (by omega) (by simp;omega) ?_;intro v5 w5 hown5 hgrow5 hnil5 hat5;obtain ⟨g5,c5,rfl⟩:=ownsRow_succ hown5)
        have hp5:=Hd (qm5 HF.out HY.out hown5 hgrow5 hat5)
        have hX5:Ext wb w5:=Below.grown ((hE3.trans' hx3).alloc _) hgrow5 (by simp;omega) fun q hq=>(hob3 q hq).1
        clear hown5 hgrow5 hat5 hnil5 hrow hcc
        go_wp2_with fail
        go_roundw
        case rel=>exact ⟨i+1,some ⟨g5,0,none⟩,c5,by omega,by go_num,by rw [hst.out,List.length_append];rfl,by rw [hst.out,List.length_append];exact hp5.out,hX5⟩
        case measure=>simp [intOf];omega
       ·rw [eq_false_of_ne_true hco] at hcom
        have hst:Hid (qcf (ls.take (i+1)) a=qcf (ls.take i) a++a.map (qci m)):=by show _=_;rw [HNT.out,qe4,if_neg hco]
        clear hco
        obtain ⟨wc,rfl⟩:∃ wc,wc=wr:=⟨_,rfl⟩
        go_wp2_with fail
        refine hcom.mono ?_
        rintro e w3 ⟨rfl,hx3⟩
        have hX3:=hE3.trans' hx3
        clear hcom
        obtain ⟨rj,hrj⟩:∃ rj:Nat→List (List Lb),rj=fun j=>qcf (ls.take i) a++(a.take j).map (qci m):=⟨_,rfl⟩
        have hr0:Hid (rj 0=qcf (ls.take i) a):=by show _=_;rw [hrj];simp
        have hr1:Hid (∀ j,(h:j<a.length)→rj (j+1)=rj j++[qci m a[j]]):=by
         intro j h
         rw [hrj]
         simp only
         rw [List.take_succ_eq_append_getElem h,List.map_append,List.append_assoc]
         rfl
        have hr2:Hid (rj a.length=qcf (ls.take (i+1)) a):=by show _=_;rw [hst.out,hrj];simp only [List.take_length]
        have hr3:Hid (∀ j,(rj j).length≤8000000+4000):=by
         intro j
         rw [hrj]
         simp only [List.length_append,List.length_map,List.length_take]
         omega
        clear hrj
        go_wp2_with fail
        go_loopw [12,58] (fun vn vi wr=>∃ (j:Nat) (A4:Option Addr) (c4:Nat),j≤a.length∧vi = .int .i64 j∧vn = .slice A4 (rj j).length c4∧qab qaa 1 22 wb.heap.size P wr (rj j) (.slice A4 (rj j).length c4)∧Ext wb wr) (fun _ vi _=>a.length-(intOf vi).toNat)
        case atStart=>exact ⟨0,A',c',Nat.zero_le _,rfl,by rw [hr0.out],by rw [hr0.out];exact HOW.out.ext qaa.good hx3,hX3⟩
        case round =>
         obtain ⟨j,A4,c4,hj,rfl,rfl,hown4,hE4⟩:=hrel
         have hlj:=hr3.out j
         by_cases hlt4:j<a.length
         ·obtain ⟨b5,off5,cs5,rfl,hb5,hT5,hl5,hr5,hcell5⟩:=(qaa.good.bel HRA.out hE4).get j hlt4
          obtain ⟨hxi,vx,rfl,hvx⟩:=id hr5
          have a0:=hcell5.get 0 _
          have a1:=hcell5.get 1 _
          simp only [Nat.add_zero] at a0
          obtain ⟨Ax,cx,rfl,_,_⟩:=hvx.val
          have hst4:=Hd (hr1.out j hlt4)
          obtain ⟨x,hxx⟩:∃ x,a[j]=x:=⟨_,rfl⟩
          rw [hxx] at hr5 a0 a1
          have HST4:Hid (rj (j+1)=rj j++[qci m x]):=by show _=_;rw [hst4.out,hxx]
          have hw2b:w2.heap.size≤wb.heap.size:=hE2.size
          have had:=added_c (fun b=>P b∧b<wb.heap.size) m x (.slice Am m.length cm) (.slice Ax x.v.length cx) (wr.alloc (.cells #[.int .i64 x.g,.slice Ax x.v.length cx] 61))
           (qaa.good.bel HR2.out (hE4.alloc _)) (RLb.good.bel (RLb.good.mono hr5 fun q _ hq=>⟨hq.1,Nat.lt_of_lt_of_le hq.2 hw2b⟩) ((Ext.refl _).alloc _)) (by omega)
          have hob4:=fun q hq=>hown4.own_lt (b:=q) hq
          have HOW4:=Hd hown4
          clear hcell5 hl5 hT5 hr5 hvx hst4 hown4
          clear hxx
          go_wp2_with fail
          refine had.mono ?_
          rintro e w6 ⟨A6,c6,rfl,ho6,hx6⟩
          have hx6':=Ext.trans' ((Ext.refl wr).alloc _) hx6
          have ho7:=HOW4.out.ext qaa.good (hx6'.alloc (.cells #[.slice A6 (qci m x).length c6] 22))
          obtain ⟨news,hrow,hF⟩:=ho7
          have hcc:=qei w6 #[.slice A6 (qci m x).length c6] 22
          have hsz6:=hx6'.size
          have hszE:=hE4.size
          have hszE3:=hE3.size
          have hy:qaa (fun b=>P b∧(Value.slice A4 (rj j).length c4).ownBlock≠some b) (w6.alloc (.cells #[.slice A6 (qci m x).length c6] 22)) (qci m x) [.slice A6 (qci m x).length c6] :=
           qaa.good.bel (qaa.good.mono (ho6.sl RLb.good (by decide)) fun q _ hq=>⟨hq.elim (fun h=>h.1.1) fun h=>hP q (by simp at h;omega),fun e=>by
            have:=hob4 q e
            rcases hq with h | h
            ·have h':q<wb.heap.size:=h.1.2;omega
            ·simp at h;omega⟩) ((Ext.refl _).alloc _)
          have HF:=Hd hF
          have HY:=Hd hy
          clear hF hy had ho6
          go_wp2_with (at_builtin;refine wpList_append_own_at _ rfl _ _ 30 rfl wb.heap.size 22 i3 _ 1 24 Tryz.underlying30 hi3 hz0 hz1 hz2 rfl (by decide) _ _ _ rfl hrow ⟨w6.heap.size,0,none⟩ 1 1 [.slice A6 (qci m x).length c6] rfl rfl hcc (by simp [Value.oneCell']) (by unfold maxLen;omega) (by omega) (by simp;omega) ?_;intro v8 w8 hown8 hgrow8 hnil8 hat8;obtain ⟨g8,c8,rfl⟩:=ownsRow_succ hown8)
          have hp8:=Hd (qm5 HF.out HY.out hown8 hgrow8 hat8)
          have hX8:Ext wb w8:=Below.grown ((hE4.trans' hx6').alloc _) hgrow8 (by simp;omega) fun q hq=>(hob4 q hq).1
          clear hown8 hgrow8 hat8 hnil8 hrow hcc
          go_wp2_with fail
          go_roundw
          case rel=>exact ⟨j+1,some ⟨g8,0,none⟩,c8,by omega,by go_num,by rw [HST4.out,List.length_append];rfl,by rw [HST4.out,List.length_append];exact hp8.out,hX8⟩
          case measure=>simp [intOf];omega
         ·obtain rfl:j=a.length:=by omega
          rw [hr2.out] at hown4
          have hr4:=Hd hr2
          have HOW4:=Hd hown4
          clear hown4
          go_wp2_with fail
          go_roundw
          case rel=>exact ⟨i+1,A4,c4,by omega,by go_num,by rw [hr4.out.out],HOW4.out,hE4⟩
          case measure=>simp [intOf];omega
      ·obtain rfl:i=ls.length:=by omega
       rw [List.take_length] at hown ⊢
       have hob3:=fun q hq=>hown.own_lt (b:=q) hq
       have hrl:=qnj a ha ls
       have hnr:(qcf ls a).length≤8000000:=by omega
       obtain ⟨nr,hnre⟩:∃ nr,qcf ls a=nr:=⟨_,rfl⟩
       have hns:Hid (qdi ls a=qb4 (qbw nr)):=by show _=_;rw [qdi,hnre]
       rw [hnre] at hown hob3 hnr ⊢
       clear hrl hnre
       have hs:=qm2 wb.heap.size _ nr _ wr hown (by omega)
       have hc1:=fun W (hW:qab qaa 1 22 wb.heap.size P W (qbw nr) (.slice A' nr.length c'))=>qoe wb.heap.size _ (qbw nr) _ W hW (by rw [qi5];omega)
       obtain ⟨n,hn⟩:∃ n,qb4 (qbw nr)=n:=⟨_,rfl⟩
       rw [hn] at hc1
       have HN:Hid (qdi ls a=n):=by show _=_;rw [hns.out,hn]
       clear hn hown hns
       go_wp2_with fail
       refine hs.mono ?_
       rintro e w3 ⟨rfl,ho3,hb3⟩
       go_wp2_with fail
       refine (hc1 _ ho3).mono ?_
       rintro e w4 ⟨A4,c4,rfl,ho4,hb4⟩
       have hX4:Ext wb w4:=Bt.new (Z:=fun b=>wb.heap.size≤b) hE3 ((hb3.mono fun b _ h=>(hob3 b h).1).trans (hb4.mono fun b _ h=>(hob3 b h).1)) fun _ _ h=>h
       have hXw4:Ext w w4:=hX2.trans' (hE2.trans' hX4)
       have hcon:=conPLbs (fun m=>decide (64<m.length)) (fun _=>True) w4 n _ ((RSl.good qaa.good).mono (ho4.sl qaa.good (by decide)) fun _ _ _=>trivial) 148 #[] eg148 (fun m hm cs W hW hr=>by
        obtain ⟨Am,cm,rfl,_⟩:=id hr
        exact musts1_c _ m _ W hr)
       have HO4:=Hd ho4
       clear ho4 ho3 hb3 hb4 hs hc1
       by_cases hbig:2000<n.length
       ·have hz:=decide_eq_true (show (2000:Int)<(n.length:Int) by omega)
        have HF:Hid (qbg s sts=none):=by show _=_;rw [HV2.out,← hgo.out,HST.out,HN.out,if_pos (by simp [qfz,hbig])]
        clear hcon
        go_wp2_with fail
        go_ret2
        rw [HF.out]
        exact ⟨none,0,rfl,qab.nil ..,hXw4⟩
       have hz:=decide_eq_false (show ¬ (2000:Int)<(n.length:Int) by omega)
       by_cases hany:(n.any fun m=>decide (64<m.length))=true
       ·have HF:Hid (qbg s sts=none):=by show _=_;rw [HV2.out,← hgo.out,HST.out,HN.out,if_pos (by simp only [qfz,hany,Bool.or_true])]
        rw [hany] at hcon
        clear hany
        go_wp2_with fail
        refine hcon.mono ?_
        rintro e w5 ⟨rfl,hx5⟩
        go_wp2_with fail
        go_ret2
        rw [HF.out]
        exact ⟨none,0,rfl,qab.nil ..,hXw4.trans' hx5⟩
       ·have htm:qfz n=false:=by simp only [qfz,eq_false_of_ne_true hany,decide_eq_false hbig,Bool.or_false]
        have hok2:=qpt htm
        have hgo2:Hid (qct (acs.drop (k+1)) (qeh n)=qct acs [[]]):=by show _=_;rw [← hgo.out,HST.out,HN.out,if_neg (by rw [htm];decide)]
        rw [eq_false_of_ne_true hany] at hcon
        clear hany htm
        go_wp2_with fail
        refine hcon.mono ?_
        rintro e w5 ⟨rfl,hx5⟩
        have ho5:=HO4.out.ext qaa.good hx5
        have hob5:=fun q hq=>ho5.own_lt (b:=q) hq
        have hle:=least_c P wb.heap.size (fun b hb=>hP b (by omega)) n _ w5 ho5 (by have:=hX4.size;have:=hx5.size;omega) (by omega) (fun m hm=>Nat.le_trans (hok2.2 m hm) (by decide))
        clear ho5 hcon
        go_wp2_with fail
        refine hle.mono ?_
        rintro e w6 ⟨A6,c6,rfl,ho6,hb6⟩
        have hX6:Ext wb w6:=Bt.new (hX4.trans' hx5) hb6 fun b _ h=>(hob5 b h).1
        have HO6:=Hd ho6
        have hll:=qti n
        have hz5:w.heap.size≤w5.heap.size:=by have:=hXw4.size;have:=hx5.size;omega
        clear ho6 hle hb6
        go_wp2_with fail
        go_roundw
        case rel=>exact ⟨k+1,A6,c6,qeh n,by omega,by go_num,rfl,HO6.out.base hz5,by omega,fun m hm=>hok2.2 m (qog n m hm),hgo2.out,hE2.trans' hX6⟩
        case measure=>simp [intOf];omega
    ·obtain rfl:k=acs.length:=by omega
     have hfin:Hid (qbg s sts=some ls):=by show _=_;rw [HV2.out,← hgo.out,List.drop_length,qct]
     have HO:=Hd hown
     clear hown
     go_wp2_with fail
     go_ret2
     rw [hfin.out]
     exact ⟨A,c,rfl,HO.out,hX2.trans' hE2⟩
end
section
open Go.Shelf
theorem qom (p:Int→Bool):∀ (i:Nat) (xs:List Lb) (x:Lb),x∈qbh p i xs→x∈xs
 | _,[],x,h=>h
 | i,y :: ys,x,h=>by
  rw [qbh] at h
  split at h
  ·rcases List.mem_cons.1 h with rfl | h
   ·simp
   ·exact List.mem_cons_of_mem _ (qom p (i+1) ys x h)
  ·exact List.mem_cons_of_mem _ (qom p (i+1) ys x h)
theorem qtf (l:List Lb) (x y:Lb) (h:y∈qci l x):y∈l∨y=x:=by
 simp only [qci,List.mem_append,List.mem_singleton] at h
 rcases h with (h | h) | h
 ·exact .inl (List.mem_of_mem_take h)
 ·exact .inr h
 ·exact .inl (List.mem_of_mem_drop h)
def Sub (s:Sy) (ls:List (List Lb)):Prop:=∀ m∈ls,∀ x∈m,x∈s.ls
theorem nextS_sub {s:Sy} {ls:List (List Lb)} {a:List Lb} (h:Sub s ls) (ha:∀ x∈a,x∈s.ls):Sub s (qdi ls a):=fun m hm x hx=>by
 have h1:=(qg8 (qcf ls a) m).1 (qjk qcd _ m hm)
 obtain ⟨m',hm',hmm⟩:=List.mem_flatMap.1 h1
 unfold qe4 at hmm
 split at hmm
 ·rw [List.mem_singleton.1 hmm] at hx
  exact h m' hm' x hx
 ·obtain ⟨y,hy,rfl⟩:=List.mem_map.1 hmm
  rcases qtf m' y x hx with h2 | rfl
  ·exact h m' hm' x h2
  ·exact ha _ hy
theorem qrg {s:Sy}:∀ {bs ls:List (List Lb)} {r:List (List Lb)},Sub s bs→Sub s ls→qct bs ls=some r→Sub s r
 | [],ls,r,_,h,e=>by rw [qct] at e;injection e with e;rw [← e];exact h
 | a :: bs,ls,r,hb,h,e=>by
  rw [qct] at e
  split at e
  ·cases e
  ·exact qrg (fun m hm=>hb m (List.mem_cons_of_mem _ hm)) (fun m hm=>nextS_sub h (hb a (List.mem_cons_self ..)) m (qog _ m hm)) e
theorem qnw (s:Sy) (sts:List Int):Sub s (qa2 (qbg s sts)):=by
 cases h:qbg s sts with
 | none=>intro m hm;simp [qa2] at hm
 | some r =>
  unfold qbg at h
  split at h
  ·injection h with h
   subst h
   intro m hm
   simp [qa2] at hm
  ·refine qrg (fun m hm x hx=>?_) (fun m hm x hx=>?_) h
   ·obtain ⟨t,_,rfl⟩:=List.mem_map.1 ((qg8 _ m).1 (qjk qcd _ m hm))
    exact qom _ _ _ x hx
   ·rw [List.mem_singleton.1 hm] at hx
    simp at hx
theorem qkp (s:Sy) (sts:List Int):(qa2 (qbg s sts)).length≤2000∧∀ m∈qa2 (qbg s sts),m.length≤64:=by
 have go:∀ (bs ls r:List (List Lb)),ls.length≤2000→(∀ m∈ls,m.length≤64)→qct bs ls=some r→r.length≤2000∧∀ m∈r,m.length≤64:=by
  intro bs
  induction bs with
  | nil=>intro ls r h1 h2 e;rw [qct] at e;injection e with e;rw [← e];exact ⟨h1,h2⟩
  | cons a bs ih =>
   intro ls r h1 h2 e
   rw [qct] at e
   split at e
   ·cases e
   ·rename_i ht
    have h3:=qpt (eq_false_of_ne_true ht)
    exact ih _ r (Nat.le_trans (qti _) h3.1) (fun m hm=>h3.2 m (qog _ m hm)) e
 cases h:qbg s sts with
 | none=>simp [qa2]
 | some r =>
  unfold qbg at h
  split at h
  ·injection h with h
   subst h
   simp [qa2]
  ·exact go _ _ r (by decide) (by simp) h
def qf0 (s:Sy):Prop:=∀ x∈s.ls,x.size≤1000000000
open Classical in
noncomputable def qcz (s:Sy) (tr:List Lb):Int:=if qai s then (if qbo tr then qes (qbg s (qan s tr)) else 1) else 8
open Classical in
noncomputable def qcj (s:Sy) (tr:List Lb):List (List Lb):=if qai s∧qbo tr=true then qa2 (qbg s (qan s tr)) else []
def qmn {α:Type} (R:Rdr α) (k:Nat) (t:TypeId) (r:List α) (err:Int) (w:World) (e:Ending) (w':World):Prop :=
 ∃ A c,e = .returned (.tuple #[.slice A r.length c,.int .i64 err])∧qab R k t w.heap.size (fun _=>True) w' r (.slice A r.length c)∧Ext w w'
set_option maxHeartbeats 1000000 in
set_option maxRecDepth 100000 in
theorem qlx (S:Nat→Prop) (s:Sy) (hsm:qf0 s) (cs:List Value) (tr:List Lb) (v:Value) (w:World) (hx:RSy S w s cs) (ht:qaa S w tr [v]) :
  Calls Tryz.prog 18 #[.agg cs.toArray,v] w (qmn qaa 1 22 (qcj s tr) (qcz s tr) w):=by
 have htc:=fun W (hW:Ext w W)=>qkj S tr v W (qaa.good.bel ht hW)
 obtain ⟨_,vl,ve,rfl,hvl,hve⟩:=id hx
 obtain ⟨Al,cl,rfl,_,_⟩:=hvl.val
 obtain ⟨Ae,ce,rfl,_,_⟩:=hve.val
 obtain ⟨A,c,rfl,hc,hc0⟩:=ht.val
 have HX:=Hd hx
 have HT:=Hd ht
 clear hx ht hvl hve
 by_cases hok:qai s
 case neg =>
  have hcon:=fun W (hW:Ext w W)=>qht S s _ W (RSy.good.bel HX.out hW) hok
  have HV:=Hd (And.intro (show qcz s tr=8 from if_neg hok) (show qcj s tr=[] from if_neg fun h=>hok h.1))
  go_enter Tryz.func18,Tryz.ntmps18
  go_wp2_with fail
  refine (hcon _ bel).mono ?_
  rintro e w1 ⟨rfl,h1⟩
  go_wp2_with fail
  go_ret2
  rw [HV.out.1,HV.out.2]
  exact ⟨none,0,rfl,qab.nil ..,bel⟩
 have hcon:=fun W (hW:Ext w W)=>qhu S s _ W (RSy.good.bel HX.out hW) hok
 by_cases htr:qbo tr=true
 case neg =>
  rw [eq_false_of_ne_true htr] at htc
  have HV:=Hd (And.intro (show qcz s tr=1 from by rw [qcz,if_pos hok,if_neg htr]) (show qcj s tr=[] from if_neg fun h=>htr h.2))
  go_enter Tryz.func18,Tryz.ntmps18
  go_wp2_with fail
  refine (hcon _ bel).mono ?_
  rintro e w1 ⟨g,rfl,h1,hg,hS⟩
  go_wp2_with fail
  refine (htc _ bel).mono ?_
  rintro e w2 ⟨rfl,h2⟩
  go_wp2_with fail
  go_ret2
  rw [HV.out.1,HV.out.2]
  exact ⟨none,0,rfl,qab.nil ..,bel⟩
 rw [htr] at htc
 have HV:=Hd (And.intro (show qcz s tr=qes (qbg s (qan s tr)) from by rw [qcz,if_pos hok,if_pos htr]) (show qcj s tr=qa2 (qbg s (qan s tr)) from if_pos ⟨hok,htr⟩))
 have hlen:tr.length≤4611686018427387903:=by simp [qbo] at htr;omega
 have hac:=fun W g (hg:qau (fun _=>True) W g s) (hW:Ext w W)=>qjd (fun _=>True) s hok g tr _ W hg (qaa.good.bel (qaa.good.mono HT.out fun _ _ _=>trivial) hW) hlen
 have hal:(qan s tr).length≤1000000:=by have:=qlv s tr;have:=hok.2.2.2.1;omega
 have hmc:=fun W g vs (hg:qau (fun _=>True) W g s) (hv:RSl qac 1 (fun _=>True) W (qan s tr) [vs])=>musts_c (fun _=>True) (fun _=>True) s hok g (qan s tr) vs W hg (fun _ _=>trivial) hv hal
 obtain ⟨r,hr⟩:∃ r,qbg s (qan s tr)=r:=⟨_,rfl⟩
 have hsub:=qnw s (qan s tr)
 have hml:=qkp s (qan s tr)
 rw [hr] at HV hmc hsub hml
 clear hlen htr hal hr
 go_enter Tryz.func18,Tryz.ntmps18
 go_wp2_with fail
 refine (hcon _ bel).mono ?_
 rintro e w1 ⟨g,rfl,h1,hg,hS⟩
 have HS:=Hd hS
 clear hS
 go_wp2_with fail
 refine (htc _ bel).mono ?_
 rintro e w2 ⟨rfl,h2⟩
 go_wp2_with fail
 refine (hac _ g ((HS.out.mono fun _ _ _=>trivial).bel bel) bel).mono ?_
 rintro e w3 h3'
 obtain ⟨A3,c3,rfl,ho3,h3⟩:=h3'.at (b':=w.heap.size) (by have:=h1.size;have:=h2.size;simp at *;omega)
 have HO:=Hd ho3
 clear ho3 h3'
 go_wp2_with fail
 refine (hmc _ g _ ((HS.out.mono fun _ _ _=>trivial).bel bel) ((RSl.good qac.good).mono ((RSl.good qac.good).bel (HO.out.sl qac.good (by decide)) bel) fun _ _ _=>trivial)).mono ?_
 rintro e w4 ⟨A4,c4,rfl,ho4,h4⟩
 have hX4:Ext w w4:=bel
 have hz3:w.heap.size≤w3.heap.size:=by have:=h1.size;have:=h2.size;have:=h3.size;simp at *;omega
 have HO4:=Hd (ho4.base hz3)
 obtain ⟨l,hl⟩:∃ l,qa2 r=l:=⟨_,rfl⟩
 rw [hl] at hsub hml HO4 HV ⊢
 clear ho4 hl HS HO h1 h2 h3 h4 hg hz3
 go_wp2_with fail
 go_loopw [31] (fun vi wr=>∃ k:Nat,k≤l.length∧vi = .int .i64 k∧qab qaa 1 22 w.heap.size (fun _=>True) wr l (.slice A4 l.length c4)∧Ext w wr) (fun vi _=>l.length-(intOf vi).toNat)
 case atStart=>exact ⟨0,Nat.zero_le _,rfl,HO4.out,hX4⟩
 case round =>
  obtain ⟨k,hk,rfl,hown,hE⟩:=hrel
  by_cases hlt:k<l.length
  ·obtain ⟨news,hrow,_⟩:=id hown
   obtain ⟨g2,cap,he⟩:=Joins.ownsRow_form hrow (by omega)
   injection he with he1 _ he2
   subst he1 he2
   have hgb:=qbt hrow g2 rfl
   obtain ⟨u,gc,hr1,gf⟩:=hown.get1 k hlt
   have hcp:=qmj (fun b=>True∧b≠g2) l[k] u wr hr1 (fun x hx=>hsm x (hsub _ (List.getElem_mem hlt) x hx)) (by have:=hml.2 _ (List.getElem_mem hlt);omega)
   obtain ⟨Au,cu,rfl,_,_⟩:=hr1.val
   have HOW:=Hd hown
   clear hrow hr1 hown
   go_wp2_with fail
   refine hcp.mono ?_
   rintro e w5 ⟨A5,c5,rfl,hr5,hx5⟩
   have gc5:=Ext.keep hx5 gc
   have gf5:=qa4 hx5 (World.block_lt_of_cell? wr _ gc) gf
   have hsz5:=hx5.size
   have hput:=qab.put1 qaa.good (HOW.out.ext qaa.good hx5) rfl k (.slice A5 l[k].length c5) l[k] hlt (qaa.good.mono hr5 fun b _ hb=>⟨trivial,by
    rcases hb with h | h
    ·exact h.1.2
    ·omega⟩)
   rw [List.set_getElem_self] at hput
   have HP:=Hd hput
   clear hput hr5 hcp gc
   go_wp2_with fail
   go_roundw
   case rel=>exact ⟨k+1,by omega,by go_num,HP.out,(hE.trans' hx5).set hgb.1 _⟩
   case measure=>simp [intOf];omega
  ·have HOW:=Hd hown
   clear hown
   go_wp2_with fail
   go_ret2
   rw [HV.out.1,HV.out.2]
   exact ⟨A4,c4,rfl,HOW.out,hE⟩
end
end Go.Proofs.YtegenalcheooeaaGreat
