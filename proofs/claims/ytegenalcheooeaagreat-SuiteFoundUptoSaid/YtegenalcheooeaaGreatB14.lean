/- Of the proof of a law of the suites: LibIInt, Ref, Verd, Asked. -/
import Derived.Test.YtegenalcheooeaaGreatB02
import Derived.Test.YtegenalcheooeaaGreatB13
set_option linter.unusedSectionVars false
set_option linter.unusedSimpArgs false
set_option linter.unusedVariables false
namespace Go.Proofs.YtegenalcheooeaaGreat
open Go.RowKit
attribute [local go_sem] cell?_exto
section
set_option maxHeartbeats 1000000
set_option maxRecDepth 100000
/- slices.IndexFunc and ContainsFunc at each element type of the program: what they come to,whatever function value they are given. -/
theorem idxFInt {σ:Type} (J:σ->World->Prop) (step:σ->Int->Bool×σ) (S:Nat->Prop) (w:World) (xs:List (Int)) (v:Value) (hx:RSl qac 1 S w xs [v]) (g:Nat) (lb:Array Value)
  (eg:∀ args w,(callFunc g args).run Tryz.prog w = .ok (.enter g args) w) (hJ:∀ s W,J s W->Kp S w W)
  (hp:∀ x∈xs,∀ s cs W,J s W->qac S W x cs->Calls Tryz.prog g (#[cs.headD undef]++lb) W fun e w'=>e = .returned (.bool (step s x).1)∧J (step s x).2 w') (s0:σ) (h0:J s0 w) :
  Calls Tryz.prog 114 #[v,.func (.func g) #[] lb] w fun e w'=>e = .returned (.int .i64 (qaq step s0 xs).1)∧J (qaq step s0 xs).2 w':=by
 obtain ⟨A,c,rfl,hc,hc0⟩:=hx.val
 have HX:=Hd hx
 have HP:=Hd hp
 have HJ:=Hd hJ
 clear hx hp hJ
 go_enter Tryz.func114,Tryz.ntmps114
 go_wp2
 go_loopw [5,8] (fun _ i wr=>∃ k:Nat,k<=xs.length∧i = .int .i64 k∧Hid (∃ s,J s wr∧qaq step s0 xs=((qaq step s (xs.drop k)).1+(if (qaq step s (xs.drop k)).1<0 then 0 else (k:Int)),(qaq step s (xs.drop k)).2))) (fun _ i _=>xs.length-(intOf i).toNat)
 case atStart=>exact ⟨0,Nat.zero_le _,rfl,s0,h0,by simp⟩
 case round =>
  obtain ⟨k,hk,rfl,s,hs,hf⟩:=hrel
  by_cases hlt:k<xs.length
  ·obtain ⟨b,off,cs,rfl,hb,hS,hl,hr,hcell⟩:=((RSl.good qac.good).move HX.out (HJ.out _ _ hs)).get k hlt
   have hcon:=HP.out xs[k] (List.getElem_mem hlt) s cs wr hs hr
   obtain ⟨c0,rfl⟩:∃ c0,cs=[c0]:=by
    match cs,hl with
    | [c0],_=>exact ⟨c0,rfl⟩
   have g0:=(by simpa using hcell.get 0 _:wr.cell? ⟨b,off+k,none⟩=some c0)
   rw [List.drop_eq_getElem_cons hlt,qaq] at hf
   clear hcell hl hS hr
   cases hq:(step s xs[k]).1 with
   | true =>
    rw [hq] at hcon hf
    have Hf:=Hd hf
    clear hf
    go_wp2_with fail
    refine hcon.mono ?_
    rintro e w' ⟨rfl,hs'⟩
    go_wp2_with fail
    go_ret
    rw [Hf.out]
    exact ⟨by simp,hs'⟩
   | false =>
    rw [hq] at hcon hf
    have Hf:=Hd hf
    clear hf
    go_wp2_with fail
    refine hcon.mono ?_
    rintro e w' ⟨rfl,hs'⟩
    go_wp2_with fail
    go_roundw
    case rel =>
     refine ⟨k+1,by omega,by go_num,_,hs',?_⟩
     rw [Hf.out]
     exact qiq _ _
    case measure=>simp [intOf];omega
  ·have hd:xs.drop k=[]:=List.drop_of_length_le (by omega)
   rw [hd,qaq] at hf
   have Hf:=Hd hf
   clear hf
   go_wp2
   go_ret
   rw [Hf.out]
   exact ⟨by simp,hs⟩
theorem conFInt {σ:Type} (J:σ->World->Prop) (step:σ->Int->Bool×σ) (S:Nat->Prop) (w:World) (xs:List (Int)) (v:Value) (hx:RSl qac 1 S w xs [v]) (g:Nat) (lb:Array Value)
  (eg:∀ args w,(callFunc g args).run Tryz.prog w = .ok (.enter g args) w) (hJ:∀ s W,J s W->Kp S w W)
  (hp:∀ x∈xs,∀ s cs W,J s W->qac S W x cs->Calls Tryz.prog g (#[cs.headD undef]++lb) W fun e w'=>e = .returned (.bool (step s x).1)∧J (step s x).2 w') (s0:σ) (h0:J s0 w) :
  Calls Tryz.prog 50 #[v,.func (.func g) #[] lb] w fun e w'=>e = .returned (.bool (qcp step s0 xs).1)∧J (qcp step s0 xs).2 w':=by
 obtain ⟨A,c,rfl,hc,hc0⟩:=hx.val
 have hcon:=idxFInt J step S w xs _ hx g lb eg hJ hp s0 h0
 rw [qho]
 clear hx hp hJ
 go_enter Tryz.func50,Tryz.ntmps50
 go_wp2_with fail
 refine hcon.mono ?_
 rintro e w' ⟨rfl,hs'⟩
 go_wp2_with fail
 all_goals go_ret
 all_goals exact ⟨by simp,hs'⟩
theorem conPInt (p:Int->Bool) (S:Nat->Prop) (w:World) (xs:List (Int)) (v:Value) (hx:RSl qac 1 S w xs [v]) (g:Nat) (lb:Array Value)
  (eg:∀ args w,(callFunc g args).run Tryz.prog w = .ok (.enter g args) w)
  (hp:∀ x∈xs,∀ cs W,Ext w W->qac S W x cs->Calls Tryz.prog g (#[cs.headD undef]++lb) W fun e w'=>e = .returned (.bool (p x))∧Ext W w') :
  Calls Tryz.prog 50 #[v,.func (.func g) #[] lb] w fun e w'=>e = .returned (.bool (xs.any p))∧Ext w w' :=
 (conFInt (fun (_:Unit) W=>Ext w W) (fun s x=>(p x,s)) S w xs v hx g lb eg (fun _ _ h=>Ext.kp h) (fun x hx s cs W hW hr=>(hp x hx cs W hW hr).mono fun e w' ⟨he,hb⟩=>⟨he,hW.trans' hb⟩) () (Ext.refl w)).mono
  fun e w' ⟨he,hb⟩=>⟨by rw [he,qid],hb⟩
end
section
set_option maxHeartbeats 1000000
set_option maxRecDepth 100000
/- suite.refuses,After,Refuses: walked. -/
def qbx (s:Sy) (sts:List Int) (l:List Lb):Bool:=sts.any fun t=>!qek (qa7 s t) l
theorem eg167:∀ args w,(callFunc 167 args).run Tryz.prog w = .ok (.enter 167 args) w:=enters_of Tryz.func167 (by kernel_rfl) rfl
theorem qug (S:Nat->Prop) (s:Sy) (hok:qag s) (g:Nat) (t:Int) (l:List Lb) (v:Value) (B1 B2:Nat) (w:World) (ht:I64 t) (hS:qav S w g s) (hl:qaa S w l [v]) (hn:l.length<=4611686018427387903)
  (h1:w.cell? ⟨B1,0,none⟩=some (.pointer (some ⟨g,0,none⟩))) (h2:w.cell? ⟨B2,0,none⟩=some v) :
  Calls Tryz.prog 167 #[.int .i64 t,.pointer (some ⟨B1,0,none⟩),.pointer (some ⟨B2,0,none⟩)] w fun e w'=>e = .returned (.bool (!qek (qa7 s t) l))∧Ext w w':=by
 have hacc:=fun W (hW:Ext w W)=>qnp S s hok g t W ht (hS.bel hW)
 have hcom:=fun W (hW:Ext w W) u (hu:qaa (fun _=>True) W (qa7 s t) [u])=>qnv (fun _=>True) (qa7 s t) l u v W hu (qaa.good.bel (qaa.good.mono hl fun _ _ _=>trivial) hW) hn
 obtain ⟨A,c,rfl,_,_⟩:=hl.val
 have hw1:=World.block_lt_of_cell? w _ h1
 have hw2:=World.block_lt_of_cell? w _ h2
 clear hS hl
 go_enter Tryz.func167,Tryz.ntmps167
 go_wp2_with fail
 go_region_held3 (fun W=>W.cell? ⟨B1,0,none⟩=some (.pointer (some ⟨g,0,none⟩))∧W.cell? ⟨B2,0,none⟩=some (.slice A l.length c))
  (first | (refine ⟨?_,?_⟩ <;> go_simp <;> done) | exact Ext.k2 hx1 (by assumption) | exact Ext.k2 hx2 (by assumption))
  (first | (go_at_call 141;refine (hacc _ bel).mono ?_;rintro e w1 ⟨A1,c1,rfl,ho1,hx1⟩) | (go_at_call 146;refine (hcom _ bel _ (qaa.good.bel (qaa.good.mono (ho1.sl RLb.good (by decide)) fun _ _ _=>trivial) bel)).mono ?_;rintro e w2 ⟨rfl,hx2⟩))
 go_wp2_with fail
 go_ret
 exact ⟨rfl,bel⟩
theorem qnd (S:Nat->Prop) (s:Sy) (hok:qag s) (g:Nat) (sts:List Int) (l:List Lb) (vs v:Value) (w:World) (hS:qav S w g s) (hs:RSl qac 1 S w sts [vs]) (hl:qaa S w l [v]) (hn:l.length<=4611686018427387903) :
  Calls Tryz.prog 102 #[.pointer (some ⟨g,0,none⟩),vs,v] w fun e w'=>e = .returned (.bool (qbx s sts l))∧Ext w w':=by
 have hcon:=fun B1 B2 W (hW:Ext w W) (h1:W.cell? ⟨B1,0,none⟩=some (.pointer (some ⟨g,0,none⟩))) (h2:W.cell? ⟨B2,0,none⟩=some v)=>conPInt (fun t=>!qek (qa7 s t) l) S W sts vs ((RSl.good qac.good).bel hs hW) 167 #[.pointer (some ⟨B1,0,none⟩),.pointer (some ⟨B2,0,none⟩)] eg167
  (fun x hx cs W' hW' hr=>by
   obtain ⟨rfl,hi⟩:=hr
   exact qug S s hok g x l v B1 B2 W' hi (hS.bel (hW.trans' hW')) (qaa.good.bel hl (hW.trans' hW')) hn (Ext.keep hW' h1) (Ext.keep hW' h2))
 obtain ⟨A,c,rfl,hc,hc0⟩:=hs.val
 obtain ⟨A',c',rfl,hc',hc0'⟩:=hl.val
 clear hs hl hS
 go_enter Tryz.func102,Tryz.ntmps102
 go_wp2_with fail
 refine (hcon _ _ _ bel (by go_simp) (by go_simp)).mono ?_
 rintro e w1 ⟨rfl,h1⟩
 go_wp2_with fail
 go_ret
 exact ⟨rfl,bel⟩
open Classical in
noncomputable def qfr (s:Sy) (tr:List Lb):Int:=if qag s then (if qbl tr then 0 else 1) else 8
open Classical in
noncomputable def qfi (s:Sy) (tr:List Lb):List Int:=if qag s∧qbl tr=true then qal s tr else []
theorem After_c (S:Nat->Prop) (s:Sy) (cs:List Value) (tr:List Lb) (v:Value) (w:World) (hx:RSy S w s cs) (ht:qaa S w tr [v]) :
  Calls Tryz.prog 40 #[.agg cs.toArray,v] w fun e w'=>∃ A c,e = .returned (.tuple #[.slice A (qfi s tr).length c,.int .i64 (qfr s tr)])∧qab qac 1 3 w.heap.size (fun _=>False) w' (qfi s tr) (.slice A (qfi s tr).length c)∧Ext w w':=by
 have htc:=fun W (hW:Ext w W)=>ql1 S tr v W (qaa.good.bel ht hW)
 obtain ⟨_,vl,ve,rfl,hvl,hve⟩:=id hx
 obtain ⟨Al,cl,rfl,_,_⟩:=hvl.val
 obtain ⟨Ae,ce,rfl,_,_⟩:=hve.val
 obtain ⟨A,c,rfl,hc,hc0⟩:=ht.val
 have HX:=Hd hx
 have HT:=Hd ht
 clear hx ht hvl hve
 by_cases hok:qag s
 case neg =>
  have hcon:=fun W (hW:Ext w W)=>qht S s _ W (RSy.good.bel HX.out hW) hok
  have HV:=Hd (And.intro (show qfr s tr=8 from if_neg hok) (show qfi s tr=[] from if_neg fun h=>hok h.1))
  go_enter Tryz.func40,Tryz.ntmps40
  go_wp2_with fail
  refine (hcon _ bel).mono ?_
  rintro e w1 ⟨rfl,h1⟩
  go_wp2_with fail
  go_ret2
  rw [HV.out.1,HV.out.2]
  exact ⟨none,0,rfl,qab.nil ..,bel⟩
 have hcon:=fun W (hW:Ext w W)=>qge S s _ W (RSy.good.bel HX.out hW) hok
 by_cases htr:qbl tr=true
 case neg =>
  rw [eq_false_of_ne_true htr] at htc
  have HV:=Hd (And.intro (show qfr s tr=1 from by rw [qfr,if_pos hok,if_neg htr]) (show qfi s tr=[] from if_neg fun h=>htr h.2))
  go_enter Tryz.func40,Tryz.ntmps40
  go_wp2_with fail
  refine (hcon _ bel).mono ?_
  rintro e w1 ⟨g,rfl,h1,hg,hS⟩
  go_wp2_with fail
  refine (htc _ bel).mono ?_
  rintro e w2 ⟨rfl,h2⟩
  go_wp2_with fail
  go_ret2
  rw [HV.out.1,HV.out.2]
  exact ⟨none,0,rfl,qab.nil ..,bel⟩
 rw [htr] at htc
 have HV:=Hd (And.intro (show qfr s tr=0 from by rw [qfr,if_pos hok,if_pos htr]) (show qfi s tr=qal s tr from if_pos ⟨hok,htr⟩))
 have hlen:tr.length<=4611686018427387903:=by simp [qbl] at htr;omega
 have hac:=fun W g (hg:qav (fun _=>True) W g s) (hW:Ext w W)=>qji (fun _=>True) s hok g tr _ W hg (qaa.good.bel (qaa.good.mono HT.out fun _ _ _=>trivial) hW) hlen
 clear hlen htr
 go_enter Tryz.func40,Tryz.ntmps40
 go_wp2_with fail
 refine (hcon _ bel).mono ?_
 rintro e w1 ⟨g,rfl,h1,hg,hS⟩
 have HS:=Hd hS
 clear hS
 go_wp2_with fail
 refine (htc _ bel).mono ?_
 rintro e w2 ⟨rfl,h2⟩
 go_wp2_with fail
 refine (hac _ g ((HS.out.mono fun _ _ _=>trivial).bel bel) bel).mono ?_
 rintro e w3 h3
 obtain ⟨A3,c3,rfl,ho3,hx3⟩:=h3.at (b':=w.heap.size) (by have:=h1.size;have:=h2.size;simp at *;omega)
 have HO:=Hd ho3
 clear ho3 h3
 go_wp2_with fail
 go_ret2
 rw [HV.out.1,HV.out.2]
 exact ⟨A3,c3,rfl,HO.out,bel⟩
open Classical in
noncomputable def qce (s:Sy) (tr l:List Lb):Int:=if qag s then (if qbl tr && qb6 l then 0 else 1) else 8
open Classical in
noncomputable def qc9 (s:Sy) (tr l:List Lb):Bool:=if qag s∧(qbl tr && qb6 l)=true then qbx s (qal s tr) l else false
theorem qr1 (S:Nat->Prop) (s:Sy) (cs:List Value) (tr l:List Lb) (v u:Value) (w:World) (hx:RSy S w s cs) (ht:qaa S w tr [v]) (hl:qaa S w l [u]) :
  Calls Tryz.prog 30 #[.agg cs.toArray,v,u] w fun e w'=>e = .returned (.tuple #[.bool (qc9 s tr l),.int .i64 (qce s tr l)])∧Ext w w':=by
 have htc:=fun W (hW:Ext w W)=>ql1 S tr v W (qaa.good.bel ht hW)
 have hsc:=fun W (hW:Ext w W)=>isSet_c S l u W (qaa.good.bel hl hW)
 obtain ⟨_,vl,ve,rfl,hvl,hve⟩:=id hx
 obtain ⟨Al,cl,rfl,_,_⟩:=hvl.val
 obtain ⟨Ae,ce,rfl,_,_⟩:=hve.val
 obtain ⟨A,c,rfl,hc,hc0⟩:=ht.val
 obtain ⟨A',c',rfl,hc',hc0'⟩:=hl.val
 have HX:=Hd hx
 have HT:=Hd ht
 have HL:=Hd hl
 clear hx ht hl hvl hve
 by_cases hok:qag s
 case neg =>
  have hcon:=fun W (hW:Ext w W)=>qht S s _ W (RSy.good.bel HX.out hW) hok
  have HV:=Hd (And.intro (show qce s tr l=8 from if_neg hok) (show qc9 s tr l=false from if_neg fun h=>hok h.1))
  go_enter Tryz.func30,Tryz.ntmps30
  go_wp2_with fail
  refine (hcon _ bel).mono ?_
  rintro e w1 ⟨rfl,h1⟩
  go_wp2_with fail
  go_ret2
  rw [HV.out.1,HV.out.2]
  exact ⟨rfl,bel⟩
 have hcon:=fun W (hW:Ext w W)=>qge S s _ W (RSy.good.bel HX.out hW) hok
 by_cases htr:qbl tr=true
 case neg =>
  rw [eq_false_of_ne_true htr] at htc
  have HV:=Hd (And.intro (show qce s tr l=1 from by rw [qce,if_pos hok,eq_false_of_ne_true htr];rfl) (show qc9 s tr l=false from if_neg fun h=>htr (by have:=h.2;simp at this;exact this.1)))
  go_enter Tryz.func30,Tryz.ntmps30
  go_wp2_with fail
  refine (hcon _ bel).mono ?_
  rintro e w1 ⟨g,rfl,h1,hg,hS⟩
  go_wp2_with fail
  refine (htc _ bel).mono ?_
  rintro e w2 ⟨rfl,h2⟩
  go_wp2_with fail
  go_ret2
  rw [HV.out.1,HV.out.2]
  exact ⟨rfl,bel⟩
 rw [htr] at htc
 by_cases hls:qb6 l=true
 case neg =>
  rw [eq_false_of_ne_true hls] at hsc
  have HV:=Hd (And.intro (show qce s tr l=1 from by rw [qce,if_pos hok,htr,eq_false_of_ne_true hls];rfl) (show qc9 s tr l=false from if_neg fun h=>hls (by have:=h.2;simp at this;exact this.2)))
  go_enter Tryz.func30,Tryz.ntmps30
  go_wp2_with fail
  refine (hcon _ bel).mono ?_
  rintro e w1 ⟨g,rfl,h1,hg,hS⟩
  go_wp2_with fail
  refine (htc _ bel).mono ?_
  rintro e w2 ⟨rfl,h2⟩
  go_wp2_with fail
  refine (hsc _ bel).mono ?_
  rintro e w3 ⟨rfl,h3⟩
  go_wp2_with fail
  go_ret2
  rw [HV.out.1,HV.out.2]
  exact ⟨rfl,bel⟩
 rw [hls] at hsc
 have HV:=Hd (And.intro (show qce s tr l=0 from by rw [qce,if_pos hok,htr,hls];rfl) (show qc9 s tr l=qbx s (qal s tr) l from if_pos ⟨hok,by simp [htr,hls]⟩))
 have hlen:tr.length<=4611686018427387903:=by simp [qbl] at htr;omega
 have hlen2:l.length<=4611686018427387903:=by simp [qb6] at hls;omega
 have hac:=fun W g (hg:qav (fun _=>True) W g s) (hW:Ext w W)=>qji (fun _=>True) s hok g tr _ W hg (qaa.good.bel (qaa.good.mono HT.out fun _ _ _=>trivial) hW) hlen
 have hrc:=fun W g vs (hg:qav (fun _=>True) W g s) (hv:RSl qac 1 (fun _=>True) W (qal s tr) [vs]) (hW:Ext w W)=>qnd (fun _=>True) s hok g (qal s tr) l vs _ W hg hv (qaa.good.bel (qaa.good.mono HL.out fun _ _ _=>trivial) hW) hlen2
 clear hlen hlen2 htr hls
 go_enter Tryz.func30,Tryz.ntmps30
 go_wp2_with fail
 refine (hcon _ bel).mono ?_
 rintro e w1 ⟨g,rfl,h1,hg,hS⟩
 have HS:=Hd hS
 clear hS
 go_wp2_with fail
 refine (htc _ bel).mono ?_
 rintro e w2 ⟨rfl,h2⟩
 go_wp2_with fail
 refine (hsc _ bel).mono ?_
 rintro e w3 ⟨rfl,h3⟩
 go_wp2_with fail
 refine (hac _ g ((HS.out.mono fun _ _ _=>trivial).bel bel) bel).mono ?_
 rintro e w4 h4'
 obtain ⟨A4,c4,rfl,ho4,h4⟩:=h4'.at (b':=w.heap.size) (by have:=h1.size;have:=h2.size;have:=h3.size;simp at *;omega)
 have HO:=Hd ho4
 clear ho4 h4'
 go_wp2_with fail
 refine (hrc _ g _ ((HS.out.mono fun _ _ _=>trivial).bel bel) ((RSl.good qac.good).mono ((RSl.good qac.good).bel (HO.out.sl qac.good (by decide)) bel) fun _ _ _=>trivial) bel).mono ?_
 rintro e w5 ⟨rfl,h5⟩
 go_wp2_with fail
 go_ret2
 rw [HV.out.1,HV.out.2]
 exact ⟨rfl,bel⟩
end
section
set_option maxHeartbeats 1000000
set_option maxRecDepth 100000
/- suite.verdicts and its three functions: walked. -/
open Go.Shelf
attribute [local go_sem] Oper.semAt_some
def passB (s:Sy) (t:Te):Bool:=(qal s t.tr).any fun x=>qek (qa7 s x) t.mu
def qbg (s:Sy) (t:Te):Bool:=qbx s (qal s t.tr) t.mu
def qhl (s:Sy) (tr:List Lb) (k:Nat):Bool:=qbx s (qal s (tr.take k)) ((tr.drop k).take 1)
def qhh (s:Sy) (t:Te):Bool:=(List.range t.tr.length).any (qhl s t.tr)
theorem RSl.sub1 {α:Type} {R:Rdr α} {k:Nat} {S:Nat->Prop} {w:World} {xs:List α} {b off n c:Nat} (h:RSl R k S w xs [.slice (some ⟨b,off,none⟩) n c]) (i:Nat) (hi:i<xs.length) :
  RSl R k S w ((xs.drop i).take 1) [.slice (some ⟨b,off+i*k,none⟩) 1 (c-i)]:=by
 obtain ⟨A,c',e,h1,h2,h3⟩:=h
 injection e with e
 injection e with e1 e2 e3
 subst e1 e2 e3
 have hl:((xs.drop i).take 1)=[xs[i]]:=by rw [List.drop_eq_getElem_cons hi];rfl
 rw [hl]
 refine ⟨_,c-i,rfl,by simp;omega,by omega,.inr ?_⟩
 rcases h3 with rfl | ⟨b',off',e,h4,h5,h6⟩
 ·simp at hi
 ·injection e with e
  injection e with e1 e2
  subst e1 e2
  obtain ⟨cs,g1,g2,g3⟩:=h6.get i hi
  exact ⟨b,off+i*k,rfl,h4,h5,⟨cs,g1,g2,g3⟩,trivial⟩
theorem eg169:∀ args w,(callFunc 169 args).run Tryz.prog w = .ok (.enter 169 args) w:=enters_of Tryz.func169 (by kernel_rfl) rfl
theorem pass1_c (S:Nat->Prop) (s:Sy) (hok:qag s) (g:Nat) (t:Int) (l:List Lb) (v:Value) (B1 B2:Nat) (w:World) (ht:I64 t) (hS:qav S w g s) (hl:qaa S w l [v]) (hn:l.length<=4611686018427387903)
  (h1:w.cell? ⟨B1,0,none⟩=some (.pointer (some ⟨g,0,none⟩))) (h2:w.cell? ⟨B2,1,none⟩=some v) :
  Calls Tryz.prog 169 #[.int .i64 t,.pointer (some ⟨B1,0,none⟩),.pointer (some ⟨B2,0,none⟩)] w fun e w'=>e = .returned (.bool (qek (qa7 s t) l))∧Ext w w':=by
 have hacc:=fun W (hW:Ext w W)=>qnp S s hok g t W ht (hS.bel hW)
 have hcom:=fun W (hW:Ext w W) u (hu:qaa (fun _=>True) W (qa7 s t) [u])=>qnv (fun _=>True) (qa7 s t) l u v W hu (qaa.good.bel (qaa.good.mono hl fun _ _ _=>trivial) hW) hn
 obtain ⟨A,c,rfl,_,_⟩:=hl.val
 have hw1:=World.block_lt_of_cell? w _ h1
 have hw2:=World.block_lt_of_cell? w _ h2
 clear hS hl
 go_enter Tryz.func169,Tryz.ntmps169
 go_wp2_with fail
 go_region_held3 (fun W=>W.cell? ⟨B1,0,none⟩=some (.pointer (some ⟨g,0,none⟩))∧W.cell? ⟨B2,1,none⟩=some (.slice A l.length c))
  (first | (refine ⟨?_,?_⟩ <;> go_simp <;> done) | exact Ext.k2 hx1 (by assumption) | exact Ext.k2 hx2 (by assumption))
  (first | (go_at_call 141;refine (hacc _ bel).mono ?_;rintro e w1 ⟨A1,c1,rfl,ho1,hx1⟩) | (go_at_call 146;refine (hcom _ bel _ (qaa.good.bel (qaa.good.mono (ho1.sl RLb.good (by decide)) fun _ _ _=>trivial) bel)).mono ?_;rintro e w2 ⟨rfl,hx2⟩))
 go_wp2_with fail
 go_ret
 exact ⟨rfl,bel⟩
theorem pass_c (S:Nat->Prop) (s:Sy) (hok:qag s) (g:Nat) (t:Te) (v u:Value) (w:World) (hS:qav S w g s) (ht:qaa S w t.tr [v]) (hm:qaa S w t.mu [u]) (htr:t.tr.length<=4611686018427387903) (hmu:t.mu.length<=4611686018427387903) :
  Calls Tryz.prog 168 #[.pointer (some ⟨g,0,none⟩),.agg #[v,u]] w fun e w'=>e = .returned (.bool (passB s t))∧Ext w w':=by
 have hac:=fun W (hW:Ext w W)=>(qji S s hok g t.tr v W (hS.bel hW) (qaa.good.bel ht hW) htr).mono fun e w' h=>qfz.at h (b':=w.heap.size) hW.size
 have hcon:=fun B1 B2 W (hW:Ext w W) (vs:Value) (hv:RSl qac 1 (fun _=>True) W (qal s t.tr) [vs]) (h1:W.cell? ⟨B1,0,none⟩=some (.pointer (some ⟨g,0,none⟩))) (h2:W.cell? ⟨B2,1,none⟩=some u)=>conPInt (fun x=>qek (qa7 s x) t.mu) (fun _=>True) W (qal s t.tr) vs hv 169 #[.pointer (some ⟨B1,0,none⟩),.pointer (some ⟨B2,0,none⟩)] eg169
  (fun x hx cs W' hW' hr=>by
   obtain ⟨rfl,hi⟩:=hr
   exact pass1_c S s hok g x t.mu u B1 B2 W' hi (hS.bel (hW.trans' hW')) (qaa.good.bel hm (hW.trans' hW')) hmu (Ext.keep hW' h1) (Ext.keep hW' h2))
 obtain ⟨A,c,rfl,hc,hc0⟩:=ht.val
 obtain ⟨A',c',rfl,hc',hc0'⟩:=hm.val
 clear ht hm hS
 go_enter Tryz.func168,Tryz.ntmps168
 go_wp2_with fail
 refine (hac _ bel).mono ?_
 rintro e w1 ⟨A1,c1,rfl,ho1,hx1⟩
 have hc1:=hx1.cells
 have hz1:=hx1.size
 have hs1:=(RSl.good qac.good).mono (ho1.sl qac.good (by decide)) (fun _ _ _=>trivial) (S':=fun _=>True)
 clear ho1
 go_wp2_with fail
 refine (hcon _ _ _ bel _ hs1 (by go_simp) (by go_simp)).mono ?_
 rintro e w2 ⟨rfl,hx2⟩
 go_wp2_with fail
 go_ret
 exact ⟨rfl,bel⟩
theorem fail_c (S:Nat->Prop) (s:Sy) (hok:qag s) (g:Nat) (t:Te) (v u:Value) (w:World) (hS:qav S w g s) (ht:qaa S w t.tr [v]) (hm:qaa S w t.mu [u]) (htr:t.tr.length<=4611686018427387903) (hmu:t.mu.length<=4611686018427387903) :
  Calls Tryz.prog 170 #[.pointer (some ⟨g,0,none⟩),.agg #[v,u]] w fun e w'=>e = .returned (.bool (qbg s t))∧Ext w w':=by
 have hac:=fun W (hW:Ext w W)=>(qji S s hok g t.tr v W (hS.bel hW) (qaa.good.bel ht hW) htr).mono fun e w' h=>qfz.at h (b':=w.heap.size) hW.size
 have hrc:=fun W (hW:Ext w W) (vs:Value) (hv:RSl qac 1 (fun _=>True) W (qal s t.tr) [vs])=>qnd (fun _=>True) s hok g (qal s t.tr) t.mu vs u W ((hS.mono fun _ _ _=>trivial).bel hW) hv (qaa.good.bel (qaa.good.mono hm fun _ _ _=>trivial) hW) hmu
 obtain ⟨A,c,rfl,hc,hc0⟩:=ht.val
 obtain ⟨A',c',rfl,hc',hc0'⟩:=hm.val
 clear ht hm hS
 go_enter Tryz.func170,Tryz.ntmps170
 go_wp2_with fail
 go_region_held3 (fun W=>W.cell? ⟨w.heap.size,0,none⟩=some (.slice A t.tr.length c)∧W.cell? ⟨w.heap.size,1,none⟩=some (.slice A' t.mu.length c'))
  (first | (refine ⟨?_,?_⟩ <;> go_simp <;> done) | exact Ext.k2 hx1 (by assumption) | exact Ext.k2 hx2 (by assumption))
  (first | (go_at_call 81;refine (hac _ bel).mono ?_;rintro e w1 ⟨A1,c1,rfl,ho1,hx1⟩) | (go_at_call 102;refine (hrc _ bel _ ((RSl.good qac.good).bel ((RSl.good qac.good).mono (ho1.sl qac.good (by decide)) fun _ _ _=>trivial) bel)).mono ?_;rintro e w2 ⟨rfl,hx2⟩))
 go_wp2_with fail
 go_ret
 exact ⟨rfl,bel⟩
theorem qrj {fn:Func} {p:Tmp} (h:fn.results = #[.cell p 4]) (tmps:Array Value) (w:World) (g:Nat) (b:Bool) (hp:tmps.getD p undef = .pointer (some ⟨g,0,none⟩)) (hc:w.cell? ⟨g,0,none⟩=some (.bool b)) :
  (results fn tmps).run Tryz.prog w = .ok (.bool b) w:=by
 have hp':tmps[p]?.getD undef = .pointer (some ⟨g,0,none⟩):=by simpa using hp
 simp [results,h,hp',asAddr,go_sem,hc]
theorem openB_not {s:Sy} {t:Te} (h:∀ k,k<t.tr.length->qhl s t.tr k=false):qhh s t=false:=by
 rw [qhh,List.any_eq_false]
 exact fun k hk=>by rw [h k (List.mem_range.1 hk)];simp
theorem openB_yes {s:Sy} {t:Te} {k:Nat} (hk:k<t.tr.length) (h:qhl s t.tr k=true):qhh s t=true:=List.any_eq_true.2 ⟨k,List.mem_range.2 hk,h⟩
theorem open_c (S:Nat->Prop) (s:Sy) (hok:qag s) (g:Nat) (t:Te) (v u:Value) (w:World) (hS:qav S w g s) (ht:qaa S w t.tr [v]) (hm:qaa S w t.mu [u]) (htr:t.tr.length<=4611686018427387903) :
  Calls Tryz.prog 171 #[.pointer (some ⟨g,0,none⟩),.agg #[v,u]] w fun e w'=>e = .returned (.bool (qhh s t))∧Ext w w':=by
 have HS:=Hd hS
 have HT:=Hd ht
 have huo:=hm.oneCell
 obtain ⟨At,ct,rfl,hct,hct0⟩:=ht.val
 obtain ⟨Am,cm,rfl,_,_⟩:=hm.val
 clear hS ht hm
 refine (callsIn_wide (n:=3)).1 ?_
 refine callsIn_of_wp_marks Tryz.func171 rfl trivial ?_ rfl
 simp only [Tryz.ntmps171,List.size_toArray,List.length_cons,List.length_nil,Nat.reduceAdd,Nat.reduceSub,Array.replicate_succ,Array.replicate_zero,List.push_toArray,List.append_toArray,List.nil_append,List.cons_append]
 gi_wp2_with fail
 refine ⟨trivial,?_⟩
 gi_at_call 150
 refine (qnc 2 (some ⟨g,0,none⟩) At t.tr.length ct _).mono ?_
 rintro e w1 ⟨rfl,rfl⟩
 gi_wp2_with fail
 obtain ⟨um,hum⟩:∃ um,Value.slice Am t.mu.length cm=um:=⟨_,rfl⟩
 rw [hum]
 obtain ⟨W0,hW0⟩:∃ W0,((((w.alloc (.cells #[.pointer (some ⟨g,0,none⟩)] 111)).alloc (.cells #[.slice At t.tr.length ct,um] 40)).alloc (.cells #[.bool false] 4)).alloc (.cells #[.pointer (some ⟨g,0,none⟩)] 111)).alloc (.cells #[.slice At t.tr.length ct] 22)=W0:=⟨_,rfl⟩
 have hsz0:W0.heap.size=w.heap.size+5:=by rw [<- hW0];simp
 have hX0:Ext w W0:=by rw [<- hW0];exact (((((Ext.refl w).alloc _).alloc _).alloc _).alloc _).alloc _
 have bs0:Boxed W0 w.heap.size 111 (.pointer (some ⟨g,0,none⟩)):=by rw [<- hW0];exact ((((Boxed.new w 111 _).alloc _).alloc _).alloc _).alloc _
 have bt0:W0.cell? ⟨w.heap.size+1,0,none⟩=some (.slice At t.tr.length ct):=by
  subst hW0
  go_simp
 have bc0:Boxed W0 (w.heap.size+2) 4 (.bool false):=by
  rw [<- hW0]
  have:=((Boxed.new ((w.alloc (.cells #[.pointer (some ⟨g,0,none⟩)] 111)).alloc (.cells #[.slice At t.tr.length ct,um] 40)) 4 (.bool false)).alloc (.cells #[.pointer (some ⟨g,0,none⟩)] 111)).alloc (.cells #[.slice At t.tr.length ct] 22)
  rwa [World.size_alloc,World.size_alloc] at this
 have b3:W0.cell? ⟨w.heap.size+3,0,none⟩=some (.pointer (some ⟨g,0,none⟩)):=by
  subst hW0
  go_simp
 have b4:W0.cell? ⟨w.heap.size+4,0,none⟩=some (.slice At t.tr.length ct):=by
  subst hW0
  go_simp
 rw [hW0]
 clear hW0
 obtain ⟨Z,hZ⟩:∃ Z:Nat->Prop,Z=fun q=>(S q∧q<w.heap.size)∨q=w.heap.size∨q=w.heap.size+1∨q=w.heap.size+3∨q=w.heap.size+4:=⟨_,rfl⟩
 have hS0:qav Z W0 g s:=(HS.out.mono (S':=Z) fun q h1 h2=>by rw [hZ];exact .inl ⟨h2,h1⟩).bel hX0
 have hT0:qaa Z W0 t.tr [.slice At t.tr.length ct]:=qaa.good.bel (qaa.good.mono HT.out (S':=Z) fun q h1 h2=>by rw [hZ];exact .inl ⟨h2,h1⟩) hX0
 have HS0:=Hd hS0
 have HT0:=Hd hT0
 have HB3:=Hd b3
 have HB4:=Hd b4
 clear b3 b4
 refine qmn (by omega) (gf:=220) (lb:=#[.pointer (some ⟨w.heap.size+3,0,none⟩),.pointer (some ⟨w.heap.size+4,0,none⟩)]) rfl (enters_of Tryz.func220 (by kernel_rfl) rfl)
  (ql6 (3-1) (by omega) (fun b=>b=w.heap.size+2) Z s hok g t.tr _ (w.heap.size+3) (w.heap.size+4) W0 (fun k hk=>by
   rw [hZ] at hk
   rcases hk with ⟨_,h⟩ | h | h | h | h <;> constructor <;> omega) (fun k hk=>by omega) HS0.out HT0.out (by rw [hZ];simp) (by rw [hZ];simp) HB3.out HB4.out htr)
  (fun _=>rfl) kc_t (fun W l o o' h1 h2 h3=>kc_b W l o o' h1 h2 h3)
  (fun pre W=>Bt (fun _=>False) W0 W∧∀ k,k<pre.length->k<t.tr.length->qhl s t.tr k=false)
  (fun c _ W=>c = .ret∧qhh s t=true∧Bt (fun b=>b=w.heap.size+2) W0 W∧Boxed W (w.heap.size+2) 4 (.bool true)) ?own ?ownx
  ⟨Bt.refl _ _,fun k hk=>by simp at hk⟩
  (fun pre x a' W=>walkG s t.tr W0.heap.size pre x W∧a'={ tmps:=#[.pointer (some ⟨g,0,none⟩),.agg #[.slice At t.tr.length ct,um],.pointer (some ⟨w.heap.size,0,none⟩),.pointer (some ⟨w.heap.size+1,0,none⟩),.pointer (some ⟨w.heap.size+2,0,none⟩),.int .i64 (x.1:Int),x.2,.pointer (some ⟨g,0,none⟩),.pointer (some ⟨w.heap.size+1,0,none⟩),.slice At t.tr.length ct,.func (.func 220) #[] #[.pointer (some ⟨w.heap.size+3,0,none⟩),.pointer (some ⟨w.heap.size+4,0,none⟩)],.int .i64 (x.1:Int),x.2,undef,undef,undef,undef,undef,undef,undef,undef,undef,undef,undef,undef,undef,undef,undef,undef],defers:=[] })
  (fun pre x a' _ X Y row hs hg hr=>⟨⟨hs.1.1,hs.1.2.1,ql0 () X Y row hs.1.2.2 hg hr⟩,hs.2⟩)
  ?assign ?body ?done ?stop
 case own =>
  rintro pre X Y r ⟨h1,h2⟩ hg hr
  exact ⟨qhr _ _ () X Y r h1 hg hr,h2⟩
 case ownx =>
  rintro c pre X Y r ⟨h0,h1,h2,h3⟩ hg hr
  exact ⟨h0,h1,qhr _ _ () X Y r h2 hg hr,(hg.block _ h3.lt fun e=>by have:=(hr _ e.symm).1;omega).trans h3⟩
 case assign =>
  rintro l2 pre ⟨xi,xv⟩ W Kc' hI hG hK
  unfold qh5
  simp only
  gi_wp2
  exact hK _ _ (KeepsFrom.refl _ _) ⟨Nat.le_refl _,fun _ _ h _ _=>h⟩ hI ⟨hG,rfl⟩
 case body =>
  rintro l2 pre ⟨xi,xv⟩ a' W hl2 _ ⟨hb,hno⟩ ⟨⟨hx1,hx2,hx3⟩,rfl⟩
  simp only at hx1 hx2 hx3
  obtain rfl:=hx1
  have hXW:Ext W0 W:=Bt.new (Ext.refl _) hb fun _ _ h=>h.elim
  have x0:=Ext.keep hXW bs0.cell
  have x1:=Ext.keep hXW bt0
  have x2:=Ext.keep hXW bc0.cell
  have hrf:=fun X (hX:Ext W X) (l:List Lb) (vl:Value) (hl:qaa Z X l [vl]) (hn:l.length<=4611686018427387903)=>qnd (fun _=>True) s hok g (qal s (t.tr.take pre.length)) l xv vl X ((HS0.out.mono fun _ _ _=>trivial).bel (hXW.trans' hX)) ((RSl.good qac.good).bel ((RSl.good qac.good).mono (hx3.sl qac.good (by decide)) fun _ _ _=>trivial) hX) (qaa.good.mono hl fun _ _ _=>trivial) hn
  obtain ⟨A3,c3,rfl,_,_⟩:=(hx3.sl qac.good (by decide)).val
  have HNO:=Hd hno
  have HB:=Hd hb
  clear hx3 hno hb bs0 bt0
  by_cases hlt:pre.length<t.tr.length
  ·have hTW:=qaa.good.bel HT0.out hXW
   obtain ⟨b,off,cs,hA,_⟩:=hTW.get pre.length hlt
   obtain rfl:=hA
   have hsub:=fun X (hX:Ext W X)=>RSl.sub1 (qaa.good.bel hTW hX) pre.length hlt
   have hrf1:=fun X (hX:Ext W X)=>hrf X hX _ _ (hsub X hX) (by simp;omega)
   clear hrf hsub hTW
   have hlt':decide ((pre.length:Int)<(t.tr.length:Int))=true:=by simp;omega
   cases hv:qhl s t.tr pre.length with
   | false =>
    rw [show qbx s (qal s (t.tr.take pre.length)) ((t.tr.drop pre.length).take 1)=false from hv] at hrf1
    have HV:=Hd hv
    clear hv
    gi_wp2_with fail
    (refine qcy (by kernel_rfl) (by kernel_rfl) (by kernel_rfl) ?_;(repeat (first | go_big_quiet_step (exact qbe (hrf1 _ (qa5 _ _))) | quiet_step (exact qbe (hrf1 _ (qa5 _ _)))));refine wpQuiet_nil ?_)
    intro w4 hx4
    gi_wp2
    refine ⟨qeq hx4 _,Kc.of_bt hx4.bt,HB.out.trans hx4.bt,fun k hk hk'=>?_⟩
    rw [List.length_append,List.length_singleton] at hk
    by_cases e:k=pre.length
    ·rw [e];exact HV.out
    ·exact HNO.out k (by omega) hk'
   | true =>
    rw [show qbx s (qal s (t.tr.take pre.length)) ((t.tr.drop pre.length).take 1)=true from hv] at hrf1
    have HV:=Hd hv
    clear hv
    gi_wp2_with fail
    (refine qcy (by kernel_rfl) (by kernel_rfl) (by kernel_rfl) ?_;(repeat (first | go_big_quiet_step (exact qbe (hrf1 _ (qa5 _ _))) | quiet_step (exact qbe (hrf1 _ (qa5 _ _)))));refine wpQuiet_nil ?_)
    intro w4 hx4
    have q4:Boxed w4 (w.heap.size+2) 4 (.bool false):=(hx4.block _ (Nat.lt_of_lt_of_le bc0.lt hXW.size)).trans ((hXW.block _ bc0.lt).trans bc0)
    have y4:=q4.cell
    have y4':=q4.frozen
    have HQ4:=Hd q4
    clear q4
    gi_wp2
    exact ⟨(qeq hx4 _).trans ((KeepsOthers.setCell _ _ _).from _),rfl,openB_yes hlt HV.out,Bt.set (Z:=fun b=>b=w.heap.size+2) (p:=⟨w.heap.size+2,0,none⟩) ((HB.out.mono fun _ _ h=>h.elim).trans hx4.bt) (.inr rfl) _,HQ4.out.set _⟩
  ·have hlt':decide ((pre.length:Int)<(t.tr.length:Int))=false:=by simp;omega
   clear hrf
   gi_wp2_with fail
   (refine qcy (by kernel_rfl) (by kernel_rfl) (by kernel_rfl) ?_;(repeat (first | go_big_quiet_step ((fail)) | quiet_step ((fail))));refine wpQuiet_nil ?_)
   intro w4 hx4
   gi_wp2
   exact ⟨qeq hx4 _,Kc.of_bt hx4.bt,HB.out.trans hx4.bt,fun k hk hk'=>HNO.out k (by omega) hk'⟩
 case done =>
  rintro D ys W hD hys ⟨hb,hno⟩ hD0
  have hXW:Ext W0 W:=Bt.new (Ext.refl _) hb fun _ _ h=>h.elim
  have q4:Boxed W (w.heap.size+2) 4 (.bool false):=(hXW.block _ bc0.lt).trans bc0
  have y4:=q4.cell
  have y4':=q4.frozen
  have HQ4:=Hd q4
  have HD:=Hd hD0
  have HV:=Hd (openB_not fun k hk=>hno k (by omega) hk)
  clear q4 hD0 hno
  gi_wp2
  have hq5:=HQ4.out.set (.bool false)
  have hb5:Bt (fun b=>b=w.heap.size+2) W (W.setCell ⟨w.heap.size+2,0,none⟩ (.bool false)):=Bt.set (Z:=fun b=>b=w.heap.size+2) (p:=⟨w.heap.size+2,0,none⟩) (Bt.refl _ _) (.inr rfl) _
  have hM:Marks W0.heap.size [{ target:=.collected D,args:=#[] }] (W.setCell ⟨w.heap.size+2,0,none⟩ (.bool false)):=(Marks.nil W0.heap.size W0).cons hD (by omega) ((hb5.block _ (Array.getElem?_eq_some_iff.1 HD.out).1 (by omega)).trans HD.out) (fun r h1 h2=>(hb5.block r (by have:=hXW.size;omega) (by
   rintro rfl
   rw [show W0.heap[w.heap.size+2]? = _ from bc0] at h2
   cases h2)).trans ((hXW.block r h1).trans h2))
  refine Marks.leave (by simp) hM fun w3 hb3=>?_
  have hc3:=hb3.cell hq5.cell (by simp;intro h;omega)
  refine ⟨_,qrj rfl _ _ _ false rfl hc3,by rw [HV.out],?_⟩
  exact Bt.new (Bt.new (hX0.trans' hXW) hb5 fun i _ hi=>by have hi':i=w.heap.size+2:=hi;omega) hb3 fun i _ hi=>by have:=hi.1;omega
 case stop =>
  rintro D c pre W hD _ ⟨rfl,hv,hb,q4⟩ hD0
  have HQ4:=Hd q4
  have HD:=Hd hD0
  have HV:=Hd hv
  have HB:=Hd hb
  clear q4 hD0 hv hb
  gi_wp2
  have hM:Marks W0.heap.size [{ target:=.collected D,args:=#[] }] W:=(Marks.nil W0.heap.size W0).cons hD (by omega) HD.out (fun r h1 h2=>(HB.out.block r h1 (by
   rintro rfl
   rw [show W0.heap[w.heap.size+2]? = _ from bc0] at h2
   cases h2)).trans h2)
  refine Marks.leave (by simp) hM fun w3 hb3=>?_
  have hc3:=hb3.cell HQ4.out.cell (by simp;intro h;omega)
  refine ⟨_,qrj rfl _ _ _ true rfl hc3,by rw [HV.out],?_⟩
  exact Bt.new (Bt.new hX0 HB.out fun i _ hi=>by have hi':i=w.heap.size+2:=hi;omega) hb3 fun i _ hi=>by have:=hi.1;omega
end
section
open Go.Shelf
def qi3 (ts:List Te):Int:=if ts.length<=4000 then (if ts.all qdi then 0 else 340) else 1
open Classical in
noncomputable def qar (s:Sy) (ts:List Te):Int:=if qag s then qi3 ts else 8
def AskPost (S:Nat->Prop) (s:Sy) (err:Int) (w:World) (e:Ending) (w':World):Prop :=
 (err=0->SysPost S s w e w')∧(err≠0->e = .returned (.tuple #[.pointer none,.int .i64 err])∧Ext w w')
set_option maxHeartbeats 1000000 in
set_option maxRecDepth 100000 in
theorem qjj (S:Nat->Prop) (s:Sy) (cs:List Value) (ts:List Te) (v:Value) (w:World) (hx:RSy S w s cs) (ht:RSl RTe 2 S w ts [v]) :
  Calls Tryz.prog 99 #[.agg cs.toArray,v] w (AskPost S s (qar s ts) w):=by
 obtain ⟨_,vl,ve,rfl,hvl,hve⟩:=id hx
 obtain ⟨Al,cl,rfl,_,_⟩:=hvl.val
 obtain ⟨Ae,ce,rfl,_,_⟩:=hve.val
 obtain ⟨A,c,rfl,hc,hc0⟩:=ht.val
 have HX:=Hd hx
 have HT:=Hd ht
 clear hx ht hvl hve
 by_cases hok:qag s
 case neg =>
  have hcon:=fun W (hW:Ext w W)=>qht S s _ W (RSy.good.bel HX.out hW) hok
  have HV:=Hd (show qar s ts=8 from if_neg hok)
  go_enter Tryz.func99,Tryz.ntmps99
  go_wp2_with fail
  refine (hcon _ bel).mono ?_
  rintro e w1 ⟨rfl,h1⟩
  go_wp2_with fail
  go_ret2
  rw [HV.out]
  exact ⟨fun h=>by simp at h,fun _=>⟨rfl,bel⟩⟩
 have hcon:=fun W (hW:Ext w W)=>qge S s _ W (RSy.good.bel HX.out hW) hok
 by_cases hlen:ts.length<=4000
 case neg =>
  have HV:=Hd (show qar s ts=1 from by rw [qar,if_pos hok,qi3,if_neg hlen])
  have hl2:4000<ts.length:=by omega
  clear hlen
  go_enter Tryz.func99,Tryz.ntmps99
  go_wp2_with fail
  refine (hcon _ bel).mono ?_
  rintro e w1 ⟨g,rfl,h1,hg,hS⟩
  go_wp2_with fail
  go_ret2
  rw [HV.out]
  exact ⟨fun h=>by simp at h,fun _=>⟨rfl,bel⟩⟩
 have HV:=Hd (show qar s ts=if ts.all qdi then 0 else 340 from by rw [qar,if_pos hok,qi3,if_pos hlen])
 go_enter Tryz.func99,Tryz.ntmps99
 go_wp2_with fail
 refine (hcon _ bel).mono ?_
 rintro e w1 ⟨g,rfl,h1,hg,hS⟩
 have hX1:Ext w w1:=bel
 have HS:=Hd (hS.mono (S':=fun k=>S k∨w.heap.size<=k) fun k _ h=>h.imp id fun h'=>by simp at h';omega)
 have hg':w.heap.size<=g:=by simp at hg;omega
 clear hS hg h1
 go_wp2_with fail
 go_loopw [24] (fun vi wr=>∃ k:Nat,k<=ts.length∧vi = .int .i64 k∧Hid ((ts.drop k).all qdi=ts.all qdi)∧Ext w1 wr) (fun vi _=>ts.length-(intOf vi).toNat)
 case atStart=>exact ⟨0,Nat.zero_le _,rfl,rfl,Ext.refl _⟩
 case round =>
  obtain ⟨k,hk,rfl,hall,hE⟩:=hrel
  have hXr:=hX1.trans' hE
  by_cases hlt:k<ts.length
  ·obtain ⟨b,off,cs,rfl,hb,hS2,hl,hr,hcell⟩:=((RSl.good RTe.good).bel HT.out hXr).get k hlt
   obtain ⟨v0,v1,rfl,ha0,ha1⟩:=id hr
   have a0:=hcell.get 0 _
   have a1:=hcell.get 1 _
   simp only [Nat.add_zero] at a0
   have hck:=fun X (hX:Ext wr X)=>qth S ts[k] _ X (RTe.good.bel hr hX)
   obtain ⟨B0,c0,rfl,_,_⟩:=ha0.val
   obtain ⟨B1,c1,rfl,_,_⟩:=ha1.val
   have hst:=hall.out
   rw [List.drop_eq_getElem_cons hlt,List.all_cons] at hst
   clear hcell hl hr ha0 ha1 hS2
   cases hq:qdi ts[k] with
   | false =>
    rw [ckTe,hq] at hck
    rw [hq] at hst
    have HV2:Hid (qar s ts=340):=by show _=_;rw [HV.out,<- hst];rfl
    clear hst hq
    go_wp2_with fail
    refine (hck _ bel).mono ?_
    rintro e w2 ⟨rfl,h2⟩
    go_wp2_with fail
    go_ret2
    rw [HV2.out]
    exact ⟨fun h=>by simp at h,fun _=>⟨rfl,hXr.trans' bel⟩⟩
   | true =>
    rw [ckTe,hq] at hck
    rw [hq,Bool.true_and] at hst
    have HST:=Hd hst
    clear hst hq
    go_wp2_with fail
    refine (hck _ bel).mono ?_
    rintro e w2 ⟨rfl,h2⟩
    go_wp2_with fail
    go_roundw
    case rel=>exact ⟨k+1,by omega,by go_num,HST.out,hE.trans' bel⟩
    case measure=>simp [intOf];omega
  ·have hst:=hall.out
   rw [List.drop_of_length_le (by omega),List.all_nil] at hst
   have HV2:Hid (qar s ts=0):=by show _=_;rw [HV.out,<- hst];rfl
   clear hst
   go_wp2_with fail
   go_ret2
   rw [HV2.out]
   exact ⟨fun _=>⟨g,rfl,hXr,hg',HS.out.bel hE⟩,fun h=>absurd rfl h⟩
end
end Go.Proofs.YtegenalcheooeaaGreat
