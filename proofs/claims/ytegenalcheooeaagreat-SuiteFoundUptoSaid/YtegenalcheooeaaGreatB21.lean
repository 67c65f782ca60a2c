/- Of the proof of a law of the suites: LibIAr, LBuild, LawS2, LawS3, LawFew, LawFew2, LawFew3. -/
import Derived.Test.YtegenalcheooeaaGreatB02
import Derived.Test.YtegenalcheooeaaGreatB03
import Derived.Test.YtegenalcheooeaaGreatB04
import Derived.Test.YtegenalcheooeaaGreatB05
import Derived.Test.YtegenalcheooeaaGreatB18
import Derived.Test.YtegenalcheooeaaGreatB20
import Derived.Laws.OwnMore
set_option linter.unusedSectionVars false
set_option linter.unusedSimpArgs false
set_option linter.unusedVariables false
namespace Go.Proofs.YtegenalcheooeaaGreat
open Go.RowKit
attribute [local go_sem] cell?_exto
section
set_option maxHeartbeats 1000000
set_option maxRecDepth 100000
/- slices.IndexFunc and ContainsFunc at each element type of the program: what they come to,whatever function value they are given. -/
theorem idxFAr {σ:Type} (J:σ->World->Prop) (step:σ->Ar->Bool×σ) (S:Nat->Prop) (w:World) (xs:List (Ar)) (v:Value) (hx:RSl RAr 4 S w xs [v]) (g:Nat) (lb:Array Value)
  (eg:∀ args w,(callFunc g args).run Tryz.prog w = .ok (.enter g args) w) (hJ:∀ s W,J s W->Kp S w W)
  (hp:∀ x∈xs,∀ s cs W,J s W->RAr S W x cs->Calls Tryz.prog g (#[.agg cs.toArray]++lb) W fun e w'=>e = .returned (.bool (step s x).1)∧J (step s x).2 w') (s0:σ) (h0:J s0 w) :
  Calls Tryz.prog 244 #[v,.func (.func g) #[] lb] w fun e w'=>e = .returned (.int .i64 (qaq step s0 xs).1)∧J (qaq step s0 xs).2 w':=by
 obtain ⟨A,c,rfl,hc,hc0⟩:=hx.val
 have HX:=Hd hx
 have HP:=Hd hp
 have HJ:=Hd hJ
 clear hx hp hJ
 go_enter Tryz.func244,Tryz.ntmps244
 go_wp2
 go_loopw [5,8] (fun _ i wr=>∃ k:Nat,k<=xs.length∧i = .int .i64 k∧Hid (∃ s,J s wr∧qaq step s0 xs=((qaq step s (xs.drop k)).1+(if (qaq step s (xs.drop k)).1<0 then 0 else (k:Int)),(qaq step s (xs.drop k)).2))) (fun _ i _=>xs.length-(intOf i).toNat)
 case atStart=>exact ⟨0,Nat.zero_le _,rfl,s0,h0,by simp⟩
 case round =>
  obtain ⟨k,hk,rfl,s,hs,hf⟩:=hrel
  by_cases hlt:k<xs.length
  ·obtain ⟨b,off,cs,rfl,hb,hS,hl,hr,hcell⟩:=((RSl.good RAr.good).move HX.out (HJ.out _ _ hs)).get k hlt
   have hcon:=HP.out xs[k] (List.getElem_mem hlt) s cs wr hs hr
   obtain ⟨c0,c1,c2,c3,rfl⟩:∃ c0 c1 c2 c3,cs=[c0,c1,c2,c3]:=by
    match cs,hl with
    | [c0,c1,c2,c3],_=>exact ⟨c0,c1,c2,c3,rfl⟩
   have g0:=(by simpa using hcell.get 0 _:wr.cell? ⟨b,off+k*4,none⟩=some c0)
   have g1:=hcell.get 1 _
   have g2:=hcell.get 2 _
   have g3:=hcell.get 3 _
   rw [List.drop_eq_getElem_cons hlt,qaq] at hf
   clear hcell hl hS hr
   cases hq:(step s xs[k]).1 with
   | true =>
    rw [hq] at hcon hf
    have Hf:=Hd hf
    clear hf
    go_wp2_with fail
    refine hcon.mono ?_
    rintro e w' ⟨rfl,hs'⟩
    go_wp2_with fail
    go_ret
    rw [Hf.out]
    exact ⟨by simp,hs'⟩
   | false =>
    rw [hq] at hcon hf
    have Hf:=Hd hf
    clear hf
    go_wp2_with fail
    refine hcon.mono ?_
    rintro e w' ⟨rfl,hs'⟩
    go_wp2_with fail
    go_roundw
    case rel =>
     refine ⟨k+1,by omega,by go_num,_,hs',?_⟩
     rw [Hf.out]
     exact qiq _ _
    case measure=>simp [intOf];omega
  ·have hd:xs.drop k=[]:=List.drop_of_length_le (by omega)
   rw [hd,qaq] at hf
   have Hf:=Hd hf
   clear hf
   go_wp2
   go_ret
   rw [Hf.out]
   exact ⟨by simp,hs⟩
theorem conFAr {σ:Type} (J:σ->World->Prop) (step:σ->Ar->Bool×σ) (S:Nat->Prop) (w:World) (xs:List (Ar)) (v:Value) (hx:RSl RAr 4 S w xs [v]) (g:Nat) (lb:Array Value)
  (eg:∀ args w,(callFunc g args).run Tryz.prog w = .ok (.enter g args) w) (hJ:∀ s W,J s W->Kp S w W)
  (hp:∀ x∈xs,∀ s cs W,J s W->RAr S W x cs->Calls Tryz.prog g (#[.agg cs.toArray]++lb) W fun e w'=>e = .returned (.bool (step s x).1)∧J (step s x).2 w') (s0:σ) (h0:J s0 w) :
  Calls Tryz.prog 202 #[v,.func (.func g) #[] lb] w fun e w'=>e = .returned (.bool (qcp step s0 xs).1)∧J (qcp step s0 xs).2 w':=by
 obtain ⟨A,c,rfl,hc,hc0⟩:=hx.val
 have hcon:=idxFAr J step S w xs _ hx g lb eg hJ hp s0 h0
 rw [qho]
 clear hx hp hJ
 go_enter Tryz.func202,Tryz.ntmps202
 go_wp2_with fail
 refine hcon.mono ?_
 rintro e w' ⟨rfl,hs'⟩
 go_wp2_with fail
 all_goals go_ret
 all_goals exact ⟨by simp,hs'⟩
theorem conPAr (p:Ar->Bool) (S:Nat->Prop) (w:World) (xs:List (Ar)) (v:Value) (hx:RSl RAr 4 S w xs [v]) (g:Nat) (lb:Array Value)
  (eg:∀ args w,(callFunc g args).run Tryz.prog w = .ok (.enter g args) w)
  (hp:∀ x∈xs,∀ cs W,Ext w W->RAr S W x cs->Calls Tryz.prog g (#[.agg cs.toArray]++lb) W fun e w'=>e = .returned (.bool (p x))∧Ext W w') :
  Calls Tryz.prog 202 #[v,.func (.func g) #[] lb] w fun e w'=>e = .returned (.bool (xs.any p))∧Ext w w' :=
 (conFAr (fun (_:Unit) W=>Ext w W) (fun s x=>(p x,s)) S w xs v hx g lb eg (fun _ _ h=>Ext.kp h) (fun x hx s cs W hW hr=>(hp x hx cs W hW hr).mono fun e w' ⟨he,hb⟩=>⟨he,hW.trans' hb⟩) () (Ext.refl w)).mono
  fun e w' ⟨he,hb⟩=>⟨by rw [he,qid],hb⟩
end
section
set_option maxHeartbeats 1000000
set_option maxRecDepth 100000
/- lts.Build where all is well: walked. -/
open Go.Shelf
def qao:List Ar->List Lb->List Ed->List Lb×List Ed
 | [],ls,es=>(ls,es)
 | a :: rs,ls,es=>qao rs (qbm ls a.l) (es++[⟨a.f,(ls.idxOf a.l:Int),a.t⟩])
theorem qpj (a:Ar):∀ (rs:List Ar) (ls:List Lb) (es:List Ed),qao (rs++[a]) ls es=(qbm (qao rs ls es).1 a.l,(qao rs ls es).2++[⟨a.f,((qao rs ls es).1.idxOf a.l:Int),a.t⟩])
 | [],_,_=>rfl
 | x :: rs,ls,es=>by rw [List.cons_append,qao,qpj a rs,qao]
theorem qjz:∀ (rs:List Ar) (ls:List Lb) (es:List Ed),(qao rs ls es).1.length<=ls.length+rs.length∧(qao rs ls es).2.length=es.length+rs.length
 | [],ls,es=>⟨Nat.le_refl _,rfl⟩
 | a :: rs,ls,es=>by
  have h:=qjz rs (qbm ls a.l) (es++[⟨a.f,(ls.idxOf a.l:Int),a.t⟩])
  have h2:=addLb_len ls a.l
  rw [List.length_append,List.length_singleton] at h
  rw [qao,List.length_cons]
  omega
theorem qr5:∀ (rs:List Ar) (ls:List Lb) (es:List Ed),(∀ a∈rs,qax a.l=true)->(∀ x∈ls,qax x=true)->∀ x∈(qao rs ls es).1,qax x=true
 | [],_,_,_,h=>h
 | a :: rs,ls,es,h,h'=>qr5 rs _ _ (fun b hb=>h b (List.mem_cons_of_mem _ hb)) (addLb_ok (h a (List.mem_cons_self ..)) h')
theorem qrk (ls:List Lb) (x:Lb):ls.idxOf x<(qbm ls x).length:=by
 unfold qbm
 split
 ·rename_i h;exact List.idxOf_lt_length_of_mem h
 ·rename_i h
  have:=List.idxOf_le_length (a:=x) (l:=ls)
  simp
  omega
theorem qsc:∀ (rs:List Ar) (ls:List Lb) (es:List Ed),(∀ e∈es,0<=e.l∧e.l<ls.length)->∀ e∈(qao rs ls es).2,0<=e.l∧e.l<(qao rs ls es).1.length
 | [],_,_,h=>h
 | a :: rs,ls,es,h=>qsc rs _ _ fun e he=>by
  have hle:ls.length<=(qbm ls a.l).length:=by unfold qbm;split <;> simp
  rcases List.mem_append.1 he with he | he
  ·have:=h e he;omega
  ·rw [List.mem_singleton.1 he]
   have:=qrk ls a.l
   exact ⟨by show (0:Int)<=(ls.idxOf a.l:Int);omega,by show (ls.idxOf a.l:Int)<_;omega⟩
def qdn (n:Int) (rs:List Ar):Sy:=qh4 n (qao rs [] []).1 (qao rs [] []).2
theorem eg203:∀ args w,(callFunc 203 args).run Tryz.prog w = .ok (.enter 203 args) w:=enters_of Tryz.func203 (by kernel_rfl) rfl
theorem qqu (n x:Int) (h1:0<=x) (h2:x<n) (Bn:Nat) (w:World) (h:w.cell? ⟨Bn,0,none⟩=some (.int .i64 n)):Calls Tryz.prog 201 #[.int .i64 x,.pointer (some ⟨Bn,0,none⟩)] w fun e w'=>e = .returned (.bool true)∧Ext w w':=by
 go_enter Tryz.func201,Tryz.ntmps201
 go_wp2_with fail
 go_ret
 exact ⟨rfl,Ext.refl _⟩
theorem build2_c (S:Nat->Prop) (n:Int) (a:Ar) (ha:(0<=a.f∧a.f<n)∧0<=a.t∧a.t<n) (Bn Bf:Nat) (cs:List Value) (w:World) (h:w.cell? ⟨Bn,0,none⟩=some (.int .i64 n)) (hf:w.cell? ⟨Bf,0,none⟩=some (.func (.func 201) #[] #[.pointer (some ⟨Bn,0,none⟩)])) (hx:RAr S w a cs) :
  Calls Tryz.prog 203 #[.agg cs.toArray,.pointer (some ⟨Bf,0,none⟩)] w fun e w'=>e = .returned (.bool false)∧Ext w w':=by
 obtain ⟨i1,i2,v,rfl,i3,hv⟩:=hx
 obtain ⟨A,c,rfl,_,_⟩:=hv.val
 have h1:=fun W (hW:Ext w W)=>qqu n a.f ha.1.1 ha.1.2 Bn W (Ext.keep hW h)
 have h2:=fun W (hW:Ext w W)=>qqu n a.t ha.2.1 ha.2.2 Bn W (Ext.keep hW h)
 have hBf:=World.block_lt_of_cell? w _ hf
 have hBn:=World.block_lt_of_cell? w _ h
 clear hv ha
 go_enter Tryz.func203,Tryz.ntmps203
 go_wp2_with fail
 refine (h1 _ bel).mono ?_
 rintro e w1 ⟨rfl,hx1⟩
 have hc1:=hx1.cells
 have hz1:=hx1.size
 go_wp2_with fail
 refine (h2 _ bel).mono ?_
 rintro e w2 ⟨rfl,hx2⟩
 go_wp2_with fail
 go_ret
 exact ⟨rfl,bel⟩
def qpu (n:Int) (rs:List Ar) (w:World) (e:Ending) (w':World):Prop:=∃ cs,e = .returned (.tuple #[.agg cs.toArray,.int .i64 0])∧RSy (fun b=>w.heap.size<=b) w' (qdn n rs) cs∧Ext w w'
theorem build_c (S:Nat->Prop) (n:Int) (hn:1<=n∧n<=20000) (rs:List Ar) (v:Value) (w:World) (hx:RSl RAr 4 S w rs [v]) (hin:∀ a∈rs,(0<=a.f∧a.f<n)∧0<=a.t∧a.t<n) (hok:∀ a∈rs,qax a.l=true∧a.l.size<=1000000000) (hlen:rs.length<=100000)
  (hl:(qao rs [] []).1.length<=16) (hso:qkr (qao rs [] []).1) (hnd:qla (qcu qbd (edR (qao rs [] []).1 (qao rs [] []).2))):Calls Tryz.prog 135 #[.int .i64 n,v] w (qpu n rs w):=by
 obtain ⟨A,c,rfl,hc,hc0⟩:=hx.val
 have hx2:RSl RAr 4 (fun q=>q<w.heap.size) w rs [.slice A rs.length c]:=(RSl.good RAr.good).mono hx fun b hb _=>hb
 have HX:=Hd hx2
 have HIN:=Hd hin
 have HOK:=Hd hok
 have HND:=Hd hnd
 have HSO:=Hd hso
 have hn1:=hn.1
 have hn2:=hn.2
 have hany:rs.any (fun _=>false)=false:=by simp
 have hcon:=fun (W:World) (Bn Bf:Nat) (hW:Ext w W) (h1:W.cell? ⟨Bn,0,none⟩=some (.int .i64 n)) (h2:W.cell? ⟨Bf,0,none⟩=some (.func (.func 201) #[] #[.pointer (some ⟨Bn,0,none⟩)])) =>
  conPAr (fun _=>false) (fun q=>q<w.heap.size) W rs _ ((RSl.good RAr.good).bel hx2 hW) 203 #[.pointer (some ⟨Bf,0,none⟩)] eg203 (fun x hx cs W' hW' hr=>build2_c _ n x (hin x hx) Bn Bf cs W' (Ext.keep hW' h1) (Ext.keep hW' h2) hr)
 rw [hany] at hcon
 have hd1:decide (n<1)=false:=decide_eq_false (by omega)
 have hd2:decide (20000<n)=false:=decide_eq_false (by omega)
 clear hx hx2 hin hok hnd hany hn hso
 go_enter Tryz.func135,Tryz.ntmps135
 go_wp2_with fail
 obtain ⟨W3,hW3⟩:∃ W3,((w.alloc (.cells #[.int .i64 n] 3)).alloc (.cells #[.int .i64 0,.slice none 0 0,.slice none 0 0] 25)).alloc (.cells #[.func (.func 201) #[] #[.pointer (some ⟨w.heap.size,0,none⟩)]] 78)=W3:=⟨_,rfl⟩
 have hX3:Ext w W3:=by rw [<- hW3];exact (((Ext.refl w).alloc _).alloc _).alloc _
 have hs3:W3.heap.size=w.heap.size+3:=by rw [<- hW3];simp
 have b0:qaf W3 w.heap.size 3 [.int .i64 n]:=by
  show W3.heap[_]? = _
  rw [<- hW3,Below.heap_alloc _ _ _ (by simp;omega),Below.heap_alloc _ _ _ (by simp)]
  exact World.alloc_heap_new _ _
 have b1:qaf W3 (w.heap.size+1) 25 [.int .i64 0,.slice none 0 0,.slice none 0 0]:=by rw [<- hW3];exact qgx ..
 have b2:qaf W3 (w.heap.size+1+1) 78 [.func (.func 201) #[] #[.pointer (some ⟨w.heap.size,0,none⟩)]]:=by rw [<- hW3];exact qgo ..
 rw [hW3]
 clear hW3
 refine (hcon W3 w.heap.size (w.heap.size+1+1) hX3 (b0.cell 0 _) (b2.cell 0 _)).mono ?_
 rintro e w1 ⟨rfl,hx1⟩
 have hX1:Ext w w1:=hX3.trans' hx1
 have n0:=(b0.ext hx1).cell 0 _
 have n0l:=(b0.ext hx1).lt
 have HBr:=Hd (b1.ext hx1)
 have hsz1:=hx1.size
 clear hcon b0 b1 b2 hx1
 go_wp2_with fail
 obtain ⟨B,hB⟩:∃ B,w1.heap.size=B:=⟨_,rfl⟩
 obtain ⟨W4,hW4⟩:∃ W4,w1.alloc (.cells #[.map none,.slice none 0 0,.slice none 0 0] 235)=W4:=⟨_,rfl⟩
 have hX4:Ext w1 W4:=by rw [<- hW4];exact (Ext.refl w1).alloc _
 have hb4:qaf W4 B 235 [.map none,.slice none 0 0,.slice none 0 0]:=by rw [<- hW4,<- hB];exact World.alloc_heap_new _ _
 have hs4:W4.heap.size=B+1:=by rw [<- hW4,<- hB];simp
 rw [hW4,hB]
 clear hW4
 have HA0:Hid (qcq (B+1) B [] [] (.slice none 0 0) W4):=⟨by omega,none,.slice none 0 0,fun _=>False,hb4,qab.nil ..,qab.nil ..,fun _ h=>h.elim,fun _ h=>by simp [Value.ownBlock] at h,.inl ⟨rfl,rfl⟩⟩
 have HM:Hid (W3.heap.size<=B∧W3.heap.size=w.heap.size+3∧w1.heap.size=B∧W4.heap.size=B+1):=by show _∧_;omega
 have HX4:=Hd hX4
 have HX1:=Hd hX1
 have n4:=Ext.keep hX4 n0
 have HBr4:=Hd (HBr.out.ext hX4)
 clear hX4 hb4 hs4 hB hX1 hsz1 hs3 hX3 n0
 go_loopw [27] (fun vi wr=>∃ (k:Nat) (ve:Value),k<=rs.length∧vi = .int .i64 k∧Hid (Bt (fun q=>q=B∨B+1<=q) W4 wr)∧Hid (qcq (B+1) B (qao (rs.take k) [] []).1 (qao (rs.take k) [] []).2 ve wr)) (fun vi _=>rs.length-(intOf vi).toNat)
 case atStart=>exact ⟨0,_,Nat.zero_le _,rfl,Bt.refl _ _,HA0.out⟩
 case round =>
  obtain ⟨k,ve,hk,rfl,hB4,hA⟩:=hrel
  by_cases hlt:k<rs.length
  ·have hKp:Kp (fun q=>q<w.heap.size) w wr:=((HX1.out.trans' HX4.out).kp).trans (hB4.out.kp fun q _ h h'=>by have:=HM.out;omega)
   obtain ⟨b,off,cs,rfl,hb,hSb,hl,hr,hcell⟩:=HX.out.get k hlt
   have hrx:=RAr.good.move hr hKp
   obtain ⟨i1,i2,u,rfl,i3,hu⟩:=id hrx
   obtain ⟨Au,cu,rfl,_,_⟩:=hu.val
   have a0:=hKp.cell (hcell.get 0 _) hSb
   have a1:=hKp.cell (hcell.get 1 _) hSb
   have a2:=hKp.cell (hcell.get 2 _) hSb
   have a3:=hKp.cell (hcell.get 3 _) hSb
   simp only [Nat.add_zero] at a0
   have hok:=HOK.out _ (List.getElem_mem hlt)
   have hin:=HIN.out _ (List.getElem_mem hlt)
   have hlb:RLb (fun q=>q<w.heap.size) wr rs[k].l [.int .i64 rs[k].l.g,.slice Au rs[k].l.v.length cu]:=⟨i3,_,rfl,hu⟩
   have hck:=fun W (hW:Ext wr W)=>qmu _ _ _ W (RLb.good.bel hlb hW)
   rw [qc7,if_pos hok.1] at hck
   have hal:=qjz (rs.take k) [] []
   simp only [List.length_take,List.length_nil] at hal
   have hsn:=qpj rs[k] (rs.take k) [] []
   rw [<- List.take_succ_eq_append_getElem hlt] at hsn
   have hadd:=fun W (hW:Ext wr W)=>add_c (fun q=>q<w.heap.size) (B+1) B (qao (rs.take k) [] []).1 (qao (rs.take k) [] []).2 ve rs[k].l rs[k].f rs[k].t i1 i2 hok.1
    (qr5 _ _ _ (fun a ha=>(HOK.out a (List.mem_of_mem_take ha)).1) (by simp)) hok.2 (by omega) (by omega) _ W (fun q hq=>by have:=HM.out;omega) (by have:=HM.out;have:=hB4.out.size;have:=hW.size;omega) (hA.out.ext hW) (RLb.good.bel hlb hW)
   have HSN:=Hd hsn
   have HADD:=Hd hadd
   obtain ⟨x,hxe⟩:∃ x,rs[k]=x:=⟨_,rfl⟩
   rw [hxe] at a0 a1 a2 a3 hck HADD HSN
   clear hrx hr hu hlb hcell hl hSb hok hin hsn hadd hxe hal i1 i2 i3
   go_wp2_with fail
   refine (hck _ bel).mono ?_
   rintro e w5 ⟨rfl,h5⟩
   have hc5:=h5.cells
   have hz5:=h5.size
   go_wp2_with fail
   refine (HADD.out _ bel).mono ?_
   rintro e w6 ⟨rfl,ve',hA6,hb6⟩
   have HA6:=Hd hA6
   have hx65:Ext wr w5:=bel
   have HB6:Hid (Bt (fun q=>q=B∨B+1<=q) W4 w6):=(hB4.out.ext hx65).trans hb6
   clear hA6 hb6 hc5
   go_wp2_with fail
   go_roundw
   case rel=>exact ⟨k+1,ve',by omega,by go_num,HB6.out,by show qcq _ _ _ _ _ _;rw [HSN.out];exact HA6.out⟩
   case measure=>simp [intOf];omega
  ·obtain rfl:k=rs.length:=by omega
   have htk:rs.take rs.length=rs:=List.take_length
   rw [htk] at hA
   have hal:=qjz rs [] []
   have hus:=used_c (B+1) B (qao rs [] []).1 (qao rs [] []).2 ve n (by unfold I64;omega) wr (by have:=HM.out;have:=hB4.out.size;omega) hA.out hl HSO.out (by have:=hal.2;simp only [List.length_nil] at this;omega) (qsc rs [] [] (by simp)) HND.out
   have hn5:=hB4.out.cell n4 (by have:=HM.out;show ¬ (w.heap.size=B∨B+1<=w.heap.size);omega)
   have hBr5:=HBr4.out.bt hB4.out (by have:=HM.out;omega)
   clear htk hk
   go_wp2_with fail
   refine hus.mono ?_
   rintro e w9 ⟨cs,rfl,hsy,hx9⟩
   obtain ⟨sy,hsye⟩:∃ sy,qh4 n (qao rs [] []).1 (qao rs [] []).2=sy:=⟨_,rfl⟩
   rw [hsye] at hsy
   have HSE:Hid (qdn n rs=sy):=hsye
   clear hsye
   obtain ⟨j1,v1,v2,rfl,hv1,hv2⟩:=id hsy
   obtain ⟨A1,c1,rfl,_,_⟩:=hv1.val
   obtain ⟨A2,c2,rfl,_,_⟩:=hv2.val
   have HSY:=Hd hsy
   have hR9:=hBr5.ext hx9
   have r0:=hR9.cell 0 _
   have r1:=hR9.cell 1 _
   have r2:=hR9.cell 2 _
   have rz0:=hR9.frozen 0
   have rz1:=hR9.frozen 1
   have rz2:=hR9.frozen 2
   have hRl:=hR9.lt
   have HR9:=Hd hR9
   have HF9:Hid (Ext w w9):=Bt.new (HX1.out.trans' HX4.out) (hB4.out.ext hx9) fun q _ h=>by have:=HM.out;omega
   clear hus hv1 hv2 hsy hBr5 hR9 hA hal
   go_wp2_with fail
   have hB3:=((HR9.out.set 0 (.int .i64 sy.n)).set 1 (.slice A1 sy.ls.length c1)).set 2 (.slice A2 sy.es.length c2)
   have sAll:Bt (fun q=>q=w.heap.size+1) w9 (((w9.setCell ⟨w.heap.size+1,0,none⟩ (.int .i64 sy.n)).setCell ⟨w.heap.size+1,1,none⟩ (.slice A1 sy.ls.length c1)).setCell ⟨w.heap.size+1,2,none⟩ (.slice A2 sy.es.length c2)) :=
    Bt.set (Z:=fun q=>q=w.heap.size+1) (p:=⟨w.heap.size+1,2,none⟩) (Bt.set (Z:=fun q=>q=w.heap.size+1) (p:=⟨w.heap.size+1,1,none⟩) (Bt.set (Z:=fun q=>q=w.heap.size+1) (p:=⟨w.heap.size+1,0,none⟩) (Bt.refl _ _) (.inr rfl) _) (.inr rfl) _) (.inr rfl) _
   have hB4':=hB3.ext ((Ext.refl _).alloc (.cells #[.int .i64 sy.n,.slice A1 sy.ls.length c1,.slice A2 sy.es.length c2] 25))
   refine bodyPost_ret (qmw rfl _ _ (w.heap.size+1) _ _ _ (.int .i64 0) rfl rfl (hB4'.cell 0 _) (hB4'.cell 1 _) (hB4'.cell 2 _)) rfl ⟨[.int .i64 sy.n,.slice A1 sy.ls.length c1,.slice A2 sy.es.length c2],rfl,?_,?_⟩
   ·rw [HSE.out]
    exact RSy.good.mono (RSy.good.bel (RSy.good.move HSY.out (sAll.kp (S:=fun b=>B+1<=b) fun q _ h h'=>by have:=HM.out;omega)) ((Ext.refl _).alloc _)) fun b _ h=>by have:=HM.out;omega
   ·exact (Bt.new HF9.out sAll fun q _ h=>by omega).alloc _
end
section
set_option maxHeartbeats 1000000
set_option maxRecDepth 100000
/- The law's words: labels,arcs,tests: walked. -/
open Go.Shelf
theorem qt1 {fn:Func} {p:Tmp} (h:fn.results = #[.cell p 106]) (tmps:Array Value) (w:World) (g:Nat) (x y z u:Value) (hp:tmps.getD p undef = .pointer (some ⟨g,0,none⟩)) (h0:w.cell? ⟨g,0,none⟩=some x) (h1:w.cell? ⟨g,1,none⟩=some y) (h2:w.cell? ⟨g,2,none⟩=some z) (h3:w.cell? ⟨g,3,none⟩=some u) :
  (results fn tmps).run Tryz.prog w = .ok (.agg #[x,y,z,u]) w:=by
 have hp':tmps[p]?.getD undef = .pointer (some ⟨g,0,none⟩):=by simpa using hp
 simp [results,h,hp',asAddr,go_sem,h0,h1,h2,h3]
theorem qtk {fn:Func} {p:Tmp} (h:fn.results = #[.cell p 40]) (tmps:Array Value) (w:World) (g:Nat) (x y:Value) (hp:tmps.getD p undef = .pointer (some ⟨g,0,none⟩)) (h0:w.cell? ⟨g,0,none⟩=some x) (h1:w.cell? ⟨g,1,none⟩=some y) :
  (results fn tmps).run Tryz.prog w = .ok (.agg #[x,y]) w:=by
 have hp':tmps[p]?.getD undef = .pointer (some ⟨g,0,none⟩):=by simpa using hp
 simp [results,h,hp',asAddr,go_sem,h0,h1]
theorem qu9 {fn:Func} {p:Tmp} (h:fn.results = #[.cell p 25]) (tmps:Array Value) (w:World) (g:Nat) (x y z:Value) (hp:tmps.getD p undef = .pointer (some ⟨g,0,none⟩)) (h0:w.cell? ⟨g,0,none⟩=some x) (h1:w.cell? ⟨g,1,none⟩=some y) (h2:w.cell? ⟨g,2,none⟩=some z) :
  (results fn tmps).run Tryz.prog w = .ok (.agg #[x,y,z]) w:=by
 have hp':tmps[p]?.getD undef = .pointer (some ⟨g,0,none⟩):=by simpa using hp
 simp [results,h,hp',asAddr,go_sem,h0,h1,h2]
theorem at_c (g:Int) (w:World):Calls Tryz.prog 73 #[.int .i64 g] w fun e w'=>e = .returned (.agg #[.int .i64 g,.slice none 0 0])∧Ext w w':=by
 go_enter Tryz.func73,Tryz.ntmps73
 go_wp2_with fail
 exact bodyPost_ret (qrc rfl _ _ w.heap.size _ _ rfl (by go_simp) (by go_simp)) rfl ⟨rfl,bel⟩
theorem qhw (f g t:Int) (w:World):Calls Tryz.prog 75 #[.int .i64 f,.int .i64 g,.int .i64 t] w fun e w'=>e = .returned (.agg #[.int .i64 f,.int .i64 g,.slice none 0 0,.int .i64 t])∧Ext w w':=by
 go_enter Tryz.func75,Tryz.ntmps75
 go_wp2_with fail
 refine (at_c g _).mono ?_
 rintro e w1 ⟨rfl,h1⟩
 have hB:qaf w1 w.heap.size 106 [.int .i64 0,.int .i64 0,.slice none 0 0,.int .i64 0]:=(qaf.new w 106 _).ext h1
 have c0:=hB.cell 0 _
 have c1:=hB.cell 1 _
 have c2:=hB.cell 2 _
 have c3:=hB.cell 3 _
 have f0:=hB.frozen 0
 have f1:=hB.frozen 1
 have f2:=hB.frozen 2
 have f3:=hB.frozen 3
 have hX:Ext w w1:=bel
 go_wp2_with fail
 have hB4:=(((hB.set 0 (.int .i64 f)).set 1 (.int .i64 g)).set 2 (.slice none 0 0)).set 3 (.int .i64 t)
 exact bodyPost_ret (qt1 rfl _ _ w.heap.size _ _ _ _ rfl (hB4.cell 0 _) (hB4.cell 1 _) (hB4.cell 2 _) (hB4.cell 3 _)) rfl ⟨rfl,(((hX.set (p:=⟨w.heap.size,0,none⟩) (Nat.le_refl _) _).set (p:=⟨w.heap.size,1,none⟩) (Nat.le_refl _) _).set (p:=⟨w.heap.size,2,none⟩) (Nat.le_refl _) _).set (p:=⟨w.heap.size,3,none⟩) (Nat.le_refl _) _⟩
theorem test_c (v u:Value) (A B:Option Addr) (m n c d:Nat) (hv:v = .slice A m c) (hu:u = .slice B n d) (w:World):Calls Tryz.prog 76 #[v,u] w fun e w'=>e = .returned (.agg #[v,u])∧Ext w w':=by
 subst hv hu
 go_enter Tryz.func76,Tryz.ntmps76
 go_wp2_with fail
 exact bodyPost_ret (qtk rfl _ _ w.heap.size _ _ rfl (by go_simp) (by go_simp)) rfl ⟨rfl,bel⟩
end
section
open Go.Shelf
def qm1 (s:Sy) (w:World) (e:Ending) (w':World):Prop:=∃ cs,e = .returned (.agg cs.toArray)∧RSy (fun b=>w.heap.size<=b) w' s cs∧Ext w w'
set_option maxHeartbeats 1000000 in
set_option maxRecDepth 100000 in
theorem built_c (S:Nat->Prop) (n:Int) (hn:1<=n∧n<=20000) (rs:List Ar) (v:Value) (w:World) (hx:RSl RAr 4 S w rs [v]) (hin:∀ a∈rs,(0<=a.f∧a.f<n)∧0<=a.t∧a.t<n) (hok:∀ a∈rs,qax a.l=true∧a.l.size<=1000000000) (hlen:rs.length<=100000)
  (hl:(qao rs [] []).1.length<=12) (hnd:qg3 (qcu qbd (edR (qao rs [] []).1 (qao rs [] []).2))):Calls Tryz.prog 74 #[.int .i64 n,v] w (qm1 (qdn n rs) w):=by
 obtain ⟨A,c,rfl,hc,hc0⟩:=hx.val
 have hcon:=fun W (hW:Ext w W)=>build_c S n hn rs _ W ((RSl.good RAr.good).bel hx hW) hin hok hlen (by omega) (sortOK12 hl) (compOK_nd hnd)
 obtain ⟨s,hs⟩:∃ s,qdn n rs=s:=⟨_,rfl⟩
 have HS:=Hd hs
 clear hx hin hok hnd hs
 go_enter Tryz.func74,Tryz.ntmps74
 go_wp2_with fail
 refine (hcon _ bel).mono ?_
 rintro e w1 ⟨cs,rfl,hsy,hx1⟩
 rw [HS.out] at hsy
 obtain ⟨j1,v1,v2,rfl,hv1,hv2⟩:=id hsy
 obtain ⟨A1,c1,rfl,_,_⟩:=hv1.val
 obtain ⟨A2,c2,rfl,_,_⟩:=hv2.val
 have hB:qaf w1 w.heap.size 25 [.int .i64 0,.slice none 0 0,.slice none 0 0]:=(qaf.new w 25 _).ext hx1
 have r0:=hB.cell 0 _
 have r1:=hB.cell 1 _
 have r2:=hB.cell 2 _
 have rz0:=hB.frozen 0
 have rz1:=hB.frozen 1
 have rz2:=hB.frozen 2
 have hRl:=hB.lt
 have HB:=Hd hB
 have HSY:=Hd hsy
 have HX:Hid (Ext w w1):=((Ext.refl w).alloc _).trans' hx1
 clear hv1 hv2 hsy hB hx1 hcon
 go_wp2_with fail
 have hB3:=((HB.out.set 0 (.int .i64 s.n)).set 1 (.slice A1 s.ls.length c1)).set 2 (.slice A2 s.es.length c2)
 have sAll:Bt (fun q=>q=w.heap.size) w1 (((w1.setCell ⟨w.heap.size,0,none⟩ (.int .i64 s.n)).setCell ⟨w.heap.size,1,none⟩ (.slice A1 s.ls.length c1)).setCell ⟨w.heap.size,2,none⟩ (.slice A2 s.es.length c2)) :=
  Bt.set (Z:=fun q=>q=w.heap.size) (p:=⟨w.heap.size,2,none⟩) (Bt.set (Z:=fun q=>q=w.heap.size) (p:=⟨w.heap.size,1,none⟩) (Bt.set (Z:=fun q=>q=w.heap.size) (p:=⟨w.heap.size,0,none⟩) (Bt.refl _ _) (.inr rfl) _) (.inr rfl) _) (.inr rfl) _
 have hB4:=hB3.ext ((Ext.refl _).alloc (.cells #[.int .i64 s.n,.slice A1 s.ls.length c1,.slice A2 s.es.length c2] 25))
 refine bodyPost_ret (qu9 rfl _ _ w.heap.size _ _ _ rfl (hB4.cell 0 _) (hB4.cell 1 _) (hB4.cell 2 _)) rfl ⟨[.int .i64 s.n,.slice A1 s.ls.length c1,.slice A2 s.es.length c2],rfl,?_,(Bt.new HX.out sAll fun q _ h=>by omega).alloc _⟩
 rw [HS.out]
 refine RSy.good.mono (RSy.good.bel (RSy.good.move HSY.out (sAll.kp fun q _ h h'=>?_)) ((Ext.refl _).alloc _)) fun b _ h=>?_
 ·simp only [World.size_alloc] at h;omega
 ·simp only [World.size_alloc] at h;omega
end
section
set_option maxHeartbeats 1000000
set_option maxRecDepth 100000
/- The law's few,slight,small,light: walked. -/
open Go.Shelf
mutual
def visT:Tm->Int->Int->Bool×Int
 | .mk _ _ l,d,c=>if 0<=IntKind.i64.wrap (c-1)∧d<100 then (!(visL l (d+1) (IntKind.i64.wrap (c-1))).1,(visL l (d+1) (IntKind.i64.wrap (c-1))).2) else (false,IntKind.i64.wrap (c-1))
def visL:List Tm->Int->Int->Bool×Int
 | [],_,c=>(false,c)
 | t :: ts,d,c=>if !(visT t d c).1 then (true,(visT t d c).2) else visL ts d (visT t d c).2
end
theorem visT_eq (t:Tm) (d c:Int):visT t d c=if 0<=IntKind.i64.wrap (c-1)∧d<100 then (!(visL t.l (d+1) (IntKind.i64.wrap (c-1))).1,(visL t.l (d+1) (IntKind.i64.wrap (c-1))).2) else (false,IntKind.i64.wrap (c-1)):=by cases t;rw [visT];rfl
def qfb (d:Int) (c:Int) (t:Tm):Bool×Int:=(!(visT t d c).1,(visT t d c).2)
theorem qq1 (d:Int):∀ (l:List Tm) (c:Int),qcp (qfb d) c l=visL l d c
 | [],c=>by rw [visL];rfl
 | t :: ts,c=>by
  rw [qcp,visL,qq1 d ts]
  rfl
structure qdq (Bc Bf:Nat) (W0:World) (c:Int) (W:World):Prop where
 bt:Bt (fun q=>q=Bc) W0 W
 box:qaf W Bc 3 [.int .i64 c]
 i64:I64 c
 fn:W0.cell? ⟨Bf,0,none⟩=some (.func (.func 136) #[] #[.pointer (some ⟨Bc,0,none⟩),.pointer (some ⟨Bf,0,none⟩)])
 ne:Bf≠Bc
theorem qdq.ext {Bc Bf:Nat} {W0 W W':World} {c:Int} (h:qdq Bc Bf W0 c W) (he:Ext W W'):qdq Bc Bf W0 c W':=⟨h.bt.ext he,h.box.ext he,h.i64,h.fn,h.ne⟩
theorem qdq.fn' {Bc Bf:Nat} {W0 W:World} {c:Int} (h:qdq Bc Bf W0 c W):W.cell? ⟨Bf,0,none⟩=some (.func (.func 136) #[] #[.pointer (some ⟨Bc,0,none⟩),.pointer (some ⟨Bf,0,none⟩)]):=h.bt.cell h.fn h.ne
theorem wrap_i64 (n:Int):I64 (IntKind.i64.wrap n):=by unfold I64;simp [IntKind.wrap,IntKind.bits,IntKind.signed];omega
theorem eg138:∀ args w,(callFunc 138 args).run Tryz.prog w = .ok (.enter 138 args) w:=enters_of Tryz.func138 (by kernel_rfl) rfl
theorem eg139:∀ args w,(callFunc 139 args).run Tryz.prog w = .ok (.enter 139 args) w:=enters_of Tryz.func139 (by kernel_rfl) rfl
def VisC (t:Tm):Prop:=∀ (S:Nat->Prop) (Bc Bf:Nat) (W0 W:World) (cs:List Value) (d c:Int),RTm S W t cs->(∀ q,S q->q≠Bc)->0<=d->d<=100->qdq Bc Bf W0 c W ->
 Calls Tryz.prog 136 #[.agg cs.toArray,.int .i64 d,.pointer (some ⟨Bc,0,none⟩),.pointer (some ⟨Bf,0,none⟩)] W fun e w'=>e = .returned (.bool (visT t d c).1)∧qdq Bc Bf W0 (visT t d c).2 w'∧Bt (fun q=>q=Bc) W w'
theorem vis2_c (t:Tm) (ht:VisC t) (S:Nat->Prop) (Bc Bf Bd:Nat) (W0 W:World) (cs:List Value) (d c:Int) (hx:RTm S W t cs) (hS:∀ q,S q->q≠Bc) (hd0:0<=d) (hd1:d<100) (hI:qdq Bc Bf W0 c W) (hd:W.cell? ⟨Bd,0,none⟩=some (.int .i64 d)) :
  Calls Tryz.prog 138 #[.agg cs.toArray,.pointer (some ⟨Bf,0,none⟩),.pointer (some ⟨Bd,0,none⟩)] W fun e w'=>e = .returned (.bool (qfb (d+1) c t).1)∧qdq Bc Bf W0 (qfb (d+1) c t).2 w'∧Bt (fun q=>q=Bc) W w':=by
 obtain ⟨i1,i2,v,rfl,hv⟩:=(qaz ..).1 hx
 obtain ⟨A,k,rfl,_,_⟩:=hv.val
 have hrec:=fun W' (hW:Ext W W')=>ht S Bc Bf W0 W' _ (d+1) c (RTm.good.bel hx hW) hS (by omega) (by omega) (hI.ext hW)
 have f0:=hI.fn'
 have hBf:=World.block_lt_of_cell? W _ f0
 have hBd:=World.block_lt_of_cell? W _ hd
 unfold qfb
 obtain ⟨r,hr⟩:∃ r,visT t (d+1) c=r:=⟨_,rfl⟩
 rw [hr] at hrec ⊢
 obtain ⟨b,c'⟩:=r
 clear hx hv hI hr ht
 go_enter Tryz.func138,Tryz.ntmps138
 go_wp2_with fail
 refine (hrec _ bel).mono ?_
 rintro e w1 ⟨rfl,h1,hb1⟩
 have H1:=Hd h1
 have HB1:Hid (Bt (fun q=>q=Bc) W w1):=Bt.trans (by exact btt) hb1
 clear h1 hb1
 go_wp2_with fail
 go_ret
 exact ⟨rfl,H1.out,HB1.out⟩
theorem vis_of (t:Tm) (ht:∀ x∈t.l,VisC x):VisC t:=by
 intro S Bc Bf W0 w cs d c hx hS hd0 hd1 hI
 obtain ⟨i1,i2,v,rfl,hv⟩:=(qaz ..).1 hx
 obtain ⟨A,k,rfl,_,_⟩:=hv.val
 have q0:=hI.box.cell 0 _
 have qf:=hI.box.frozen 0
 have hBl:=hI.box.lt
 obtain ⟨c1,hc1⟩:∃ c1,IntKind.i64.wrap (c-1)=c1:=⟨_,rfl⟩
 have hi1:I64 c1:=hc1 ▸ wrap_i64 _
 have hvt:=visT_eq t d c
 rw [hc1] at hvt
 by_cases hcc:0<=c1∧d<100
 ·rw [if_pos hcc] at hvt
  have hB:∀ W,Ext w W->qdq Bc Bf W0 c1 (W.setCell ⟨Bc,0,none⟩ (.int .i64 c1)):=fun W hW=>⟨Bt.set (Z:=fun q=>q=Bc) (p:=⟨Bc,0,none⟩) (hI.bt.ext hW) (.inr rfl) _,(hI.box.ext hW).set 0 _,hi1,hI.fn,hI.ne⟩
  have hset:∀ W:World,Bt (fun q=>q=Bc) W (W.setCell ⟨Bc,0,none⟩ (.int .i64 c1)):=fun W=>Bt.set (Z:=fun q=>q=Bc) (p:=⟨Bc,0,none⟩) (Bt.refl _ _) (.inr rfl) _
  have hcon:=fun (W:World) (Bd:Nat) (hW:qdq Bc Bf W0 c1 W) (hl:qam S W t.l [.slice A t.l.length k]) (hdc:W.cell? ⟨Bd,0,none⟩=some (.int .i64 d)) (hdn:¬ Bd=Bc) =>
   conFTm (fun s W'=>qdq Bc Bf W0 s W'∧Bt (fun q=>q=Bc) W W') (qfb (d+1)) S W t.l _ hl 138 #[.pointer (some ⟨Bf,0,none⟩),.pointer (some ⟨Bd,0,none⟩)] eg138 (fun s W' h=>h.2.kp fun q _ hq=>hS q hq)
    (fun x hx s cs W' hs hr=>(vis2_c x (ht x hx) S Bc Bf Bd W0 W' cs d s hr hS hd0 hcc.2 hs.1 (hs.2.cell hdc hdn)).mono fun e w' h=>⟨h.1,h.2.1,hs.2.trans h.2.2⟩) c1 ⟨hW,Bt.refl _ _⟩
  rw [qq1] at hcon
  obtain ⟨r,hr⟩:∃ r,visL t.l (d+1) c1=r:=⟨_,rfl⟩
  rw [hr] at hcon hvt
  have HVT:=Hd hvt
  have hc3:=hcc.1
  have hc4:=hcc.2
  obtain ⟨Ws,hWs⟩:∃ Ws,w.setCell ⟨Bc,0,none⟩ (.int .i64 c1)=Ws:=⟨_,rfl⟩
  have hset:Bt (fun q=>q=Bc) w Ws:=by rw [<- hWs];exact Bt.set (Z:=fun q=>q=Bc) (p:=⟨Bc,0,none⟩) (Bt.refl _ _) (.inr rfl) _
  have hbs:qaf Ws Bc 3 [.int .i64 c1]:=by rw [<- hWs];exact hI.box.set 0 _
  have hss:Ws.heap.size=w.heap.size:=by rw [<- hWs];simp [World.setCell]
  obtain ⟨Wc,hWc,hc0,hc1',hXc,hsc⟩:=qlk Ws (.cells #[.int .i64 t.k,.int .i64 t.n,.slice A t.l.length k] 159) (.cells #[.int .i64 d] 3)
  have hbt:Bt (fun q=>q=Bc) w Wc:=hset.ext hXc
  have hC1:qdq Bc Bf W0 c1 Wc:=⟨hI.bt.trans hbt,hbs.ext hXc,hi1,hI.fn,hI.ne⟩
  have hl1:qam S Wc t.l [.slice A t.l.length k]:=qam.good.move hv (hbt.kp fun q _ hq=>hS q hq)
  have hBdl:qaf Wc (w.heap.size+1) 3 [.int .i64 d]:=by rw [<- hss];exact hc1'
  have hcc2:=hcon Wc (w.heap.size+1) hC1 hl1 (hBdl.cell 0 _) (by omega)
  have HBT:=Hd hbt
  have HWs:=Hd hWs
  have HWc:=Hd hWc
  clear hWs hWc
  clear hx hv hI hvt hr ht hcc hcon hset hbs hc0 hc1' hXc hC1 hl1 hBdl
  go_enter Tryz.func136,Tryz.ntmps136
  go_wp2_with fail
  rw [HWs.out,HWc.out]
  refine hcc2.mono ?_
  rintro e w5 ⟨rfl,h5,hb5⟩
  have H5:=Hd h5
  have HB5:=Hd hb5
  obtain ⟨rb,rc⟩:=r
  clear h5 hb5
  go_wp2_with fail
  go_ret
  exact ⟨by rw [HVT.out];rfl,by rw [HVT.out];exact H5.out,HBT.out.trans HB5.out⟩
 ·rw [if_neg hcc] at hvt
  have HVT:=Hd hvt
  have HI:=Hd hI
  have hset:Bt (fun q=>q=Bc) w (w.setCell ⟨Bc,0,none⟩ (.int .i64 c1)):=Bt.set (Z:=fun q=>q=Bc) (p:=⟨Bc,0,none⟩) (Bt.refl _ _) (.inr rfl) _
  have HF:Hid (∀ W,Ext (w.setCell ⟨Bc,0,none⟩ (.int .i64 c1)) W->qdq Bc Bf W0 c1 W∧Bt (fun q=>q=Bc) w W):=fun W hW=>⟨⟨(hI.bt.trans hset).ext hW,(hI.box.set 0 _).ext hW,hi1,hI.fn,hI.ne⟩,hset.ext hW⟩
  clear hx hv hI hvt ht hset
  by_cases h0:0<=c1
  ·have hd:¬ d<100:=fun h=>hcc ⟨h0,h⟩
   clear hcc
   go_enter Tryz.func136,Tryz.ntmps136
   go_wp2_with fail
   go_ret
   rw [HVT.out]
   exact ⟨rfl,HF.out _ bel⟩
  ·clear hcc
   go_enter Tryz.func136,Tryz.ntmps136
   go_wp2_with fail
   go_ret
   rw [HVT.out]
   exact ⟨rfl,HF.out _ bel⟩
theorem vis_c:∀ t,VisC t:=Tm.ind fun t ih=>vis_of t ih
end
section
set_option maxHeartbeats 1000000
set_option maxRecDepth 100000
/- The law's few,slight: walked. -/
open Go.Shelf
theorem few2_c (t:Tm) (S:Nat->Prop) (Bc Bf:Nat) (W0 W:World) (cs:List Value) (c:Int) (hx:RTm S W t cs) (hS:∀ q,S q->q≠Bc) (hI:qdq Bc Bf W0 c W) :
  Calls Tryz.prog 139 #[.agg cs.toArray,.pointer (some ⟨Bf,0,none⟩)] W fun e w'=>e = .returned (.bool (qfb 0 c t).1)∧qdq Bc Bf W0 (qfb 0 c t).2 w'∧Bt (fun q=>q=Bc) W w':=by
 obtain ⟨i1,i2,v,rfl,hv⟩:=(qaz ..).1 hx
 obtain ⟨A,k,rfl,_,_⟩:=hv.val
 have hrec:=fun W' (hW:Ext W W')=>vis_c t S Bc Bf W0 W' _ 0 c (RTm.good.bel hx hW) hS (by omega) (by omega) (hI.ext hW)
 have f0:=hI.fn'
 have hBf:=World.block_lt_of_cell? W _ f0
 unfold qfb
 obtain ⟨r,hr⟩:∃ r,visT t 0 c=r:=⟨_,rfl⟩
 rw [hr] at hrec ⊢
 obtain ⟨b,c'⟩:=r
 clear hx hv hI hr
 go_enter Tryz.func139,Tryz.ntmps139
 go_wp2_with fail
 refine (hrec _ bel).mono ?_
 rintro e w1 ⟨rfl,h1,hb1⟩
 have H1:=Hd h1
 have HB1:Hid (Bt (fun q=>q=Bc) W w1):=Bt.trans (by exact btt) hb1
 clear h1 hb1
 go_wp2_with fail
 go_ret
 exact ⟨rfl,H1.out,HB1.out⟩
def fewB (n:Int) (l:List Tm):Bool:=!(qcp (qfb 0) n l).1
theorem few_c (S:Nat->Prop) (n:Int) (hn:I64 n) (l:List Tm) (v:Value) (w:World) (hx:qam S w l [v]):Calls Tryz.prog 77 #[.int .i64 n,v] w fun e w'=>e = .returned (.bool (fewB n l))∧Ext w w':=by
 obtain ⟨A,k,rfl,_,_⟩:=hx.val
 have hx2:qam (fun q=>q<w.heap.size) w l [.slice A l.length k]:=qam.good.mono hx fun b hb _=>hb
 have hcon:∀ (Bc Bf:Nat) (W:World),Ext w W->Bc=w.heap.size->qdq Bc Bf W n W->Calls Tryz.prog 137 #[.slice A l.length k,.func (.func 139) #[] #[.pointer (some ⟨Bf,0,none⟩)]] W fun e w'=>e = .returned (.bool (qcp (qfb 0) n l).1)∧Bt (fun q=>q=Bc) W w':=fun Bc Bf W hW hB hI =>
  (conFTm (fun s W'=>qdq Bc Bf W s W'∧Bt (fun q=>q=Bc) W W') (qfb 0) (fun q=>q<w.heap.size) W l _ (qam.good.bel hx2 hW) 139 #[.pointer (some ⟨Bf,0,none⟩)] eg139 (fun s W' h=>h.2.kp fun q _ hq hz=>by omega)
   (fun x _ s cs W' hs hr=>(few2_c x _ Bc Bf W W' cs s hr (fun q hq=>by omega) hs.1).mono fun e w' h=>⟨h.1,h.2.1,hs.2.trans h.2.2⟩) n ⟨hI,Bt.refl _ _⟩).mono fun e w' h=>⟨h.1,h.2.2⟩
 obtain ⟨r,hr⟩:∃ r,(qcp (qfb 0) n l).1=r:=⟨_,rfl⟩
 rw [hr] at hcon
 have HFB:Hid (fewB n l = !r):=by show _=_;rw [<- hr];rfl
 clear hx hx2 hr
 go_enter Tryz.func77,Tryz.ntmps77
 go_wp2_with fail
 obtain ⟨W2,hW2,h20,h21,hX2,hs2⟩:=qlk w (.cells #[.int .i64 n] 3) (.cells #[.func (.func 136) #[] #[.pointer (some ⟨w.heap.size,0,none⟩),.pointer (some ⟨w.heap.size+1,0,none⟩)]] 179)
 rw [hW2]
 clear hW2
 have hI:qdq w.heap.size (w.heap.size+1) W2 n W2:=⟨Bt.refl _ _,h20,hn,qaf.cell (show qaf W2 (w.heap.size+1) 179 _ from h21) 0 _,by omega⟩
 refine (hcon _ _ W2 hX2 rfl hI).mono ?_
 rintro e w5 ⟨rfl,hb5⟩
 have HX:Hid (Ext w w5):=Bt.new hX2 hb5 fun q _ h=>by omega
 clear hb5 hI h20 h21 hX2 hcon
 go_wp2_with fail
 go_ret
 exact ⟨by rw [HFB.out];rfl,HX.out⟩
theorem pushN {α:Type} {R:Rdr α} {k:Nat} (hR:Good R k) (hk:0<k) (base:Nat) (e ts:TypeId) (z:Value) (bs:Nat) (hu:Tryz.prog.underlying ts=some (.slice e)) (hi:(Tryz.prog.info? e).map (fun i=>(i.zero,i.size,i.bytes))=some (some z,k,bs)) (hzs:z.cells.size=k) (hbs:bs<=1000)
  (T:Nat->Prop) (w:World) (xs ys:List α) (v u:Value) (hown:qab R k e base T w xs v) (hy:RSl R k (fun b=>T b∧v.ownBlock≠some b) w ys [u]) (hbase:base<=w.heap.size) (hl:xs.length+ys.length<=100000000) :
  ∃ A c w',(Builtin.append_ #[ts,ts] ts #[v,u]).run Tryz.prog w = .ok (.slice A (xs++ys).length c) w'∧qab R k e base T w' (xs++ys) (.slice A (xs++ys).length c)∧Bt (fun q=>v.ownBlock=some q) w w':=by
 obtain ⟨i,hi,hzz⟩:=Option.map_eq_some_iff.1 hi
 simp only [Prod.mk.injEq] at hzz
 obtain ⟨hz0,hz1,hz2⟩:=hzz
 obtain ⟨A,c,hv,hc,hc0,h⟩:=hy
 injection hv with hv
 subst hv
 rcases A with _ | a
 ·have hys:ys=[]:=by
   rcases h with h | ⟨b,off,h,_⟩
   ·exact h
   ·cases h
  subst hys
  obtain ⟨A',c',rfl,_,_⟩:=(hown.sl hR hk).val
  rw [List.append_nil]
  refine ⟨A',c',w,?_,hown,Bt.refl _ _⟩
  obtain ⟨news,hrow,_⟩:=hown
  rcases hrow.2 with ⟨h1,h2⟩ | ⟨g,cap,cur,h1,_,_,hnc,_⟩
  ·rw [h1]
   simp [Builtin.append_,run_underlying hu,sizeOf,typeInfo,hi,Builtin.lenOf,Builtin.firstCells]
  ·rw [h1]
   simp [Builtin.append_,run_underlying hu,sizeOf,typeInfo,hi,Builtin.lenOf,Builtin.firstCells,hnc,storeCells]
 ·obtain ⟨news,hrow,hF⟩:=hown
  obtain ⟨cs,hG,hcell⟩:∃ cs,Flat R k (fun b=>T b∧v.ownBlock≠some b) w ys cs∧∀ j u,cs[j]? = some u->w.cell? (a.add j)=some u:=by
   rcases h with rfl | ⟨b,off,ha,hb,hS,hr⟩
   ·exact ⟨[],rfl,fun j u h=>by simp at h⟩
   ·obtain ⟨cs,h1,h2⟩:=hr.flat
    injection ha with ha
    subst ha
    exact ⟨cs,h1,fun j u hj=>by rw [Addr.add_lit];exact h2 j u hj⟩
  obtain ⟨v',w',hr,h1,h2,_,h4⟩:=run_append_own_at (P:=Tryz.prog) w base ts ts e i z k bs hu hi hz0 hz1 hz2 hzs hk v xs.length news hrow a ys.length c cs hG.len hcell (hG.one hR)
   (by unfold maxLen;omega) (Nat.le_trans (Nat.mul_le_mul (show xs.length+ys.length<=100000000 from hl) hbs) (by decide)) hbase
  have hp:=qab.push hR hF hG h1 h2 h4
  obtain ⟨A',c',hv',_,_⟩:=(hp.sl hR hk).val
  subst hv'
  exact ⟨A',c',w',hr,hp,(Bt.of_grown h2).mono fun q _ h=>h.symm⟩
end
section
open Go.Shelf
theorem wpList_append_run {P:Program} {w w':World} {ops:Array Oper} {rest:List Oper} {o:Oper} {a:Act} {Q:Exit->Act->World->Prop} (hgd:o.guard=none) (s x:Operand) (t:TypeId)
  (ho:o.op = .call { callee:=.builtin .append,args:=#[s,x],argTypes:=#[t,t] }) (v u r:Value) (hs:a.eval s=v) (hx:a.eval x=u) (hr:(Builtin.append_ #[t,t] o.type #[v,u]).run P w = .ok r w')
  (h:wpList P ops Q rest (a.put o.dst r) w'):wpList P ops Q (o :: rest) a w:=by
 refine wpList_plain hgd fun K hK=>?_
 unfold Oper.wp execOp
 simp only [ho,resolve,invoke,builtin,Sem.run_bind,Sem.run_pure,Result.andThen_ok,List.map_toArray,List.map_cons,List.map_nil,hs,hx,hr]
 exact hK _ _ h
def qet (ls:List Lb):Bool:=!(ls.any fun x=>decide (20<x.v.length)) && (decide (ls.length<=100) && fewB 600 (ls.flatMap (·.v)))
theorem take_map {ls:List Lb} {k:Nat} (h:k<ls.length):(ls.take k).flatMap (·.v)++ls[k].v=(ls.take (k+1)).flatMap (·.v)∧(ls.take (k+1)).any (fun x=>decide (20<x.v.length))=((ls.take k).any (fun x=>decide (20<x.v.length)) || decide (20<ls[k].v.length)):=by
 rw [List.take_succ_eq_append_getElem h,List.flatMap_append,List.any_append]
 refine ⟨?_,?_⟩
 ·rw [List.flatMap_cons,List.flatMap_nil,List.append_nil]
 ·rw [List.any_cons,List.any_nil,Bool.or_false]
set_option maxHeartbeats 1000000 in
set_option maxRecDepth 100000 in
theorem qmm (S:Nat->Prop) (ls:List Lb) (v:Value) (w:World) (hx:qaa S w ls [v]) (hlen:ls.length<=4000000):Calls Tryz.prog 16 #[v] w fun e w'=>e = .returned (.bool (qet ls))∧Ext w w':=by
 obtain ⟨A,c,rfl,hc,hc0⟩:=hx.val
 have hx2:qaa (fun q=>q<w.heap.size) w ls [.slice A ls.length c]:=qaa.good.mono hx fun b hb _=>hb
 have HX:=Hd hx2
 clear hx hx2
 go_enter Tryz.func16,Tryz.ntmps16
 go_wp2_with fail
 go_loopw [3,8] (fun v3 vi wr=>∃ (k:Nat) (ys:List Tm) (Ao:Option Addr) (co:Nat),k<=ls.length∧vi = .int .i64 k∧v3 = .slice Ao ys.length co∧ys.length<=20*k∧Ext w wr∧Hid (qab RTm 3 159 w.heap.size (fun q=>q<w.heap.size) wr ys (.slice Ao ys.length co))∧Hid (ys=(ls.take k).flatMap (·.v)∧(ls.take k).any (fun x=>decide (20<x.v.length))=false)) (fun _ vi _=>ls.length-(intOf vi).toNat)
 case atStart=>exact ⟨0,[],none,0,Nat.zero_le _,rfl,rfl,by simp,Ext.refl _,qab.nil ..,by simp,by simp⟩
 case round =>
  obtain ⟨k,ys,Ao,co,hk,rfl,rfl,hyl,hE,hO,hY⟩:=hrel
  by_cases hlt:k<ls.length
  ·obtain ⟨b,off,cs,rfl,hb,hSb,hl,hr,hcell⟩:=(qaa.good.bel HX.out hE).get k hlt
   obtain ⟨j1,u,rfl,hu⟩:=id hr
   have a0:=hcell.get 0 _
   have a1:=hcell.get 1 _
   simp only [Nat.add_zero] at a0
   obtain ⟨Au,cu,rfl,hcu,hcu0⟩:=hu.val
   have HTM:=Hd (take_map hlt)
   have HIN:=Hd (List.getElem_mem hlt)
   obtain ⟨x,hxe⟩:∃ x,ls[k]=x:=⟨_,rfl⟩
   rw [hxe] at a0 a1 hu hcu HTM HIN
   by_cases h20:20<x.v.length
   ·have HV:Hid (qet ls=false):=by
     show _=_
     have:ls.any (fun x=>decide (20<x.v.length))=true:=List.any_eq_true.2 ⟨x,HIN.out,decide_eq_true h20⟩
     rw [qet,this]
     rfl
    clear hr hu hl hcell hSb hxe hO hY HTM HIN
    go_wp2_with fail
    go_ret
    exact ⟨by rw [HV.out];rfl,bel⟩
   ·have hEa:Ext wr (wr.alloc (.cells #[.int .i64 x.g,.slice Au x.v.length cu] 61)):=(Ext.refl wr).alloc _
    obtain ⟨A2,c2,w2,hr2,ho2,hb2⟩:=pushN RTm.good (by decide) w.heap.size 159 59 (.agg #[.int .i64 0,.int .i64 0,.slice none 0 0]) 40 Tryz.underlying59 qk8 rfl (by decide) (fun q=>q<w.heap.size) _ ys x.v (.slice Ao ys.length co) _ (hO.out.ext RTm.good hEa)
     ((RSl.good RTm.good).mono ((RSl.good RTm.good).bel hu hEa) fun b _ h=>⟨h,fun e=>by have:=(hO.out.own_lt e).1;omega⟩) (by have:=hE.size;simp;omega) (by omega)
    have HO2:=Hd ho2
    have hlo:∀ q,(Value.slice Ao ys.length co).ownBlock=some q->w.heap.size<=q:=fun q e=>(hO.out.own_lt e).1
    have HB2:Hid (Ext w w2):=Bt.new (hE.trans' hEa) hb2 fun q _ h=>hlo q h
    have hyl2:(ys++x.v).length<=20*(k+1):=by rw [List.length_append];omega
    have HY2:Hid (ys++x.v=(ls.take (k+1)).flatMap (·.v)∧(ls.take (k+1)).any (fun x=>decide (20<x.v.length))=false):=by
     refine ⟨?_,?_⟩
     ·rw [<- HTM.out.1,hY.out.1]
     ·rw [HTM.out.2,hY.out.2,decide_eq_false h20]
      rfl
    clear hr hu hl hcell hSb hxe hO ho2 hb2 hlo hY HTM HIN
    go_wp2_with (at_builtin;refine wpList_append_run rfl _ _ _ rfl _ _ _ rfl rfl hr2 ?_;clear hr2)
    go_roundw
    case rel=>exact ⟨k+1,ys++x.v,A2,c2,by omega,by go_num,by rw [List.length_append],hyl2,HB2.out,HO2.out,HY2.out⟩
    case measure=>simp [intOf];omega
  ·have hfew:=fun W (hW:Ext wr W)=>few_c _ 600 (by unfold I64;omega) ys _ W ((RSl.good RTm.good).bel (hO.out.sl RTm.good (by decide)) hW)
   have HV:Hid (qet ls=(decide (ls.length<=100) && fewB 600 ys)):=by
    show _=_
    have h1:=hY.out.1
    have h2:=hY.out.2
    rw [List.take_of_length_le (by omega)] at h1 h2
    rw [qet,h2,h1]
    rfl
   by_cases h100:ls.length<=100
   ·have HV2:Hid (qet ls=fewB 600 ys):=by
     show _=_
     rw [HV.out,decide_eq_true h100,Bool.true_and]
    clear hO hY HV
    go_wp2_with fail
    refine (hfew _ bel).mono ?_
    rintro e w5 ⟨rfl,h5⟩
    go_wp2_with fail
    go_ret
    exact ⟨by rw [HV2.out];rfl,bel⟩
   ·have HV2:Hid (qet ls=false):=by
     show _=_
     rw [HV.out,decide_eq_false h100,Bool.false_and]
    clear hO hY HV
    go_wp2_with fail
    go_ret
    exact ⟨by rw [HV2.out];rfl,bel⟩
end
end Go.Proofs.YtegenalcheooeaaGreat
