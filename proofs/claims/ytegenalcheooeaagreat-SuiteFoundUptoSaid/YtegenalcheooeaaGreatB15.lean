/- Of the proof of a law of the suites: Delete, Least, Cover, Mark, Covers1, VMap, LibITe, Fails. -/
import Derived.Test.YtegenalcheooeaaGreatB02
import Derived.Test.YtegenalcheooeaaGreatB03
import Derived.Test.YtegenalcheooeaaGreatB10
import Derived.Test.YtegenalcheooeaaGreatB12
import Derived.Test.YtegenalcheooeaaGreatB13
import Derived.Test.YtegenalcheooeaaGreatB14
set_option linter.unusedSectionVars false
set_option linter.unusedSimpArgs false
set_option linter.unusedVariables false
namespace Go.Proofs.YtegenalcheooeaaGreat
open Go.RowKit
attribute [local go_sem] cell?_exto
section

theorem qq9 {α:Type} (p:α->Bool):∀ l:List α,qa8 p l = -1->l.filter (fun x=>!p x)=l
 | [],_=>rfl
 | x :: l,h=>by
  have ih:=qq9 p l
  rw [qa8] at h
  split at h
  ·cases h
  ·rename_i hx
   rw [List.filter_cons,if_pos (by simpa using hx),ih (by split at h <;> omega)]
theorem qs1 {α:Type} (p:α->Bool):∀ l:List α,qa8 p l ≠ -1->∃ i,∃ h:i<l.length,qa8 p l=(i:Int)∧p l[i]=true∧(l.take i).filter (fun x=>!p x)=l.take i
 | [],h=>absurd rfl h
 | x :: l,h=>by
  rw [qa8] at h ⊢
  by_cases hx:p x=true
  ·rw [if_pos hx]
   exact ⟨0,by simp,rfl,hx,rfl⟩
  ·rw [if_neg hx] at h ⊢
   have hn:qa8 p l ≠ -1:=fun e=>by rw [e] at h;simp at h
   obtain ⟨i,hi,h1,h2,h3⟩:=qs1 p l hn
   refine ⟨i+1,by simpa using hi,?_,by simpa using h2,?_⟩
   ·rw [h1];split <;> omega
   ·rw [List.take_succ_cons,List.filter_cons,if_pos (by simpa using hx),h3]
section
variable {α:Type} (q:α->Bool)
def qd3 (l:List α) (m:Nat):List α:=(l.take m).filter q++l.drop ((l.take m).filter q).length
theorem filt_len (l:List α) (m:Nat):((l.take m).filter q).length<=m:=Nat.le_trans (List.length_filter_le _ _) (by rw [List.length_take];omega)
theorem qg6 (l:List α) (m:Nat):(qd3 q l m).length=l.length:=by
 have h:=List.length_filter_le q (l.take m)
 rw [List.length_take] at h
 rw [qd3,List.length_append,List.length_drop]
 omega
theorem filtY_at (l:List α) (m j:Nat) (hj:((l.take m).filter q).length<=j) (hl:j<l.length):(qd3 q l m)[j]'(by rw [qg6];exact hl)=l[j]:=by
 unfold qd3
 rw [List.getElem_append_right hj]
 simp only [List.getElem_drop]
 congr 1
 omega
theorem qr9 (l:List α) (m:Nat) (hm:m<l.length) (he:q l[m]=false):qd3 q l (m+1)=qd3 q l m∧(l.take (m+1)).filter q=(l.take m).filter q:=by
 have h:(l.take (m+1)).filter q=(l.take m).filter q:=by rw [List.take_succ_eq_append_getElem hm,List.filter_append];simp [he]
 exact ⟨by rw [qd3,h];rfl,h⟩
theorem filtY_put (l:List α) (m:Nat) (hm:m<l.length) (he:q l[m]=true) :
  qd3 q l (m+1)=(qd3 q l m).set ((l.take m).filter q).length l[m]∧(l.take (m+1)).filter q=(l.take m).filter q++[l[m]]:=by
 have h:(l.take (m+1)).filter q=(l.take m).filter q++[l[m]]:=by rw [List.take_succ_eq_append_getElem hm,List.filter_append];simp [he]
 have hi:=filt_len q l m
 refine ⟨?_,h⟩
 rw [qd3,qd3,h,List.set_append_right _ _ (Nat.le_refl _),Nat.sub_self,List.drop_eq_getElem_cons (show ((l.take m).filter q).length<l.length by omega),List.set_cons_zero,List.length_append,List.length_singleton,List.append_assoc]
 rfl
end
set_option maxHeartbeats 1000000 in
set_option maxRecDepth 100000 in
theorem quu (base:Nat) (T:Nat->Prop) (p:List Lb->Bool) (l:List (List Lb)) (v:Value) (B:Nat) (w:World) (hown:qab qaa 1 22 base T w l v) (hlen:l.length<=1000000000)
  (hp:∀ x∈l,∀ u W,Bt (fun b=>v.ownBlock=some b) w W->qaa (fun _=>True) W x [u]->Calls Tryz.prog 217 #[u,.pointer (some ⟨B,0,none⟩)] W fun e w'=>e = .returned (.bool (p x))∧Ext W w') :
  Calls Tryz.prog 215 #[v,.func (.func 217) #[] #[.pointer (some ⟨B,0,none⟩)]] w fun e w'=>∃ A c,e = .returned (.slice A (l.filter fun x=>!p x).length c)∧qab qaa 1 22 base T w' (l.filter fun x=>!p x) (.slice A (l.filter fun x=>!p x).length c)∧Bt (fun b=>v.ownBlock=some b) w w':=by
 have hidx:=idxPLbs p (fun _=>True) w l v ((RSl.good qaa.good).mono (hown.sl qaa.good (by decide)) fun _ _ _=>trivial) 217 #[.pointer (some ⟨B,0,none⟩)] eg217 (fun x hx cs W hW hr=>by
  obtain ⟨A,c,rfl,_⟩:=id hr
  exact hp x hx _ W hW.bt hr)
 by_cases hf:qa8 p l = -1
 ·have hc:Hid ((l.filter fun x=>!p x)=l):=qq9 p l hf
  rw [hf] at hidx
  obtain ⟨A,c,rfl,_,_⟩:=(hown.sl qaa.good (by decide)).val
  have HO:=Hd hown
  clear hown hf
  go_enter Tryz.func215,Tryz.ntmps215
  go_wp2_with fail
  refine hidx.mono ?_
  rintro e w1 ⟨rfl,h1⟩
  go_wp2_with fail
  go_ret
  rw [hc.out]
  exact ⟨A,c,rfl,HO.out.ext qaa.good h1,h1.bt⟩
 obtain ⟨k,hk,hf2,hpk,htk⟩:=qs1 p l hf
 rw [hf2] at hidx
 obtain ⟨g,cap,rfl⟩:∃ g cap,v = .slice (some ⟨g,0,none⟩) l.length cap:=by
  obtain ⟨news,h1,_⟩:=hown
  exact Joins.ownsRow_form h1 (by omega)
 have hcap:l.length<=cap∧cap<=9223372036854775807:=by
  obtain ⟨A,c,he,h3,h4⟩:=(hown.sl qaa.good (by decide)).val
  injection he with _ _ he
  exact ⟨by omega,by omega⟩
 have hZ:(fun b=>(Value.slice (some ⟨g,0,none⟩) l.length cap).ownBlock=some b)=fun b=>b=g:=by funext b;simp [Value.ownBlock,eq_comm]
 rw [hZ] at hp ⊢
 have HO:=Hd hown
 have HP:=Hd hp
 have hkb:((k:Int) == -1)=false:=beq_eq_false_iff_ne.2 (by omega)
 have hq1:(fun x=>!p x) l[k]=false:=by show (!p l[k])=false;rw [hpk];rfl
 have HQ1:=Hd hq1
 have HTK:=Hd htk
 clear hown hZ hf hf2 hp hpk hq1 htk
 go_enter Tryz.func215,Tryz.ntmps215
 go_wp2_with fail
 refine hidx.mono ?_
 rintro e w1 ⟨rfl,h1⟩
 go_wp2_with fail
 go_loopw [5,6] (fun vi vj wr=>∃ m i:Nat,k<m∧m<=l.length∧vi = .int .i64 (i:Nat)∧vj = .int .i64 (m:Nat)∧i<m∧Hid (((l.take m).filter fun x=>!p x).length=i∧qab qaa 1 22 base T wr (qd3 (fun x=>!p x) l m) (.slice (some ⟨g,0,none⟩) l.length cap))∧Bt (fun b=>b=g) w wr) (fun _ vj _=>l.length-(intOf vj).toNat)
 case atStart =>
  have h2:=qr9 (fun x=>!p x) l k hk HQ1.out
  have h3:qd3 (fun x=>!p x) l k=l:=by rw [qd3,HTK.out,List.length_take,Nat.min_eq_left (by omega),List.take_append_drop]
  refine ⟨k+1,k,by omega,by omega,rfl,by go_num,by omega,⟨?_,?_⟩,h1.bt⟩
  ·rw [h2.2,HTK.out,List.length_take,Nat.min_eq_left (by omega)]
  ·rw [h2.1,h3];exact HO.out.ext qaa.good h1
 case round =>
  obtain ⟨m,i,hm1,hm2,rfl,rfl,hi,hR,hB⟩:=hrel
  by_cases hlt:m<l.length
  ·have hlt4:i<l.length:=by omega
   obtain ⟨hci,hO3⟩:=hR.out
   obtain ⟨u1,a1,r1,_⟩:=hO3.get1 m (by rw [qg6];exact hlt)
   rw [filtY_at (fun x=>!p x) l m m (by omega) hlt] at r1
   have hcall:=HP.out _ (List.getElem_mem hlt) u1 wr hB (qaa.good.mono r1 fun _ _ _=>trivial)
   obtain ⟨A3,c3,rfl,_,_⟩:=r1.val
   by_cases hpm:p l[m]=true
   ·rw [hpm] at hcall
    have hsame:=Hd (qr9 (fun x=>!p x) l m hlt (by show (!p l[m])=false;rw [hpm];rfl))
    have HO3:=Hd hO3
    have HCI:=Hd hci
    clear hO3 r1 hci hR hpm
    go_wp2_with fail
    refine hcall.mono ?_
    rintro e w5 ⟨rfl,hx5⟩
    go_wp2_with fail
    go_roundw
    case rel =>
     refine ⟨m+1,i,by omega,by omega,rfl,by go_num,by omega,⟨?_,?_⟩,hB.ext hx5⟩
     ·rw [hsame.out.2];exact HCI.out
     ·rw [hsame.out.1];exact HO3.out.ext qaa.good hx5
    case measure=>simp [intOf];omega
   ·rw [eq_false_of_ne_true hpm] at hcall
    have hput:=Hd (filtY_put (fun x=>!p x) l m hlt (by show (!p l[m])=true;rw [eq_false_of_ne_true hpm];rfl))
    obtain ⟨u6,b6,_,f6⟩:=hO3.get1 i (by rw [qg6];omega)
    have HO3:=Hd hO3
    have HCI:=Hd hci
    have HR1:=Hd r1
    clear hO3 r1 hci hR hpm
    go_wp2_with fail
    refine hcall.mono ?_
    rintro e w5 ⟨rfl,hx5⟩
    have b5:=Ext.keep hx5 b6
    have f5:=qc6 hx5 (World.block_lt_of_cell? _ _ b6) f6
    clear b6 f6
    go_wp2_with fail
    go_roundw
    case rel =>
     have hput2:=qab.put1 qaa.good (HO3.out.ext qaa.good hx5) (by rw [qg6]) i (.slice A3 l[m].length c3) l[m] (by rw [qg6];omega) (qaa.good.bel HR1.out hx5)
     refine ⟨m+1,i+1,by omega,by omega,by go_num,by go_num,by omega,⟨?_,?_⟩,(hB.ext hx5).set (.inr rfl) _⟩
     ·rw [hput.out.2,List.length_append,HCI.out];rfl
     ·rw [hput.out.1,HCI.out];exact hput2
    case measure=>simp [intOf];omega
  ·obtain ⟨hci,hO3⟩:=hR.out
   have hkd:m=l.length:=by omega
   subst hkd
   rw [List.take_length] at hci
   have hcl:=Lib.run_clear_slice (P:=Tryz.prog) wr 30 22 0 (.slice none 0 0) Tryz.underlying30 (fun _=>by kernel_rfl) rfl rfl g i (l.length-i) (cap-i) (by omega) (fun j hj=>by
    obtain ⟨u,h1,_⟩:=hO3.get1 (i+j) (by rw [qg6];omega)
    rw [h1];rfl) (fun j hj=>by
    obtain ⟨u,_,_,h1⟩:=hO3.get1 (i+j) (by rw [qg6];omega)
    exact h1)
   have hcut:=Hd (hO3.cut qaa.good (by rw [qg6]) i (by omega) (List.replicate (l.length-i) (.slice none 0 0)) i (by omega))
   have hres:Hid ((l.filter fun x=>!p x)=(qd3 (fun x=>!p x) l l.length).take i):=by
    show _=_
    rw [qd3,List.take_length,List.take_append_of_le_length (by omega),<- hci,List.take_length]
   have HCI:=Hd hci
   clear hO3 hci hR
   go_wp2_with fail
   go_ret
   have hln:(l.filter fun x=>!p x).length=i:=HCI.out
   refine ⟨some ⟨g,0,none⟩,cap,by rw [hln];rfl,?_,hB.trans hcut.out.2⟩
   rw [hln,hres.out]
   exact hcut.out.1
end
section
open Go.Shelf
def leastOf (m:List (List Lb)):List (List Lb):=m.filter fun a=>!(m.any (qfg a))
def qez (l:List (List Lb)):List (List Lb):=leastOf (qcj (qb9 l))
theorem qmt (l:List (List Lb)):(qcj l).length<=l.length:=qly qch l
theorem qi8 (l:List (List Lb)):(qb9 l).length=l.length:=qki l
def SetsPost (P:Nat->Prop) (base:Nat) (r:List (List Lb)) (Z:Nat->Prop) (w:World) (e:Ending) (w':World):Prop :=
 ∃ A c,e = .returned (.slice A r.length c)∧qab qaa 1 22 base P w' r (.slice A r.length c)∧Bt Z w w'
theorem qab.own_lt {α:Type} {R:Rdr α} {k base:Nat} {e:TypeId} {T:Nat->Prop} {w:World} {xs:List α} {v:Value} (h:qab R k e base T w xs v) {b:Nat} (hb:v.ownBlock=some b):base<=b∧b<w.heap.size:=by
 obtain ⟨news,h1,_⟩:=h
 exact qb1 h1 b hb
theorem qsb {Z:Nat->Prop} {a b:World} {B:Nat} {t:TypeId} {v:Value} (h:Bt Z a b) (hb:Boxed a B t v) (hz:¬ Z B):Boxed b B t v:=(h.block B hb.lt hz).trans hb
set_option maxHeartbeats 1000000 in
set_option maxRecDepth 100000 in
theorem least_c (P:Nat->Prop) (base:Nat) (hP:∀ b,base<=b->P b) (l:List (List Lb)) (v:Value) (w:World) (hown:qab qaa 1 22 base P w l v) (hbase:base<=w.heap.size) (hlen:l.length<=1000000) (hel:∀ x∈l,x.length<=1000000) :
  Calls Tryz.prog 149 #[v] w (SetsPost P w.heap.size (qez l) (fun b=>v.ownBlock=some b) w):=by
 obtain ⟨A,c,rfl,hc,hc0⟩:=(hown.sl qaa.good (by decide)).val
 have hob:=fun b (hb:(Value.slice A l.length c).ownBlock=some b)=>hown.own_lt hb
 have hX0:Ext w (w.alloc (.cells #[.slice A l.length c] 30)):=(Ext.refl w).alloc _
 have hB0:=Boxed.new w 30 (.slice A l.length c)
 have hO0:=(hown.mono (T':=fun b=>P b∧b<w.heap.size) qaa.good fun b hb h=>⟨h,hb⟩).ext qaa.good hX0
 have hs:=qn4 base _ l _ _ hO0 (by omega)
 have hls:(qb9 l).length=l.length:=qi8 l
 have hlc:(qcj (qb9 l)).length<=1000000:=by have:=qmt (qb9 l);omega
 have HO0:=Hd hO0
 clear hown hO0
 go_enter Tryz.func149,Tryz.ntmps149
 go_wp2_with fail
 refine hs.mono ?_
 rintro e w1 ⟨rfl,ho1,hb1⟩
 have hB1:=qsb hb1 hB0 (fun e=>by have:=(hob _ e).2;omega)
 have hB1c:=hB1.cell
 have hc1:=qoo base _ (qb9 l) _ w1 ho1 (by omega)
 obtain ⟨m,hm⟩:∃ m,qcj (qb9 l)=m:=⟨_,rfl⟩
 have hval:Hid (qez l=leastOf m):=by show _=_;rw [qez,hm]
 have hmm:∀ x∈m,x.length<=1000000:=fun x hx=>hel x ((qgk l x).1 (qi6 qch _ x (by rw [<- hm] at hx;exact hx)))
 rw [hm] at hc1 hlc
 clear hm
 go_wp2_with fail
 refine hc1.mono ?_
 rintro e w2 ⟨A2,c2,rfl,ho2,hb2⟩
 have hB2:=qsb hb2 hB1 (fun e=>by have:=(hob _ e).2;omega)
 have hB2c:=hB2.cell
 have hB2f:=hB2.frozen
 have hz2:w.heap.size+1<=w2.heap.size:=by have h1:=hb1.size;have h2:=hb2.size;simp at h1;omega
 obtain ⟨W3,hW3⟩:∃ W3,w2.setCell ⟨w.heap.size,0,none⟩ (.slice A2 m.length c2)=W3:=⟨_,rfl⟩
 have hB3:Boxed W3 w.heap.size 30 (.slice A2 m.length c2):=by rw [<- hW3];exact hB2.set _
 have hs3:W3.heap.size=w2.heap.size:=by rw [<- hW3];simp
 have hb3:Bt (fun b=>b=w.heap.size) w2 W3:=by rw [<- hW3];exact (Bt.refl (fun b=>b=w.heap.size) w2).set (p:=⟨w.heap.size,0,none⟩) (.inr rfl) _
 have hno2:(Value.slice A2 m.length c2).ownBlock≠some w.heap.size:=fun e=>by
  obtain ⟨news,h1,_⟩:=ho2
  exact hB2.not_row (by decide) h1 e.symm
 have ho3:qab qaa 1 22 base (fun b=>P b∧b<w.heap.size) W3 m (.slice A2 m.length c2):=ho2.bt qaa.good hb3 fun b _ hz=>by
  have hz':b=w.heap.size:=hz
  subst hz'
  exact ⟨fun h=>Nat.lt_irrefl _ h.2,hno2⟩
 have hr3:RSl qaa 1 (fun b=>P b∧b<W3.heap.size) W3 m [.slice A2 m.length c2]:=(RSl.good qaa.good).mono (ho3.sl qaa.good (by decide)) fun b hb h=>⟨h.elim (fun h=>h.1) (hP b),hb⟩
 have hcl:=cloneLbs _ m _ W3 hr3 (by omega)
 have hB3c:=hB3.cell
 clear ho2 hB1c hs hc1
 go_wp2_with fail
 clear hW3
 refine hcl.mono ?_
 rintro e w4 ⟨v4,rfl,ho4,hx4⟩
 obtain ⟨A4,c4,rfl,_,_⟩:=(ho4.sl qaa.good (by decide)).val
 have ho4b:=fun b hb=>(ho4.own_lt (b:=b) hb).1
 have hd:=quu W3.heap.size _ (fun a=>m.any (qfg a)) m (.slice A4 m.length c4) w.heap.size w4 ho4 (by omega) fun x hx u W hb hr=>by
  have hk:Kp (fun b=>b<W3.heap.size) W3 W:=(Ext.kp hx4).trans (hb.kp fun b _ h e=>by have:=ho4b b e;omega)
  refine least1_c (fun _=>True) x m u (.slice A2 m.length c2) w.heap.size W hr ((RSl.good qaa.good).mono ((RSl.good qaa.good).move ((RSl.good qaa.good).mono hr3 (S':=fun b=>b<W3.heap.size) fun b hb _=>hb) hk) fun _ _ _=>trivial) (Nat.le_trans (hmm x hx) (by decide)) ?_
  exact (World.cell?_of_block (a:=⟨w.heap.size,0,none⟩) (hk.block _ hB3.lt hB3.lt)).trans hB3.cell
 clear hcl
 go_wp2_with fail
 refine hd.mono ?_
 rintro e w5 ⟨A5,c5,rfl,ho5,hb5⟩
 have HO5:=Hd ho5
 clear ho5 hd
 go_wp2_with fail
 go_ret
 have hXX:Bt (fun b=>(Value.slice A l.length c).ownBlock=some b) w w5:=by
  have h0:Bt (fun b=>(Value.slice A l.length c).ownBlock=some b∨w.heap.size<=b) w w5 :=
   (((((hX0.bt.trans (hb1.mono fun b _ h=>.inl h)).trans (hb2.mono fun b _ h=>.inl h)).trans (hb3.mono fun b _ h=>.inr (Nat.le_of_eq (Eq.symm h)))).trans hx4.bt).trans (hb5.mono fun b _ h=>.inr (by have:=ho4b b h;omega)))
  exact h0.mono fun b hb h=>h.resolve_right (by omega)
 refine ⟨A5,c5,?_,?_,hXX⟩
 ·rw [hval.out];rfl
 ·rw [hval.out]
  exact (HO5.out.mono qaa.good fun _ _ h=>h.1).base (by omega)
end
section
open Go.Shelf
theorem qqp {fn:Func} {p:Tmp} (h:fn.results = #[.cell p 145]) (tmps:Array Value) (w:World) (g:Nat) (v u:Value) (hp:tmps.getD p undef = .pointer (some ⟨g,0,none⟩)) (h0:w.cell? ⟨g,0,none⟩=some v) (h1:w.cell? ⟨g,1,none⟩=some u) :
  (results fn tmps).run Tryz.prog w = .ok (.agg #[v,u]) w:=by
 have hp':tmps[p]?.getD undef = .pointer (some ⟨g,0,none⟩):=by simpa using hp
 simp [results,h,hp',asAddr,go_sem,h0,h1]
abbrev RBs (base:Nat) (w:World) (bs:List Bool) (v:Value):Prop:=qab qae 1 4 base (fun _=>False) w bs v
theorem info4:(Tryz.prog.info? 4).map (fun i=>(i.zero,i.size,i.bytes))=some (some (.bool false),1,1):=by kernel_rfl
theorem quz (n:Nat):madeCells (Value.bool false).cells (n*1)=Array.replicate n (.bool false):=by
 rw [Nat.mul_one]
 apply Array.ext
 ·simp [size_madeCells]
 ·intro i h1 h2
  have:i % 1=0:=Nat.mod_one i
  simp [madeCells,Value.cells,this]
theorem qhy (W:World) (n:Nat) (hn:n<=1000000) :
  (Instr.makeSlice 73 (.int .i64 (n:Int)) (.int .i64 (n:Int))).run Tryz.prog W = .ok (.slice (some ⟨W.heap.size,0,none⟩) n n) (W.alloc (.cells (Array.replicate n (.bool false)) 4)):=by
 obtain ⟨i,hi,hz⟩:=Option.map_eq_some_iff.1 info4
 simp only [Prod.mk.injEq] at hz
 obtain ⟨h1,h2,h3⟩:=hz
 have h:=run_makeSlice (P:=Tryz.prog) (w:=W) 73 4 i (.bool false) Tryz.underlying73 hi h1 .i64 .i64 n n (by omega) (Int.le_refl _) (by rw [h2];simp;omega) (by rw [h3];omega) (by omega)
 rw [h2] at h
 simp only [Int.toNat_natCast,quz] at h
 exact h
theorem qof (S:Nat->Prop) (w:World):∀ bs:List Bool,Flat qae 1 S w bs (bs.map Value.bool)
 | []=>rfl
 | b :: bs=>⟨[.bool b],_,rfl,rfl,rfl,qof S w bs⟩
theorem qgw (W:World) (base n:Nat) (hb:base<=W.heap.size) (hn:n<=1000000):RBs base (W.alloc (.cells (Array.replicate n (.bool false)) 4)) (List.replicate n false) (.slice (some ⟨W.heap.size,0,none⟩) n n):=by
 refine ⟨(List.replicate n false).map Value.bool,?_,qof ..⟩
 have h:=World.ownsRow_lit (base:=base) (e:=4) (size:=1) W (Array.replicate n (.bool false)) n hb (by unfold maxLen;omega) (by simp)
 simpa using h
def qod (n1 n2:Nat) (w:World) (e:Ending) (w':World):Prop:=∃ v1 v2,e = .returned (.agg #[v1,v2])∧RBs w.heap.size w' (List.replicate n1 false) v1∧RBs w.heap.size w' (List.replicate n2 false) v2∧(∀ q,v1.ownBlock=some q->v2.ownBlock≠some q)∧Ext w w'
theorem cov_fin1 {fn:Func} {tmps:Array Value} {w:World} {n1 n2:Nat} (h:fn.results = #[.cell 2 145]) (hp:tmps.getD 2 undef = .pointer (some ⟨w.heap.size,0,none⟩)) (h1:n1<=1000000) (h2:n2<=1000000) :
  bodyPost Tryz.prog fn (qod n1 n2 w) .ret { tmps:=tmps,defers:=[] } ((((w.alloc (.cells #[.slice (some ⟨w.heap.size+1,0,none⟩) n1 n1,.slice (some ⟨w.heap.size+1+1,0,none⟩) n2 n2] 145)).alloc (.cells (Array.replicate n1 (.bool false)) 4)).alloc (.cells (Array.replicate n2 (.bool false)) 4)).drew):=by
 refine bodyPost_ret (qqp h _ _ w.heap.size (.slice (some ⟨w.heap.size+1,0,none⟩) n1 n1) (.slice (some ⟨w.heap.size+1+1,0,none⟩) n2 n2) hp (by go_simp) (by go_simp)) rfl ?_
 obtain ⟨C,hC⟩:∃ C,Obj.cells #[.slice (some ⟨w.heap.size+1,0,none⟩) n1 n1,.slice (some ⟨w.heap.size+1+1,0,none⟩) n2 n2] 145=C:=⟨_,rfl⟩
 rw [hC]
 have r1:=qgw (w.alloc C) w.heap.size n1 (by simp) h1
 have r2:=qgw ((w.alloc C).alloc (.cells (Array.replicate n1 (.bool false)) 4)) w.heap.size n2 (by simp;omega) h2
 rw [World.size_alloc] at r1 r2
 rw [World.size_alloc] at r2
 exact ⟨_,_,rfl,r1.ext qae.good (Below.drew ((Ext.refl _).alloc _)),r2.ext qae.good (Below.drew (Ext.refl _)),fun q e e'=>by simp [Value.ownBlock] at e e';omega,Below.drew ((((Ext.refl _).alloc _).alloc _).alloc _)⟩
theorem cov_fin2 {fn:Func} {tmps:Array Value} {w:World} {n1 n2:Nat} (h:fn.results = #[.cell 2 145]) (hp:tmps.getD 2 undef = .pointer (some ⟨w.heap.size,0,none⟩)) (h1:n1<=1000000) (h2:n2<=1000000) :
  bodyPost Tryz.prog fn (qod n1 n2 w) .ret { tmps:=tmps,defers:=[] } ((((w.alloc (.cells #[.slice (some ⟨w.heap.size+1+1,0,none⟩) n1 n1,.slice (some ⟨w.heap.size+1,0,none⟩) n2 n2] 145)).alloc (.cells (Array.replicate n2 (.bool false)) 4)).alloc (.cells (Array.replicate n1 (.bool false)) 4)).drew):=by
 refine bodyPost_ret (qqp h _ _ w.heap.size (.slice (some ⟨w.heap.size+1+1,0,none⟩) n1 n1) (.slice (some ⟨w.heap.size+1,0,none⟩) n2 n2) hp (by go_simp) (by go_simp)) rfl ?_
 obtain ⟨C,hC⟩:∃ C,Obj.cells #[.slice (some ⟨w.heap.size+1+1,0,none⟩) n1 n1,.slice (some ⟨w.heap.size+1,0,none⟩) n2 n2] 145=C:=⟨_,rfl⟩
 rw [hC]
 have r1:=qgw (w.alloc C) w.heap.size n2 (by simp) h2
 have r2:=qgw ((w.alloc C).alloc (.cells (Array.replicate n2 (.bool false)) 4)) w.heap.size n1 (by simp;omega) h1
 rw [World.size_alloc] at r1 r2
 rw [World.size_alloc] at r2
 exact ⟨_,_,rfl,r2.ext qae.good (Below.drew (Ext.refl _)),r1.ext qae.good (Below.drew ((Ext.refl _).alloc _)),fun q e e'=>by simp [Value.ownBlock] at e e';omega,Below.drew ((((Ext.refl _).alloc _).alloc _).alloc _)⟩
set_option maxHeartbeats 1000000 in
set_option maxRecDepth 100000 in
theorem qo1 (S:Nat->Prop) (s:Sy) (g:Nat) (w:World) (hS:qav S w g s) (hl:s.ls.length<=1000000) (he:s.es.length<=1000000) :
  Calls Tryz.prog 112 #[.pointer (some ⟨g,0,none⟩)] w (qod s.ls.length s.es.length w):=by
 obtain ⟨v,u,m,f,hg,hL,hE,hZg,hZm,hM,hno,hrow⟩:=hS.ex
 obtain ⟨Al,cl,rfl,_,_⟩:=hL.val
 obtain ⟨Ae,ce,rfl,_,_⟩:=hE.val
 have hglt:=(Array.getElem?_eq_some_iff.1 hg).1
 have g1:w.cell? ⟨g,1,none⟩=some (.slice Al s.ls.length cl):=cell_of_row w g 1 _ _ _ hg
 have g2:w.cell? ⟨g,2,none⟩=some (.slice Ae s.es.length ce):=cell_of_row w g 2 _ _ _ hg
 clear hS hL hE hM hrow hno hg
 have hm1:=fun W=>qhy W s.ls.length hl
 have hm2:=fun W=>qhy W s.es.length he
 go_enter Tryz.func112,Tryz.ntmps112
 go_wp2_with fail
 go_region_with (fail)
 all_goals go_wp2_with fail
 all_goals first
  | exact cov_fin1 rfl rfl hl he
  | exact cov_fin2 rfl rfl hl he
end
section
open Go.Shelf
def qfo (s:Sy) (x:Lb) (bs:List Bool):List Bool:=if qc5 x s.ls=true then bs.set (qcg s.ls x) true else bs
theorem qr4 (s:Sy) (x:Lb) (bs:List Bool):(qfo s x bs).length=bs.length:=by unfold qfo;split <;> simp
theorem inLb_lt {s:Sy} {x:Lb} (h:qc5 x s.ls=true):qcg s.ls x<s.ls.length:=by
 by_cases hl:qcg s.ls x<s.ls.length
 ·exact hl
 ·rw [qc5,qmp hl] at h;cases h
set_option maxHeartbeats 1000000 in
set_option maxRecDepth 100000 in
theorem mark_c (S:Nat->Prop) (s:Sy) (g:Nat) (x:Lb) (bs:List Bool) (base:Nat) (v1 v2:Value) (cx:List Value) (w:World) (hS:qav S w g s) (hx:RLb S w x cx) (hr:RBs base w bs v1) (h2:∃ A n c,v2 = .slice A n c) (hlen:bs.length=s.ls.length) (hl:s.ls.length<=1000000) :
  Calls Tryz.prog 174 #[.pointer (some ⟨g,0,none⟩),.agg #[v1,v2],.agg cx.toArray] w fun e w'=>e = .returned (.tuple #[])∧RBs base w' (qfo s x bs) v1∧Bt (fun q=>v1.ownBlock=some q) w w':=by
 obtain ⟨v,u,m,f,hg,hL,hE,hZg,hZm,hM,hno,hrow⟩:=hS.ex
 have hcon:=fun W (hW:Ext w W)=>qnj S s.ls x v cx W (qaa.good.bel hL hW) (RLb.good.bel hx hW) (by omega)
 obtain ⟨Al,cl,rfl,_,_⟩:=hL.val
 obtain ⟨_,vx,rfl,hvx⟩:=id hx
 obtain ⟨Ax,cx,rfl,_,_⟩:=hvx.val
 obtain ⟨A2,n2,c2,rfl⟩:=h2
 obtain ⟨A1,c1,rfl,_,_⟩:=(hr.sl qae.good (by decide)).val
 have hglt:=(Array.getElem?_eq_some_iff.1 hg).1
 have g1:w.cell? ⟨g,1,none⟩=some (.slice Al s.ls.length cl):=cell_of_row w g 1 _ _ _ hg
 have HR:=Hd hr
 have hob:∀ q,(Value.slice A1 bs.length c1).ownBlock=some q->base<=q∧q<w.heap.size:=fun q hq=>by obtain ⟨news,h2,_⟩:=hr;exact qb1 h2 q hq
 have HLN:=Hd hlen
 clear hS hL hE hM hrow hno hg hx hvx hr hlen
 cases hin:qc5 x s.ls with
 | false =>
  rw [hin] at hcon
  have HV:=Hd (show qfo s x bs=bs from by unfold qfo;rw [hin];rfl)
  clear hin
  go_enter Tryz.func174,Tryz.ntmps174
  go_wp2_with fail
  obtain ⟨W,hW⟩:∃ W,(w.alloc (.cells #[.slice A1 bs.length c1,.slice A2 n2 c2] 145)).alloc (.cells #[.int .i64 x.g,.slice Ax x.v.length cx] 61)=W:=⟨_,rfl⟩
  have hXW:Ext w W:=by rw [<- hW];exact ((Ext.refl w).alloc _).alloc _
  have y1:=Ext.keep hXW g1
  have y2:W.cell? ⟨w.heap.size+1,0,none⟩=some (.int .i64 x.g):=by subst hW;go_simp
  have y3:W.cell? ⟨w.heap.size+1,1,none⟩=some (.slice Ax x.v.length cx):=by subst hW;go_simp
  have y4:W.cell? ⟨w.heap.size,0,none⟩=some (.slice A1 bs.length c1):=by subst hW;go_simp
  rw [hW]
  clear hW
  (refine qa1 ?_;(repeat (first | go_big_quiet_step (exact qap (hcon _ (Ext.trans' hXW (qa5 _ _)))) | quiet_step (exact qap (hcon _ (Ext.trans' hXW (qa5 _ _))))));refine wpQuiet_nil ?_)
  intro w3 hx3
  have hX3:Ext w w3:=hXW.trans' hx3
  go_wp2_with fail
  go_end0
  rw [HV.out]
  exact ⟨rfl,HR.out.ext qae.good hX3,hX3.bt⟩
 | true =>
  have hlt:=inLb_lt hin
  rw [<- HLN.out] at hlt
  rw [hin] at hcon
  have HV:=Hd (show qfo s x bs=bs.set (qcg s.ls x) true from by unfold qfo;rw [hin];rfl)
  obtain ⟨i,hi⟩:∃ i,qcg s.ls x=i:=⟨_,rfl⟩
  rw [hi] at hcon hlt HV
  clear hin hi
  obtain ⟨news,hrow,_⟩:=id HR.out
  obtain ⟨gb,cap,he⟩:=Joins.ownsRow_form hrow (by omega)
  injection he with he1 _ he2
  subst he1
  obtain rfl:=he2
  obtain ⟨u,gc,hu,gf⟩:=HR.out.get1 i (by omega)
  obtain rfl:u = .bool bs[i]:=by simpa [qae] using hu
  have hgb:=hob gb rfl
  clear hrow hu
  go_enter Tryz.func174,Tryz.ntmps174
  go_wp2_with fail
  obtain ⟨W,hW⟩:∃ W,(w.alloc (.cells #[.slice (some ⟨gb,0,none⟩) bs.length c1,.slice A2 n2 c2] 145)).alloc (.cells #[.int .i64 x.g,.slice Ax x.v.length cx] 61)=W:=⟨_,rfl⟩
  have hXW:Ext w W:=by rw [<- hW];exact ((Ext.refl w).alloc _).alloc _
  have y1:=Ext.keep hXW g1
  have y2:W.cell? ⟨w.heap.size+1,0,none⟩=some (.int .i64 x.g):=by subst hW;go_simp
  have y3:W.cell? ⟨w.heap.size+1,1,none⟩=some (.slice Ax x.v.length cx):=by subst hW;go_simp
  have y4:W.cell? ⟨w.heap.size,0,none⟩=some (.slice (some ⟨gb,0,none⟩) bs.length c1):=by subst hW;go_simp
  rw [hW]
  clear hW
  (refine qa1 ?_;(repeat (first | go_big_quiet_step (exact qap (hcon _ (Ext.trans' hXW (qa5 _ _)))) | quiet_step (exact qap (hcon _ (Ext.trans' hXW (qa5 _ _))))));refine wpQuiet_nil ?_)
  intro w3 hx3
  have hX3:Ext w w3:=hXW.trans' hx3
  have b0:w3.cell? ⟨w.heap.size,0,none⟩=some (.slice (some ⟨gb,0,none⟩) bs.length c1):=Ext.keep hx3 y4
  have gc3:=Ext.keep hX3 gc
  have gf3:=qc6 hX3 (World.block_lt_of_cell? w _ gc) gf
  go_wp2_with fail
  go_end0
  rw [HV.out]
  refine ⟨rfl,?_,Bt.set (Z:=fun q=>(Value.slice (some ⟨gb,0,none⟩) bs.length c1).ownBlock=some q) (p:=⟨gb,i,none⟩) hX3.bt (.inr rfl) _⟩
  have hp:=qab.put1 qae.good (HR.out.ext qae.good hX3) rfl i (.bool true) true (by omega) rfl
  exact hp
end
section
open Go.Shelf
theorem qp4 {P:Program} {md:Region.Mode} {ops:Array Oper} {Q:Exit->Act->World->Prop} (l n:Nat) (hd:qi2 ops=true) (hno:¬ LetsOut Q):∀ (fuel:Nat) (listed:Array Bool) (a:Act) (w:World),
  wpAny P md ops Q fuel listed a w->wpAnyIn (Fence.wide.inRound l) n P md ops Q fuel listed a w
 | 0,_,_,_,h=>h
 | fuel+1,listed,a,w,h=>⟨h.1,fun i hi=>by
  have hh:=wpOp_mono (fun a' w' h'=>qp4 l n hd hno fuel _ a' w' h') (h.2 i hi)
  unfold wpOp at hh
  unfold wpOpIn
  cases ho:ops[i]? with
  | none =>
   simp only [ho] at hh ⊢
   exact hh
  | some o =>
   simp only [ho] at hh ⊢
   split
   ·rename_i hw'
    simp only [hw',if_true] at hh
    exact qr8 l n (qps hd ho) (hh.resolve_right fun h=>hno h.2)
   ·rename_i hw'
    simp only [hw'] at hh
    exact ⟨fun _ _=>trivial,hh⟩⟩
theorem qot {P:Program} {l n id:Nat} {Q:Exit->Act->World->Prop} {a:Act} {w:World} {ls:List Oper} (S:World->Prop) (hm:P.follows .mixedOrders=true) (hd:qi2 ls.toArray=true) (hno:¬ LetsOut Q) (hS:S w.drew)
  (h:S w.drew->wpAnyH P .any ls.toArray Q S ls.toArray.size (Array.replicate ls.toArray.size false) a w.drew):(Code.region id ls.toArray true).wpIn (Fence.wide.inRound l) n P Q a w :=
 wpIn_region_any hm (qp4 l n hd hno _ _ _ _ (wpAny_of_held _ _ _ _ (h hS)))
structure Cv where
 l:List Bool
 e:List Bool
def qhj (s:Sy) (tr:List Lb) (k:Nat) (l:Int):Bool:=qem s l fun y=>decide (y.g = -1) || (match tr[k]? with
 | some x=>qa0 y.g && decide (qan y x=0)
 | none=>false)
def qf0 (s:Sy) (tr:List Lb) (k:Nat) (es:List Bool) (j:Fin s.es.length):List Bool:=if qhj s tr k s.es[j].l=true then es.set j.1 true else es
def qds (s:Sy) (tr:List Lb) (k:Nat) (js:List (Fin s.es.length)) (es:List Bool):List Bool:=js.foldl (qf0 s tr k) es
def qb8 (s:Sy) (tr:List Lb) (k:Nat) (sts:List Int) (es:List Bool):List Bool:=sts.foldl (fun es st=>qds s tr k (qaw s.es st) es) es
def qca (s:Sy) (tr:List Lb) (k:Nat) (ls:List Bool):List Bool:=if k=0 then ls else match tr[k-1]? with
 | some x=>qfo s x ls
 | none=>ls
def qfl (s:Sy) (mu:List Lb) (ls:List Bool):List Bool:=mu.foldl (fun ls x=>qfo s x ls) ls
def cvMu (s:Sy) (t:Te) (k:Nat) (ls:List Bool):List Bool:=if k=t.tr.length then qfl s t.mu ls else ls
def qhe (s:Sy) (t:Te) (k:Nat) (c:Cv):Cv:=⟨cvMu s t k (qca s t.tr k c.l),qb8 s t.tr k (qal s (t.tr.take k)) c.e⟩
def cvGo (s:Sy) (t:Te):Nat->Nat->Cv->Cv
 | 0,_,c=>c
 | f+1,k,c=>if qal s (t.tr.take k)=[] then c else cvGo s t f (k+1) (qhe s t k c)
def qd8 (s:Sy) (t:Te) (c:Cv):Cv:=cvGo s t (t.tr.length+1) 0 c
def qas (s:Sy) (t:Te) (c:Cv):Nat->Cv
 | 0=>c
 | k+1=>qhe s t k (qas s t c k)
theorem cvOne_len (s:Sy) (tr:List Lb) (k:Nat) (es:List Bool) (j:Fin s.es.length):(qf0 s tr k es j).length=es.length:=by unfold qf0;split <;> simp
theorem qkw (s:Sy) (tr:List Lb) (k:Nat):∀ (js:List (Fin s.es.length)) (es:List Bool),(qds s tr k js es).length=es.length
 | [],_=>rfl
 | j :: js,es=>(qkw s tr k js _).trans (cvOne_len s tr k es j)
theorem qqc (s:Sy) (tr:List Lb) (k:Nat) (js:List (Fin s.es.length)) (j:Fin s.es.length) (es:List Bool):qds s tr k (js++[j]) es=qf0 s tr k (qds s tr k js es) j:=by simp [qds]
theorem qkv (s:Sy) (tr:List Lb) (k:Nat):∀ (sts:List Int) (es:List Bool),(qb8 s tr k sts es).length=es.length
 | [],_=>rfl
 | st :: sts,es=>(qkv s tr k sts _).trans (qkw s tr k _ es)
theorem qrq (s:Sy) (tr:List Lb) (k:Nat) (sts:List Int) (st:Int) (es:List Bool):qb8 s tr k (sts++[st]) es=qds s tr k (qaw s.es st) (qb8 s tr k sts es):=by simp [qb8]
theorem qj5 (s:Sy) (tr:List Lb) (k:Nat) (ls:List Bool):(qca s tr k ls).length=ls.length:=by
 unfold qca
 split
 ·rfl
 ·split
  ·exact qr4 ..
  ·rfl
theorem qlt (s:Sy):∀ (mu:List Lb) (ls:List Bool),(qfl s mu ls).length=ls.length
 | [],_=>rfl
 | x :: mu,ls=>(qlt s mu _).trans (qr4 s x ls)
theorem qrm (s:Sy) (mu:List Lb) (x:Lb) (ls:List Bool):qfl s (mu++[x]) ls=qfo s x (qfl s mu ls):=by simp [qfl]
theorem qo3 (s:Sy) (t:Te) (k:Nat) (c:Cv):(qhe s t k c).l.length=c.l.length∧(qhe s t k c).e.length=c.e.length:=by
 constructor
 ·show (cvMu s t k (qca s t.tr k c.l)).length=_
  unfold cvMu
  split
  ·rw [qlt,qj5]
  ·rw [qj5]
 ·exact qkv ..
theorem qpk (s:Sy) (t:Te) (c:Cv):∀ k,(qas s t c k).l.length=c.l.length∧(qas s t c k).e.length=c.e.length
 | 0=>⟨rfl,rfl⟩
 | k+1=>by
  have h1:=qpk s t c k
  have h2:=qo3 s t k (qas s t c k)
  exact ⟨h2.1.trans h1.1,h2.2.trans h1.2⟩
theorem qsg (s:Sy) (t:Te):∀ (f k:Nat) (c:Cv),(cvGo s t f k c).l.length=c.l.length∧(cvGo s t f k c).e.length=c.e.length
 | 0,_,_=>⟨rfl,rfl⟩
 | f+1,k,c=>by
  rw [cvGo]
  split
  ·exact ⟨rfl,rfl⟩
  ·have h1:=qsg s t f (k+1) (qhe s t k c)
   have h2:=qo3 s t k c
   exact ⟨h1.1.trans h2.1,h1.2.trans h2.2⟩
theorem qr7 (s:Sy) (t:Te) (c:Cv):(qd8 s t c).l.length=c.l.length∧(qd8 s t c).e.length=c.e.length:=qsg ..
structure RCv (base:Nat) (w:World) (c:Cv) (v1 v2:Value):Prop where
 l:RBs base w c.l v1
 e:RBs base w c.e v2
 ap:∀ q,v1.ownBlock=some q->v2.ownBlock≠some q
def ZCv (v1 v2:Value) (q:Nat):Prop:=v1.ownBlock=some q∨v2.ownBlock=some q
theorem qfd {base:Nat} {w w':World} {bs:List Bool} {v:Value} {Z:Nat->Prop} (h:RBs base w bs v) (hb:Bt Z w w') (hz:∀ q,v.ownBlock=some q->¬ Z q):RBs base w' bs v:=by
 obtain ⟨news,⟨h1,h2⟩,h3⟩:=h
 refine ⟨news,⟨h1,h2.imp id ?_⟩,h3.imp fun x _ cs h=>h⟩
 rintro ⟨g,cap,cur,rfl,hg,hh,hrest⟩
 exact ⟨g,cap,cur,rfl,hg,(hb.block g (Array.getElem?_eq_some_iff.1 hh).1 (hz g rfl)).trans hh,hrest⟩
theorem qft {base:Nat} {w:World} {bs:List Bool} {v:Value} (h:RBs base w bs v) {q:Nat} (hq:v.ownBlock=some q):base<=q∧q<w.heap.size:=by
 obtain ⟨news,h2,_⟩:=h
 exact qb1 h2 q hq
theorem RCv.ext {base:Nat} {w w':World} {c:Cv} {v1 v2:Value} (h:RCv base w c v1 v2) (he:Ext w w'):RCv base w' c v1 v2:=⟨h.l.ext qae.good he,h.e.ext qae.good he,h.ap⟩
theorem RCv.keep {base:Nat} {w w':World} {c:Cv} {v1 v2:Value} {Z:Nat->Prop} (h:RCv base w c v1 v2) (hb:Bt Z w w') (hz:∀ q,ZCv v1 v2 q->¬ Z q):RCv base w' c v1 v2 :=
 ⟨qfd h.l hb fun q e=>hz q (.inl e),qfd h.e hb fun q e=>hz q (.inr e),h.ap⟩
theorem Bt.tail {Z Z':Nat->Prop} {a b c:World} (h:Bt Z a b) (k:Bt Z' b c) (hz:∀ i,Z' i->a.heap.size<=i):Bt Z a c :=
 ⟨k.os.trans h.os,k.tape.trans h.tape,k.output.trans h.output,Nat.le_trans h.size k.size,fun i hi hn=>(k.block i (Nat.lt_of_lt_of_le hi h.size) fun e=>by have:=hz i e;omega).trans (h.block i hi hn)⟩
theorem RCv.own {base B:Nat} {c:Cv} {v1 v2:Value} {W0:World} (h0:RCv base W0 c v1 v2) (hB:W0.heap.size<=B) {X Y:World} {r:Option Nat} {c':Cv} (h:RCv base X c' v1 v2) (hg:X.grownBy Y r) (hr:∀ q,r=some q->B<=q):RCv base Y c' v1 v2:=by
 have key:∀ {bs v},RBs base X bs v->(∀ q,v.ownBlock=some q->q<W0.heap.size)->RBs base Y bs v:=fun h hq=>qfd h (Bt.of_grown hg) fun q e e'=>by
  have:=hq q e
  have:=hr q e'.symm
  omega
 exact ⟨key h.l fun q e=>(qft h0.l e).2,key h.e fun q e=>(qft h0.e e).2,h.ap⟩
theorem qle {base B:Nat} {bs0 bs:List Bool} {v:Value} {W0:World} (h0:RBs base W0 bs0 v) (hB:W0.heap.size<=B) {X Y:World} {r:Option Nat} (h:RBs base X bs v) (hg:X.grownBy Y r) (hr:∀ q,r=some q->B<=q):RBs base Y bs v:=qfd h (Bt.of_grown hg) fun q e e'=>by
 have:=(qft h0 e).2
 have:=hr q e'.symm
 omega
end
section
open Go.Shelf
def VM:Array MapEntry:=#[{ key:=.int .i64 1,val:=.func (.func 168) #[] #[],born:=0 },{ key:=.int .i64 2,val:=.func (.func 170) #[] #[],born:=1 },{ key:=.int .i64 3,val:=.func (.func 171) #[] #[],born:=2 }]
theorem qn8 {W:World} {m:Nat} {es:Array MapEntry} {clock:Nat} (h:W.heap[m]? = some (.map es clock)) (ks:List Int) (hk:es.toList.map (·.key)=ks.map (Value.int .i64)) (a:Int) (ha:a∉ks) (v:Value) :
  (Instr.mapUpdate 136 (.map (some m)) (.int .i64 a) v).run Tryz.prog W = .ok () (W.putObj m (.map (es.push { key:=.int .i64 a,val:=v,born:=clock }) (clock+1))):=by
 obtain ⟨d,hd,hs,hc⟩:=qg8.kind
 have hf:=qjl hs a es.toList ks 0 hk
 rw [dif_neg ha] at hf
 unfold Instr.mapUpdate Instr.findKey
 simp [run_underlying Tryz.underlying136,run_underlying hd,getObj,setObj,Sem.run,h,hc,hf,World.putObj]
theorem qux (w:World):∃ w1 w2 w3:World,(Instr.mapUpdate 136 (.map (some w.heap.size)) (.int .i64 1) (.func (.func 168) #[] #[])).run Tryz.prog (w.alloc (.map #[] 0)) = .ok () w1 ∧
  (Instr.mapUpdate 136 (.map (some w.heap.size)) (.int .i64 2) (.func (.func 170) #[] #[])).run Tryz.prog w1 = .ok () w2∧(Instr.mapUpdate 136 (.map (some w.heap.size)) (.int .i64 3) (.func (.func 171) #[] #[])).run Tryz.prog w2 = .ok () w3 ∧
  w3.heap[w.heap.size]? = some (.map VM 3)∧Ext w w3:=by
 have hput:∀ (W:World) o,Ext w W->Ext w (W.putObj w.heap.size o):=fun W o h=>⟨h.os,h.tape,h.output,by simpa using h.size,fun k hk=>(World.putObj_heap_other (by omega)).trans (h.block k hk)⟩
 have hX0:Ext w (w.alloc (.map #[] 0)):=(Ext.refl w).alloc _
 have h0:(w.alloc (.map #[] 0)).heap[w.heap.size]? = some (.map #[] 0):=World.alloc_heap_new w _
 have r1:=qn8 h0 [] rfl 1 (by simp) (.func (.func 168) #[] #[])
 refine ⟨_,_,_,r1,qn8 (World.putObj_heap_same (by simp)) [1] rfl 2 (by simp) _,qn8 (World.putObj_heap_same (by simp)) [1,2] rfl 3 (by simp) _,(World.putObj_heap_same (by simp)),hput _ _ (hput _ _ (hput _ _ hX0))⟩
set_option maxHeartbeats 1000000 in
set_option maxRecDepth 100000 in
theorem qqo (w:World):Calls Tryz.prog 103 #[] w fun e w'=>∃ m,e = .returned (.map (some m))∧w'.heap[m]? = some (.map VM 3)∧w.heap.size<=m∧Ext w w':=by
 have hmm:=@run_makeMap Tryz.prog
 obtain ⟨w1,w2,w3,r1,r2,r3,h3,hX⟩:=qux w
 go_enter Tryz.func103,Tryz.ntmps103
 go_wp2_with fail
 go_ret
 exact ⟨_,rfl,h3,Nat.le_refl _,hX⟩
end
section
set_option maxHeartbeats 1000000
set_option maxRecDepth 100000
/- slices.IndexFunc and ContainsFunc at each element type of the program: what they come to,whatever function value they are given. -/
theorem idxFTe {σ:Type} (J:σ->World->Prop) (step:σ->Te->Bool×σ) (S:Nat->Prop) (w:World) (xs:List (Te)) (v:Value) (hx:RSl RTe 2 S w xs [v]) (g:Nat) (lb:Array Value)
  (eg:∀ args w,(callFunc g args).run Tryz.prog w = .ok (.enter g args) w) (hJ:∀ s W,J s W->Kp S w W)
  (hp:∀ x∈xs,∀ s cs W,J s W->RTe S W x cs->Calls Tryz.prog g (#[.agg cs.toArray]++lb) W fun e w'=>e = .returned (.bool (step s x).1)∧J (step s x).2 w') (s0:σ) (h0:J s0 w) :
  Calls Tryz.prog 164 #[v,.func (.func g) #[] lb] w fun e w'=>e = .returned (.int .i64 (qaq step s0 xs).1)∧J (qaq step s0 xs).2 w':=by
 obtain ⟨A,c,rfl,hc,hc0⟩:=hx.val
 have HX:=Hd hx
 have HP:=Hd hp
 have HJ:=Hd hJ
 clear hx hp hJ
 go_enter Tryz.func164,Tryz.ntmps164
 go_wp2
 go_loopw [5,8] (fun _ i wr=>∃ k:Nat,k<=xs.length∧i = .int .i64 k∧Hid (∃ s,J s wr∧qaq step s0 xs=((qaq step s (xs.drop k)).1+(if (qaq step s (xs.drop k)).1<0 then 0 else (k:Int)),(qaq step s (xs.drop k)).2))) (fun _ i _=>xs.length-(intOf i).toNat)
 case atStart=>exact ⟨0,Nat.zero_le _,rfl,s0,h0,by simp⟩
 case round =>
  obtain ⟨k,hk,rfl,s,hs,hf⟩:=hrel
  by_cases hlt:k<xs.length
  ·obtain ⟨b,off,cs,rfl,hb,hS,hl,hr,hcell⟩:=((RSl.good RTe.good).move HX.out (HJ.out _ _ hs)).get k hlt
   have hcon:=HP.out xs[k] (List.getElem_mem hlt) s cs wr hs hr
   obtain ⟨c0,c1,rfl⟩:∃ c0 c1,cs=[c0,c1]:=by
    match cs,hl with
    | [c0,c1],_=>exact ⟨c0,c1,rfl⟩
   have g0:=(by simpa using hcell.get 0 _:wr.cell? ⟨b,off+k*2,none⟩=some c0)
   have g1:=hcell.get 1 _
   rw [List.drop_eq_getElem_cons hlt,qaq] at hf
   clear hcell hl hS hr
   cases hq:(step s xs[k]).1 with
   | true =>
    rw [hq] at hcon hf
    have Hf:=Hd hf
    clear hf
    go_wp2_with fail
    refine hcon.mono ?_
    rintro e w' ⟨rfl,hs'⟩
    go_wp2_with fail
    go_ret
    rw [Hf.out]
    exact ⟨by simp,hs'⟩
   | false =>
    rw [hq] at hcon hf
    have Hf:=Hd hf
    clear hf
    go_wp2_with fail
    refine hcon.mono ?_
    rintro e w' ⟨rfl,hs'⟩
    go_wp2_with fail
    go_roundw
    case rel =>
     refine ⟨k+1,by omega,by go_num,_,hs',?_⟩
     rw [Hf.out]
     exact qiq _ _
    case measure=>simp [intOf];omega
  ·have hd:xs.drop k=[]:=List.drop_of_length_le (by omega)
   rw [hd,qaq] at hf
   have Hf:=Hd hf
   clear hf
   go_wp2
   go_ret
   rw [Hf.out]
   exact ⟨by simp,hs⟩
theorem conFTe {σ:Type} (J:σ->World->Prop) (step:σ->Te->Bool×σ) (S:Nat->Prop) (w:World) (xs:List (Te)) (v:Value) (hx:RSl RTe 2 S w xs [v]) (g:Nat) (lb:Array Value)
  (eg:∀ args w,(callFunc g args).run Tryz.prog w = .ok (.enter g args) w) (hJ:∀ s W,J s W->Kp S w W)
  (hp:∀ x∈xs,∀ s cs W,J s W->RTe S W x cs->Calls Tryz.prog g (#[.agg cs.toArray]++lb) W fun e w'=>e = .returned (.bool (step s x).1)∧J (step s x).2 w') (s0:σ) (h0:J s0 w) :
  Calls Tryz.prog 106 #[v,.func (.func g) #[] lb] w fun e w'=>e = .returned (.bool (qcp step s0 xs).1)∧J (qcp step s0 xs).2 w':=by
 obtain ⟨A,c,rfl,hc,hc0⟩:=hx.val
 have hcon:=idxFTe J step S w xs _ hx g lb eg hJ hp s0 h0
 rw [qho]
 clear hx hp hJ
 go_enter Tryz.func106,Tryz.ntmps106
 go_wp2_with fail
 refine hcon.mono ?_
 rintro e w' ⟨rfl,hs'⟩
 go_wp2_with fail
 all_goals go_ret
 all_goals exact ⟨by simp,hs'⟩
theorem conPTe (p:Te->Bool) (S:Nat->Prop) (w:World) (xs:List (Te)) (v:Value) (hx:RSl RTe 2 S w xs [v]) (g:Nat) (lb:Array Value)
  (eg:∀ args w,(callFunc g args).run Tryz.prog w = .ok (.enter g args) w)
  (hp:∀ x∈xs,∀ cs W,Ext w W->RTe S W x cs->Calls Tryz.prog g (#[.agg cs.toArray]++lb) W fun e w'=>e = .returned (.bool (p x))∧Ext W w') :
  Calls Tryz.prog 106 #[v,.func (.func g) #[] lb] w fun e w'=>e = .returned (.bool (xs.any p))∧Ext w w' :=
 (conFTe (fun (_:Unit) W=>Ext w W) (fun s x=>(p x,s)) S w xs v hx g lb eg (fun _ _ h=>Ext.kp h) (fun x hx s cs W hW hr=>(hp x hx cs W hW hr).mono fun e w' ⟨he,hb⟩=>⟨he,hW.trans' hb⟩) () (Ext.refl w)).mono
  fun e w' ⟨he,hb⟩=>⟨by rw [he,qid],hb⟩
theorem idxPTe (p:Te->Bool) (S:Nat->Prop) (w:World) (xs:List (Te)) (v:Value) (hx:RSl RTe 2 S w xs [v]) (g:Nat) (lb:Array Value)
  (eg:∀ args w,(callFunc g args).run Tryz.prog w = .ok (.enter g args) w)
  (hp:∀ x∈xs,∀ cs W,Ext w W->RTe S W x cs->Calls Tryz.prog g (#[.agg cs.toArray]++lb) W fun e w'=>e = .returned (.bool (p x))∧Ext W w') :
  Calls Tryz.prog 164 #[v,.func (.func g) #[] lb] w fun e w'=>e = .returned (.int .i64 (qa8 p xs))∧Ext w w' :=
 (idxFTe (fun (_:Unit) W=>Ext w W) (fun s x=>(p x,s)) S w xs v hx g lb eg (fun _ _ h=>Ext.kp h) (fun x hx s cs W hW hr=>(hp x hx cs W hW hr).mono fun e w' ⟨he,hb⟩=>⟨he,hW.trans' hb⟩) () (Ext.refl w)).mono
  fun e w' ⟨he,hb⟩=>⟨by rw [he,qhx],hb⟩
end
section
set_option maxHeartbeats 1000000
set_option maxRecDepth 100000
/- suite.fails,Fails: walked. -/
open Go.Shelf
def vmF (n:Int):Option Value:=if n=1 then some (.func (.func 168) #[] #[]) else if n=2 then some (.func (.func 170) #[] #[]) else if n=3 then some (.func (.func 171) #[] #[]) else none
theorem VM.isMap {W:World} {m:Nat} (h:W.heap[m]? = some (.map VM 3)):IsMap (Value.int .i64) W m vmF :=
 ⟨VM,3,[1,2,3],h,rfl,by decide,fun i hi=>by
  match i,hi with
  | 0,_=>rfl
  | 1,_=>rfl
  | 2,_=>rfl,fun a ha=>by
  simp only [List.mem_cons,List.not_mem_nil,or_false,not_or] at ha
  rw [vmF,if_neg ha.1,if_neg ha.2.1,if_neg ha.2.2]⟩
theorem infoFn:(Tryz.prog.info? 138).map (·.zero)=some (some .nilFunc):=by kernel_rfl
theorem VM.two {W:World} {m:Nat} (h:W.heap[m]? = some (.map VM 3)):(Instr.lookup 136 (.map (some m)) (.int .i64 2) false).run Tryz.prog W = .ok (.func (.func 170) #[] #[]) W :=
 (VM.isMap h).lookup (P:=Tryz.prog) Tryz.underlying136 qg8 (z:=.nilFunc) (by
  obtain ⟨i,hi,hz⟩:=Option.map_eq_some_iff.1 infoFn
  simp [zeroValue,typeInfo,hi,hz]) 2
theorem eg165:∀ args w,(callFunc 165 args).run Tryz.prog w = .ok (.enter 165 args) w:=enters_of Tryz.func165 (by kernel_rfl) rfl
theorem eg170:∀ args w,(callFunc 170 args).run Tryz.prog w = .ok (.enter 170 args) w:=enters_of Tryz.func170 (by kernel_rfl) rfl
def NTe (t:Te):Prop:=t.tr.length<=4611686018427387903∧t.mu.length<=4611686018427387903
theorem fails1_c (S:Nat->Prop) (s:Sy) (hok:qag s) (g:Nat) (t:Te) (cs:List Value) (B1 B2:Nat) (w:World) (hS:qav S w g s) (ht:RTe S w t cs) (hn:NTe t)
  (h1:w.cell? ⟨B1,0,none⟩=some (.func (.func 170) #[] #[])) (h2:w.cell? ⟨B2,0,none⟩=some (.pointer (some ⟨g,0,none⟩))) :
  Calls Tryz.prog 165 #[.agg cs.toArray,.pointer (some ⟨B1,0,none⟩),.pointer (some ⟨B2,0,none⟩)] w fun e w'=>e = .returned (.bool (qbg s t))∧Ext w w':=by
 obtain ⟨v,u,rfl,hv,hu⟩:=ht
 have hcon:=fun W (hW:Ext w W)=>fail_c S s hok g t v u W (hS.bel hW) (qaa.good.bel hv hW) (qaa.good.bel hu hW) hn.1 hn.2
 have eg:=eg170
 obtain ⟨A,c,rfl,_,_⟩:=hv.val
 obtain ⟨A',c',rfl,_,_⟩:=hu.val
 have hw1:=World.block_lt_of_cell? w _ h1
 have hw2:=World.block_lt_of_cell? w _ h2
 clear hS hv hu hn
 go_enter Tryz.func165,Tryz.ntmps165
 go_wp2_with fail
 refine (hcon _ bel).mono ?_
 rintro e w1 ⟨rfl,hx1⟩
 go_wp2_with fail
 go_ret
 exact ⟨rfl,bel⟩
theorem qmh (S:Nat->Prop) (s:Sy) (hok:qag s) (g:Nat) (ts:List Te) (v:Value) (w:World) (hS:qav S w g s) (ht:RSl RTe 2 S w ts [v]) (hn:∀ t∈ts,NTe t) :
  Calls Tryz.prog 100 #[.pointer (some ⟨g,0,none⟩),v] w fun e w'=>e = .returned (.int .i64 (qa8 (qbg s) ts))∧Ext w w':=by
 have hvm:=qqo
 have hcon:=fun B1 B2 W (hW:Ext w W) (h1:W.cell? ⟨B1,0,none⟩=some (.func (.func 170) #[] #[])) (h2:W.cell? ⟨B2,0,none⟩=some (.pointer (some ⟨g,0,none⟩)))=>idxPTe (qbg s) S W ts v ((RSl.good RTe.good).bel ht hW) 165 #[.pointer (some ⟨B1,0,none⟩),.pointer (some ⟨B2,0,none⟩)] eg165
  (fun x hx cs W' hW' hr=>fails1_c S s hok g x cs B1 B2 W' (hS.bel (hW.trans' hW')) hr (hn x hx) (Ext.keep hW' h1) (Ext.keep hW' h2))
 obtain ⟨A,c,rfl,hc,hc0⟩:=ht.val
 clear ht hS hn
 go_enter Tryz.func100,Tryz.ntmps100
 go_wp2_with fail
 refine (hvm _).mono ?_
 rintro e w1 ⟨m,rfl,hm,hm',h1⟩
 have hc1:=h1.cells
 have hz1:=h1.size
 have hz:w.heap.size<w1.heap.size:=by simp at hz1;omega
 have hlk:=VM.two hm
 have hX1:Ext w w1:=bel
 clear hm
 go_wp2_with fail
 refine (hcon _ _ _ bel (by go_simp) (by go_simp)).mono ?_
 rintro e w2 ⟨rfl,h2⟩
 go_wp2_with fail
 go_ret
 exact ⟨rfl,bel⟩
open Classical in
noncomputable def qeh (s:Sy) (ts:List Te):Int:=if qar s ts=0 then qa8 (qbg s) ts else -1
theorem qey {s:Sy} {ts:List Te} (h:qar s ts=0):qag s∧ts.length<=4000∧∀ t∈ts,qdi t=true:=by
 unfold qar at h
 split at h
 ·rename_i hok
  unfold qi3 at h
  split at h
  ·rename_i hl
   split at h
   ·rename_i ha
    exact ⟨hok,hl,List.all_eq_true.1 ha⟩
   ·cases h
  ·cases h
 ·cases h
theorem NTe.of_test {t:Te} (h:qdi t=true):NTe t:=by
 simp [qdi,qbl,qb6] at h
 exact ⟨by omega,by omega⟩
theorem qjq {α:Type} (p:α->Bool):∀ (xs:List α),qa8 p xs<xs.length ∧ -1<=qa8 p xs
 | []=>by simp [qa8]
 | x :: xs=>by
  have h:=qjq p xs
  rw [qa8]
  split
  ·simp
  ·split <;> simp only [List.length_cons] <;> omega
theorem Fails_c (S:Nat->Prop) (s:Sy) (cs:List Value) (ts:List Te) (v:Value) (w:World) (hx:RSy S w s cs) (ht:RSl RTe 2 S w ts [v]) :
  Calls Tryz.prog 28 #[v,.agg cs.toArray] w fun e w'=>e = .returned (.tuple #[.int .i64 (max (qeh s ts) 0),.bool (decide (0<=qeh s ts)),.int .i64 (qar s ts)])∧Ext w w':=by
 have hak:=fun W (hW:Ext w W)=>qjj S s cs ts v W (RSy.good.bel hx hW) ((RSl.good RTe.good).bel ht hW)
 have hfl:=fun W g (hg:qav (fun _=>True) W g s) (hW:Ext w W) (hok:qar s ts=0)=>qmh (fun _=>True) s (qey hok).1 g ts v W hg ((RSl.good RTe.good).bel ((RSl.good RTe.good).mono ht fun _ _ _=>trivial) hW) (fun t h=>NTe.of_test ((qey hok).2.2 t h))
 obtain ⟨_,vl,ve,rfl,hvl,hve⟩:=id hx
 obtain ⟨Al,cl,rfl,_,_⟩:=hvl.val
 obtain ⟨Ae,ce,rfl,_,_⟩:=hve.val
 obtain ⟨A,c,rfl,hc,hc0⟩:=ht.val
 clear hx ht hvl hve
 by_cases hE:qar s ts=0
 ·have hv:qeh s ts=qa8 (qbg s) ts:=if_pos hE
  have hfl2:=fun W g hg hW=>hfl W g hg hW hE
  rw [hv,hE]
  rw [hE] at hak
  obtain ⟨i,hi⟩:∃ i,qa8 (qbg s) ts=i:=⟨_,rfl⟩
  have hb:=qjq (qbg s) ts
  rw [hi] at hfl2 hb ⊢
  clear hfl hv hE hi
  by_cases h0:0<=i
  ·have HV:=Hd (And.intro (show max i 0=i from by omega) (show decide (0<=i)=true from by simpa using h0))
   go_enter Tryz.func28,Tryz.ntmps28
   go_wp2_with fail
   refine (hak _ bel).mono ?_
   rintro e w1 ⟨h1,_⟩
   obtain ⟨g,rfl,hx1,hg,hS⟩:=h1 rfl
   have hX1:Ext w w1:=bel
   clear h1 hx1
   go_wp2_with fail
   refine (hfl2 _ g (hS.mono fun _ _ _=>trivial) bel).mono ?_
   rintro e w2 ⟨rfl,h2⟩
   go_wp2_with fail
   go_ret3
   exact ⟨by rw [HV.out.1,HV.out.2];rfl,hX1.trans' h2⟩
  ·have HV:=Hd (And.intro (show max i 0=0 from by omega) (show decide (0<=i)=false from by simpa using h0))
   go_enter Tryz.func28,Tryz.ntmps28
   go_wp2_with fail
   refine (hak _ bel).mono ?_
   rintro e w1 ⟨h1,_⟩
   obtain ⟨g,rfl,hx1,hg,hS⟩:=h1 rfl
   have hX1:Ext w w1:=bel
   clear h1 hx1
   go_wp2_with fail
   refine (hfl2 _ g (hS.mono fun _ _ _=>trivial) bel).mono ?_
   rintro e w2 ⟨rfl,h2⟩
   go_wp2_with fail
   go_ret3
   exact ⟨by rw [HV.out.1,HV.out.2];rfl,hX1.trans' h2⟩
 ·have hv:qeh s ts = -1:=if_neg hE
  rw [hv]
  obtain ⟨er,her⟩:∃ er,qar s ts=er:=⟨_,rfl⟩
  rw [her] at hak hE ⊢
  have hE':(er == 0)=false:=beq_eq_false_iff_ne.2 hE
  clear hfl her hv
  go_enter Tryz.func28,Tryz.ntmps28
  go_wp2_with fail
  refine (hak _ bel).mono ?_
  rintro e w1 ⟨_,h1⟩
  obtain ⟨rfl,hx1⟩:=h1 hE
  have hX1:Ext w w1:=bel
  clear h1 hx1
  go_wp2_with fail
  go_ret3
  exact ⟨by rfl,hX1⟩
end
end Go.Proofs.YtegenalcheooeaaGreat
