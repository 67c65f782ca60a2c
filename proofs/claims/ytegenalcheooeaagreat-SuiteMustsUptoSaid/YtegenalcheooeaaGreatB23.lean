/- Of the proof of a law of the suites: Cover, Mark, Covers1, Gen. -/
import Derived.Test.YtegenalcheooeaaGreatB12
import Derived.Test.YtegenalcheooeaaGreatB15
import Derived.Test.YtegenalcheooeaaGreatB17
import Derived.Test.YtegenalcheooeaaGreatB22
set_option linter.unusedSectionVars false
set_option linter.unusedSimpArgs false
set_option linter.unusedVariables false
namespace Go.Proofs.YtegenalcheooeaaGreat
open Go.RowKit
attribute [local go_sem] cell?_exto
section
open Go.Shelf
theorem qpk {fn:Func} {p:Tmp} (h:fn.results = #[.cell p 145]) (tmps:Array Value) (w:World) (g:Nat) (v u:Value) (hp:tmps.getD p undef = .pointer (some ⟨g,0,none⟩)) (h0:w.cell? ⟨g,0,none⟩=some v) (h1:w.cell? ⟨g,1,none⟩=some u) :
  (results fn tmps).run Tryz.prog w = .ok (.agg #[v,u]) w:=by
 have hp':tmps[p]?.getD undef = .pointer (some ⟨g,0,none⟩):=by simpa using hp
 simp [results,h,hp',asAddr,go_sem,h0,h1]
abbrev RBs (base:Nat) (w:World) (bs:List Bool) (v:Value):Prop:=qab qad 1 4 base (fun _=>False) w bs v
theorem info4:(Tryz.prog.info? 4).map (fun i=>(i.zero,i.size,i.bytes))=some (some (.bool false),1,1):=by kernel_rfl
theorem qt4 (n:Nat):madeCells (Value.bool false).cells (n*1)=Array.replicate n (.bool false):=by
 rw [Nat.mul_one]
 apply Array.ext
 ·simp [size_madeCells]
 ·intro i h1 h2
  have:i % 1=0:=Nat.mod_one i
  simp [madeCells,Value.cells,this]
theorem qh8 (W:World) (n:Nat) (hn:n≤1000000) :
  (Instr.makeSlice 73 (.int .i64 (n:Int)) (.int .i64 (n:Int))).run Tryz.prog W = .ok (.slice (some ⟨W.heap.size,0,none⟩) n n) (W.alloc (.cells (Array.replicate n (.bool false)) 4)):=by
 obtain ⟨i,hi,hz⟩:=Option.map_eq_some_iff.1 info4
 simp only [Prod.mk.injEq] at hz
 obtain ⟨h1,h2,h3⟩:=hz
 have h:=run_makeSlice (P:=Tryz.prog) (w:=W) 73 4 i (.bool false) Tryz.underlying73 hi h1 .i64 .i64 n n (by omega) (Int.le_refl _) (by rw [h2];simp;omega) (by rw [h3];omega) (by omega)
 rw [h2] at h
 simp only [Int.toNat_natCast,qt4] at h
 exact h
theorem qml (S:Nat→Prop) (w:World):∀ bs:List Bool,Flat qad 1 S w bs (bs.map Value.bool)
 | []=>rfl
 | b :: bs=>⟨[.bool b],_,rfl,rfl,rfl,qml S w bs⟩
theorem qgs (W:World) (base n:Nat) (hb:base≤W.heap.size) (hn:n≤1000000):RBs base (W.alloc (.cells (Array.replicate n (.bool false)) 4)) (List.replicate n false) (.slice (some ⟨W.heap.size,0,none⟩) n n):=by
 refine ⟨(List.replicate n false).map Value.bool,?_,qml ..⟩
 have h:=World.ownsRow_lit (base:=base) (e:=4) (size:=1) W (Array.replicate n (.bool false)) n hb (by unfold maxLen;omega) (by simp)
 simpa using h
def qmo (n1 n2:Nat) (w:World) (e:Ending) (w':World):Prop:=∃ v1 v2,e = .returned (.agg #[v1,v2])∧RBs w.heap.size w' (List.replicate n1 false) v1∧RBs w.heap.size w' (List.replicate n2 false) v2∧(∀ q,v1.ownBlock=some q→v2.ownBlock≠some q)∧Ext w w'
theorem cov_fin1 {fn:Func} {tmps:Array Value} {w:World} {n1 n2:Nat} (h:fn.results = #[.cell 2 145]) (hp:tmps.getD 2 undef = .pointer (some ⟨w.heap.size,0,none⟩)) (h1:n1≤1000000) (h2:n2≤1000000) :
  bodyPost Tryz.prog fn (qmo n1 n2 w) .ret { tmps:=tmps,defers:=[] } ((((w.alloc (.cells #[.slice (some ⟨w.heap.size+1,0,none⟩) n1 n1,.slice (some ⟨w.heap.size+1+1,0,none⟩) n2 n2] 145)).alloc (.cells (Array.replicate n1 (.bool false)) 4)).alloc (.cells (Array.replicate n2 (.bool false)) 4)).drew):=by
 refine bodyPost_ret (qpk h _ _ w.heap.size (.slice (some ⟨w.heap.size+1,0,none⟩) n1 n1) (.slice (some ⟨w.heap.size+1+1,0,none⟩) n2 n2) hp (by go_simp) (by go_simp)) rfl ?_
 obtain ⟨C,hC⟩:∃ C,Obj.cells #[.slice (some ⟨w.heap.size+1,0,none⟩) n1 n1,.slice (some ⟨w.heap.size+1+1,0,none⟩) n2 n2] 145=C:=⟨_,rfl⟩
 rw [hC]
 have r1:=qgs (w.alloc C) w.heap.size n1 (by simp) h1
 have r2:=qgs ((w.alloc C).alloc (.cells (Array.replicate n1 (.bool false)) 4)) w.heap.size n2 (by simp;omega) h2
 rw [World.size_alloc] at r1 r2
 rw [World.size_alloc] at r2
 exact ⟨_,_,rfl,r1.ext qad.good (Below.drew ((Ext.refl _).alloc _)),r2.ext qad.good (Below.drew (Ext.refl _)),fun q e e'=>by simp [Value.ownBlock] at e e';omega,Below.drew ((((Ext.refl _).alloc _).alloc _).alloc _)⟩
theorem cov_fin2 {fn:Func} {tmps:Array Value} {w:World} {n1 n2:Nat} (h:fn.results = #[.cell 2 145]) (hp:tmps.getD 2 undef = .pointer (some ⟨w.heap.size,0,none⟩)) (h1:n1≤1000000) (h2:n2≤1000000) :
  bodyPost Tryz.prog fn (qmo n1 n2 w) .ret { tmps:=tmps,defers:=[] } ((((w.alloc (.cells #[.slice (some ⟨w.heap.size+1+1,0,none⟩) n1 n1,.slice (some ⟨w.heap.size+1,0,none⟩) n2 n2] 145)).alloc (.cells (Array.replicate n2 (.bool false)) 4)).alloc (.cells (Array.replicate n1 (.bool false)) 4)).drew):=by
 refine bodyPost_ret (qpk h _ _ w.heap.size (.slice (some ⟨w.heap.size+1+1,0,none⟩) n1 n1) (.slice (some ⟨w.heap.size+1,0,none⟩) n2 n2) hp (by go_simp) (by go_simp)) rfl ?_
 obtain ⟨C,hC⟩:∃ C,Obj.cells #[.slice (some ⟨w.heap.size+1+1,0,none⟩) n1 n1,.slice (some ⟨w.heap.size+1,0,none⟩) n2 n2] 145=C:=⟨_,rfl⟩
 rw [hC]
 have r1:=qgs (w.alloc C) w.heap.size n2 (by simp) h2
 have r2:=qgs ((w.alloc C).alloc (.cells (Array.replicate n2 (.bool false)) 4)) w.heap.size n1 (by simp;omega) h1
 rw [World.size_alloc] at r1 r2
 rw [World.size_alloc] at r2
 exact ⟨_,_,rfl,r2.ext qad.good (Below.drew (Ext.refl _)),r1.ext qad.good (Below.drew ((Ext.refl _).alloc _)),fun q e e'=>by simp [Value.ownBlock] at e e';omega,Below.drew ((((Ext.refl _).alloc _).alloc _).alloc _)⟩
set_option maxHeartbeats 1000000 in
set_option maxRecDepth 100000 in
theorem qq1 (S:Nat→Prop) (s:Sy) (g:Nat) (w:World) (hS:qau S w g s) (hl:s.ls.length≤1000000) (he:s.es.length≤1000000) :
  Calls Tryz.prog 112 #[.pointer (some ⟨g,0,none⟩)] w (qmo s.ls.length s.es.length w):=by
 obtain ⟨v,u,m,f,hg,hL,hE,hZg,hZm,hM,hno,hrow⟩:=hS.ex
 obtain ⟨Al,cl,rfl,_,_⟩:=hL.val
 obtain ⟨Ae,ce,rfl,_,_⟩:=hE.val
 have hglt:=(Array.getElem?_eq_some_iff.1 hg).1
 have g1:w.cell? ⟨g,1,none⟩=some (.slice Al s.ls.length cl):=cell_of_row w g 1 _ _ _ hg
 have g2:w.cell? ⟨g,2,none⟩=some (.slice Ae s.es.length ce):=cell_of_row w g 2 _ _ _ hg
 clear hS hL hE hM hrow hno hg
 have hm1:=fun W=>qh8 W s.ls.length hl
 have hm2:=fun W=>qh8 W s.es.length he
 go_enter Tryz.func112,Tryz.ntmps112
 go_wp2_with fail
 go_region_with (fail)
 all_goals go_wp2_with fail
 all_goals first
  | exact cov_fin1 rfl rfl hl he
  | exact cov_fin2 rfl rfl hl he
end
section
open Go.Shelf
def qfo (s:Sy) (x:Lb) (bs:List Bool):List Bool:=if qc4 x s.ls=true then bs.set (qch s.ls x) true else bs
theorem qs3 (s:Sy) (x:Lb) (bs:List Bool):(qfo s x bs).length=bs.length:=by unfold qfo;split <;> simp
theorem inLb_lt {s:Sy} {x:Lb} (h:qc4 x s.ls=true):qch s.ls x<s.ls.length:=by
 by_cases hl:qch s.ls x<s.ls.length
 ·exact hl
 ·rw [qc4,qm7 hl] at h;cases h
set_option maxHeartbeats 1000000 in
set_option maxRecDepth 100000 in
theorem mark_c (S:Nat→Prop) (s:Sy) (g:Nat) (x:Lb) (bs:List Bool) (base:Nat) (v1 v2:Value) (cx:List Value) (w:World) (hS:qau S w g s) (hx:RLb S w x cx) (hr:RBs base w bs v1) (h2:∃ A n c,v2 = .slice A n c) (hlen:bs.length=s.ls.length) (hl:s.ls.length≤1000000) :
  Calls Tryz.prog 174 #[.pointer (some ⟨g,0,none⟩),.agg #[v1,v2],.agg cx.toArray] w fun e w'=>e = .returned (.tuple #[])∧RBs base w' (qfo s x bs) v1∧Bt (fun q=>v1.ownBlock=some q) w w':=by
 obtain ⟨v,u,m,f,hg,hL,hE,hZg,hZm,hM,hno,hrow⟩:=hS.ex
 have hcon:=fun W (hW:Ext w W)=>qol S s.ls x v cx W (qaa.good.bel hL hW) (RLb.good.bel hx hW) (by omega)
 obtain ⟨Al,cl,rfl,_,_⟩:=hL.val
 obtain ⟨_,vx,rfl,hvx⟩:=id hx
 obtain ⟨Ax,cx,rfl,_,_⟩:=hvx.val
 obtain ⟨A2,n2,c2,rfl⟩:=h2
 obtain ⟨A1,c1,rfl,_,_⟩:=(hr.sl qad.good (by decide)).val
 have hglt:=(Array.getElem?_eq_some_iff.1 hg).1
 have g1:w.cell? ⟨g,1,none⟩=some (.slice Al s.ls.length cl):=cell_of_row w g 1 _ _ _ hg
 have HR:=Hd hr
 have hob:∀ q,(Value.slice A1 bs.length c1).ownBlock=some q→base≤q∧q<w.heap.size:=fun q hq=>by obtain ⟨news,h2,_⟩:=hr;exact qbt h2 q hq
 have HLN:=Hd hlen
 clear hS hL hE hM hrow hno hg hx hvx hr hlen
 cases hin:qc4 x s.ls with
 | false =>
  rw [hin] at hcon
  have HV:=Hd (show qfo s x bs=bs from by unfold qfo;rw [hin];rfl)
  clear hin
  go_enter Tryz.func174,Tryz.ntmps174
  go_wp2_with fail
  obtain ⟨W,hW⟩:∃ W,(w.alloc (.cells #[.slice A1 bs.length c1,.slice A2 n2 c2] 145)).alloc (.cells #[.int .i64 x.g,.slice Ax x.v.length cx] 61)=W:=⟨_,rfl⟩
  have hXW:Ext w W:=by rw [← hW];exact ((Ext.refl w).alloc _).alloc _
  have y1:=Ext.keep hXW g1
  have y2:W.cell? ⟨w.heap.size+1,0,none⟩=some (.int .i64 x.g):=by subst hW;go_simp
  have y3:W.cell? ⟨w.heap.size+1,1,none⟩=some (.slice Ax x.v.length cx):=by subst hW;go_simp
  have y4:W.cell? ⟨w.heap.size,0,none⟩=some (.slice A1 bs.length c1):=by subst hW;go_simp
  rw [hW]
  clear hW
  (refine qaw (by kernel_rfl) (by kernel_rfl) ?_;(repeat (first | go_big_quiet_step (exact qav (hcon _ (Ext.trans' hXW (qa8 _ _)))) | quiet_step (exact qav (hcon _ (Ext.trans' hXW (qa8 _ _))))));refine wpQuiet_nil ?_)
  intro w3 hx3
  have hX3:Ext w w3:=hXW.trans' hx3
  go_wp2_with fail
  go_end0
  rw [HV.out]
  exact ⟨rfl,HR.out.ext qad.good hX3,hX3.bt⟩
 | true =>
  have hlt:=inLb_lt hin
  rw [← HLN.out] at hlt
  rw [hin] at hcon
  have HV:=Hd (show qfo s x bs=bs.set (qch s.ls x) true from by unfold qfo;rw [hin];rfl)
  obtain ⟨i,hi⟩:∃ i,qch s.ls x=i:=⟨_,rfl⟩
  rw [hi] at hcon hlt HV
  clear hin hi
  obtain ⟨news,hrow,_⟩:=id HR.out
  obtain ⟨gb,cap,he⟩:=Joins.ownsRow_form hrow (by omega)
  injection he with he1 _ he2
  subst he1
  obtain rfl:=he2
  obtain ⟨u,gc,hu,gf⟩:=HR.out.get1 i (by omega)
  obtain rfl:u = .bool bs[i]:=by simpa [qad] using hu
  have hgb:=hob gb rfl
  clear hrow hu
  go_enter Tryz.func174,Tryz.ntmps174
  go_wp2_with fail
  obtain ⟨W,hW⟩:∃ W,(w.alloc (.cells #[.slice (some ⟨gb,0,none⟩) bs.length c1,.slice A2 n2 c2] 145)).alloc (.cells #[.int .i64 x.g,.slice Ax x.v.length cx] 61)=W:=⟨_,rfl⟩
  have hXW:Ext w W:=by rw [← hW];exact ((Ext.refl w).alloc _).alloc _
  have y1:=Ext.keep hXW g1
  have y2:W.cell? ⟨w.heap.size+1,0,none⟩=some (.int .i64 x.g):=by subst hW;go_simp
  have y3:W.cell? ⟨w.heap.size+1,1,none⟩=some (.slice Ax x.v.length cx):=by subst hW;go_simp
  have y4:W.cell? ⟨w.heap.size,0,none⟩=some (.slice (some ⟨gb,0,none⟩) bs.length c1):=by subst hW;go_simp
  rw [hW]
  clear hW
  (refine qaw (by kernel_rfl) (by kernel_rfl) ?_;(repeat (first | go_big_quiet_step (exact qav (hcon _ (Ext.trans' hXW (qa8 _ _)))) | quiet_step (exact qav (hcon _ (Ext.trans' hXW (qa8 _ _))))));refine wpQuiet_nil ?_)
  intro w3 hx3
  have hX3:Ext w w3:=hXW.trans' hx3
  have b0:w3.cell? ⟨w.heap.size,0,none⟩=some (.slice (some ⟨gb,0,none⟩) bs.length c1):=Ext.keep hx3 y4
  have gc3:=Ext.keep hX3 gc
  have gf3:=qa4 hX3 (World.block_lt_of_cell? w _ gc) gf
  go_wp2_with fail
  go_end0
  rw [HV.out]
  refine ⟨rfl,?_,Bt.set (Z:=fun q=>(Value.slice (some ⟨gb,0,none⟩) bs.length c1).ownBlock=some q) (p:=⟨gb,i,none⟩) hX3.bt (.inr rfl) _⟩
  have hp:=qab.put1 qad.good (HR.out.ext qad.good hX3) rfl i (.bool true) true (by omega) rfl
  exact hp
end
section
open Go.Shelf
theorem qqv {P:Program} {md:Region.Mode} {ops:Array Oper} {Q:Exit→Act→World→Prop} (l n:Nat) (hd:qiw ops=true) (hno:¬ LetsOut Q):∀ (fuel:Nat) (listed:Array Bool) (a:Act) (w:World),
  wpAny P md ops Q fuel listed a w→wpAnyIn (Fence.wide.inRound l) n P md ops Q fuel listed a w
 | 0,_,_,_,h=>h
 | fuel+1,listed,a,w,h=>⟨h.1,fun i hi=>by
  have hh:=wpOp_mono (fun a' w' h'=>qqv l n hd hno fuel _ a' w' h') (h.2 i hi)
  unfold wpOp at hh
  unfold wpOpIn
  cases ho:ops[i]? with
  | none =>
   simp only [ho] at hh ⊢
   exact hh
  | some o =>
   simp only [ho] at hh ⊢
   split
   ·rename_i hw'
    simp only [hw',if_true] at hh
    exact qqr l n (qrt hd ho) (hh.resolve_right fun h=>hno h.2)
   ·rename_i hw'
    simp only [hw'] at hh
    exact ⟨fun _ _=>trivial,hh⟩⟩
theorem qnq {P:Program} {l n id:Nat} {Q:Exit→Act→World→Prop} {a:Act} {w:World} {ls:List Oper} (S:World→Prop) (hm:P.follows .mixedOrders=true) (hd:qiw ls.toArray=true) (hno:¬ LetsOut Q) (hS:S w.drew)
  (h:S w.drew→wpAnyH P .any ls.toArray Q S ls.toArray.size (Array.replicate ls.toArray.size false) a w.drew):(Code.region id ls.toArray true).wpIn (Fence.wide.inRound l) n P Q a w :=
 wpIn_region_any hm (qqv l n hd hno _ _ _ _ (wpAny_of_held _ _ _ _ (h hS)))
structure Cv where
 l:List Bool
 e:List Bool
def qhs (s:Sy) (tr:List Lb) (k:Nat) (l:Int):Bool:=qe2 s l fun y=>decide (y.g = -1) || (match tr[k]? with
 | some x=>qa0 y.g && decide (qao y x=0)
 | none=>false)
def qf4 (s:Sy) (tr:List Lb) (k:Nat) (es:List Bool) (j:Fin s.es.length):List Bool:=if qhs s tr k s.es[j].l=true then es.set j.1 true else es
def qdt (s:Sy) (tr:List Lb) (k:Nat) (js:List (Fin s.es.length)) (es:List Bool):List Bool:=js.foldl (qf4 s tr k) es
def qb9 (s:Sy) (tr:List Lb) (k:Nat) (sts:List Int) (es:List Bool):List Bool:=sts.foldl (fun es st=>qdt s tr k (qat s.es st) es) es
def qcc (s:Sy) (tr:List Lb) (k:Nat) (ls:List Bool):List Bool:=if k=0 then ls else match tr[k-1]? with
 | some x=>qfo s x ls
 | none=>ls
def qfp (s:Sy) (mu:List Lb) (ls:List Bool):List Bool:=mu.foldl (fun ls x=>qfo s x ls) ls
def cvMu (s:Sy) (t:Te) (k:Nat) (ls:List Bool):List Bool:=if k=t.tr.length then qfp s t.mu ls else ls
def qhj (s:Sy) (t:Te) (k:Nat) (c:Cv):Cv:=⟨cvMu s t k (qcc s t.tr k c.l),qb9 s t.tr k (qan s (t.tr.take k)) c.e⟩
def cvGo (s:Sy) (t:Te):Nat→Nat→Cv→Cv
 | 0,_,c=>c
 | f+1,k,c=>if qan s (t.tr.take k)=[] then c else cvGo s t f (k+1) (qhj s t k c)
def qea (s:Sy) (t:Te) (c:Cv):Cv:=cvGo s t (t.tr.length+1) 0 c
def qar (s:Sy) (t:Te) (c:Cv):Nat→Cv
 | 0=>c
 | k+1=>qhj s t k (qar s t c k)
theorem cvOne_len (s:Sy) (tr:List Lb) (k:Nat) (es:List Bool) (j:Fin s.es.length):(qf4 s tr k es j).length=es.length:=by unfold qf4;split <;> simp
theorem qk3 (s:Sy) (tr:List Lb) (k:Nat):∀ (js:List (Fin s.es.length)) (es:List Bool),(qdt s tr k js es).length=es.length
 | [],_=>rfl
 | j :: js,es=>(qk3 s tr k js _).trans (cvOne_len s tr k es j)
theorem qri (s:Sy) (tr:List Lb) (k:Nat) (js:List (Fin s.es.length)) (j:Fin s.es.length) (es:List Bool):qdt s tr k (js++[j]) es=qf4 s tr k (qdt s tr k js es) j:=by simp [qdt]
theorem qk2 (s:Sy) (tr:List Lb) (k:Nat):∀ (sts:List Int) (es:List Bool),(qb9 s tr k sts es).length=es.length
 | [],_=>rfl
 | st :: sts,es=>(qk2 s tr k sts _).trans (qk3 s tr k _ es)
theorem qrb (s:Sy) (tr:List Lb) (k:Nat) (sts:List Int) (st:Int) (es:List Bool):qb9 s tr k (sts++[st]) es=qdt s tr k (qat s.es st) (qb9 s tr k sts es):=by simp [qb9]
theorem qkr (s:Sy) (tr:List Lb) (k:Nat) (ls:List Bool):(qcc s tr k ls).length=ls.length:=by
 unfold qcc
 split
 ·rfl
 ·split
  ·exact qs3 ..
  ·rfl
theorem qj0 (s:Sy):∀ (mu:List Lb) (ls:List Bool),(qfp s mu ls).length=ls.length
 | [],_=>rfl
 | x :: mu,ls=>(qj0 s mu _).trans (qs3 s x ls)
theorem qsi (s:Sy) (mu:List Lb) (x:Lb) (ls:List Bool):qfp s (mu++[x]) ls=qfo s x (qfp s mu ls):=by simp [qfp]
theorem qta (s:Sy) (t:Te) (k:Nat) (c:Cv):(qhj s t k c).l.length=c.l.length∧(qhj s t k c).e.length=c.e.length:=by
 constructor
 ·show (cvMu s t k (qcc s t.tr k c.l)).length=_
  unfold cvMu
  split
  ·rw [qj0,qkr]
  ·rw [qkr]
 ·exact qk2 ..
theorem qpj (s:Sy) (t:Te) (c:Cv):∀ k,(qar s t c k).l.length=c.l.length∧(qar s t c k).e.length=c.e.length
 | 0=>⟨rfl,rfl⟩
 | k+1=>by
  have h1:=qpj s t c k
  have h2:=qta s t k (qar s t c k)
  exact ⟨h2.1.trans h1.1,h2.2.trans h1.2⟩
theorem qrq (s:Sy) (t:Te):∀ (f k:Nat) (c:Cv),(cvGo s t f k c).l.length=c.l.length∧(cvGo s t f k c).e.length=c.e.length
 | 0,_,_=>⟨rfl,rfl⟩
 | f+1,k,c=>by
  rw [cvGo]
  split
  ·exact ⟨rfl,rfl⟩
  ·have h1:=qrq s t f (k+1) (qhj s t k c)
   have h2:=qta s t k c
   exact ⟨h1.1.trans h2.1,h1.2.trans h2.2⟩
theorem qss (s:Sy) (t:Te) (c:Cv):(qea s t c).l.length=c.l.length∧(qea s t c).e.length=c.e.length:=qrq ..
structure RCv (base:Nat) (w:World) (c:Cv) (v1 v2:Value):Prop where
 l:RBs base w c.l v1
 e:RBs base w c.e v2
 ap:∀ q,v1.ownBlock=some q→v2.ownBlock≠some q
def ZCv (v1 v2:Value) (q:Nat):Prop:=v1.ownBlock=some q∨v2.ownBlock=some q
theorem qfe {base:Nat} {w w':World} {bs:List Bool} {v:Value} {Z:Nat→Prop} (h:RBs base w bs v) (hb:Bt Z w w') (hz:∀ q,v.ownBlock=some q→¬ Z q):RBs base w' bs v:=by
 obtain ⟨news,⟨h1,h2⟩,h3⟩:=h
 refine ⟨news,⟨h1,h2.imp id ?_⟩,h3.imp fun x _ cs h=>h⟩
 rintro ⟨g,cap,cur,rfl,hg,hh,hrest⟩
 exact ⟨g,cap,cur,rfl,hg,(hb.block g (Array.getElem?_eq_some_iff.1 hh).1 (hz g rfl)).trans hh,hrest⟩
theorem qfq {base:Nat} {w:World} {bs:List Bool} {v:Value} (h:RBs base w bs v) {q:Nat} (hq:v.ownBlock=some q):base≤q∧q<w.heap.size:=by
 obtain ⟨news,h2,_⟩:=h
 exact qbt h2 q hq
theorem RCv.ext {base:Nat} {w w':World} {c:Cv} {v1 v2:Value} (h:RCv base w c v1 v2) (he:Ext w w'):RCv base w' c v1 v2:=⟨h.l.ext qad.good he,h.e.ext qad.good he,h.ap⟩
theorem RCv.keep {base:Nat} {w w':World} {c:Cv} {v1 v2:Value} {Z:Nat→Prop} (h:RCv base w c v1 v2) (hb:Bt Z w w') (hz:∀ q,ZCv v1 v2 q→¬ Z q):RCv base w' c v1 v2 :=
 ⟨qfe h.l hb fun q e=>hz q (.inl e),qfe h.e hb fun q e=>hz q (.inr e),h.ap⟩
theorem Bt.tail {Z Z':Nat→Prop} {a b c:World} (h:Bt Z a b) (k:Bt Z' b c) (hz:∀ i,Z' i→a.heap.size≤i):Bt Z a c :=
 ⟨k.os.trans h.os,k.tape.trans h.tape,k.output.trans h.output,Nat.le_trans h.size k.size,fun i hi hn=>(k.block i (Nat.lt_of_lt_of_le hi h.size) fun e=>by have:=hz i e;omega).trans (h.block i hi hn)⟩
theorem RCv.own {base B:Nat} {c:Cv} {v1 v2:Value} {W0:World} (h0:RCv base W0 c v1 v2) (hB:W0.heap.size≤B) {X Y:World} {r:Option Nat} {c':Cv} (h:RCv base X c' v1 v2) (hg:X.grownBy Y r) (hr:∀ q,r=some q→B≤q):RCv base Y c' v1 v2:=by
 have key:∀ {bs v},RBs base X bs v→(∀ q,v.ownBlock=some q→q<W0.heap.size)→RBs base Y bs v:=fun h hq=>qfe h (Bt.of_grown hg) fun q e e'=>by
  have:=hq q e
  have:=hr q e'.symm
  omega
 exact ⟨key h.l fun q e=>(qfq h0.l e).2,key h.e fun q e=>(qfq h0.e e).2,h.ap⟩
theorem qkz {base B:Nat} {bs0 bs:List Bool} {v:Value} {W0:World} (h0:RBs base W0 bs0 v) (hB:W0.heap.size≤B) {X Y:World} {r:Option Nat} (h:RBs base X bs v) (hg:X.grownBy Y r) (hr:∀ q,r=some q→B≤q):RBs base Y bs v:=qfe h (Bt.of_grown hg) fun q e e'=>by
 have:=(qfq h0 e).2
 have:=hr q e'.symm
 omega
end
section
set_option maxHeartbeats 1000000
set_option maxRecDepth 100000
/- suite.generate,Generate: walked. -/
open Go.Shelf
theorem plNext_ok (s:Sy) (k:Nat) (lev:List Pl) (h:∀ p∈lev,p.tr.length≤k∧(∀ x∈p.tr,x∈s.ls)∧p.st.length≤s.es.length+1):∀ p∈qb5 s lev,p.tr.length≤k+1∧(∀ x∈p.tr,x∈s.ls)∧p.st.length≤s.es.length+1:=fun p hp=>by
 obtain ⟨q,hq,hp⟩:=List.mem_flatMap.1 hp
 obtain ⟨x,hx,hp⟩:=List.mem_flatMap.1 hp
 unfold qbu at hp
 split at hp
 ·rw [List.mem_singleton.1 hp]
  obtain ⟨h1,h2,_⟩:=h q hq
  have h3:=qnz s x q.st
  refine ⟨by simp only [List.length_append,List.length_cons,List.length_nil];omega,fun y hy=>?_,by show (qa7 s x q.st).length≤_;omega⟩
  rcases List.mem_append.1 hy with hy | hy
  ·exact h2 y hy
  ·rw [List.mem_singleton.1 hy];exact hx
 ·simp at hp
theorem qrj (s:Sy):∀ (d k:Nat) (out lev r:List Pl),(∀ p∈out,p.tr.length≤k∧(∀ x∈p.tr,x∈s.ls)∧p.st.length≤s.es.length+1)→(∀ p∈lev,p.tr.length≤k∧(∀ x∈p.tr,x∈s.ls)∧p.st.length≤s.es.length+1)→out.length≤4000→qca s d out lev=some r →
  (∀ p∈r,p.tr.length≤k+d∧(∀ x∈p.tr,x∈s.ls)∧p.st.length≤s.es.length+1)∧r.length≤4000
 | 0,k,out,lev,r,h,_,hl,e=>by rw [qca] at e;injection e with e;rw [← e];exact ⟨h,hl⟩
 | d+1,k,out,lev,r,h,h',hl,e=>by
  rw [qca] at e
  split at e
  ·cases e
  ·rename_i hn
   have h1:=plNext_ok s k lev h'
   have h2:=qrj s d (k+1) _ _ r (fun p hp=>by
    rcases List.mem_append.1 hp with hp | hp
    ·have:=h p hp;exact ⟨by omega,this.2⟩
    ·exact h1 p hp) h1 (by rw [List.length_append];omega) e
   exact ⟨fun p hp=>by have:=h2.1 p hp;exact ⟨by omega,this.2⟩,h2.2⟩
theorem qq3 (s:Sy) (d:Nat):(∀ p∈qa2 (qfk s d),p.tr.length≤d∧(∀ x∈p.tr,x∈s.ls)∧p.st.length≤s.es.length+1)∧(qa2 (qfk s d)).length≤4000:=by
 cases h:qfk s d with
 | none=>simp [qa2]
 | some r =>
  have h0:∀ p∈[(⟨[],qap s [0]⟩:Pl)],p.tr.length≤0∧(∀ x∈p.tr,x∈s.ls)∧p.st.length≤s.es.length+1:=fun p hp=>by
   rw [List.mem_singleton.1 hp]
   have h1:=qju s [0]
   have:=qf8 s [0]
   simp only [List.length_cons,List.length_nil] at h1
   exact ⟨Nat.le_refl _,by simp,by show (qap s [0]).length≤_;omega⟩
  have:=qrj s d 0 _ _ r h0 h0 (by simp) h
  simpa [qa2] using this
def qbe (s:Sy):List Pl→List Te→Option (List Te)
 | [],out=>some out
 | p :: ps,out=>match qbg s p.st with
  | none=>none
  | some ms=>if 4000<(out++ms.map (Te.mk p.tr)).length then none else qbe s ps (out++ms.map (Te.mk p.tr))
def qbm (s:Sy) (d:Nat):Option (List Te):=match qfk s d with
 | none=>none
 | some pls=>qbe s pls []
theorem infoTea:(Tryz.prog.info? 40).map (fun i=>(i.zero,i.size,i.bytes))=some (some (.agg #[.slice none 0 0,.slice none 0 0]),2,48):=by kernel_rfl
theorem qr3 (S:Nat→Prop) (s:Sy) (hok:qai s) (hsm:qf0 s) (g:Nat) (d:Nat) (w:World) (hS:qau S w g s) (hd:d≤8) :
  Calls Tryz.prog 88 #[.pointer (some ⟨g,0,none⟩),.int .i64 (d:Int)] w (qmn RTe 2 40 (qa2 (qbm s d)) (qes (qbm s d)) w):=by
 have HS:Hid (qau (fun b=>b<w.heap.size) w g s):=hS.mono fun b hb _=>hb
 have hpl:=places_c S s hok g d w hS hd
 have hpo:=qq3 s d
 clear hS
 cases hp:qfk s d with
 | none =>
  have HV:Hid (qbm s d=none):=by show _=_;rw [qbm,hp]
  rw [hp] at hpl
  replace hpl:Calls Tryz.prog 160 #[.pointer (some ⟨g,0,none⟩),.int .i64 (d:Int)] w fun e w'=>∃ A c,e = .returned (.tuple #[.slice A 0 c,.int .i64 2])∧qen RPl 2 (fun _=>True) w' [] (.slice A 0 c)∧Ext w w':=hpl.mono fun _ _ h=>h
  clear hp hpo
  go_enter Tryz.func88,Tryz.ntmps88
  go_wp2_with fail
  refine hpl.mono ?_
  rintro e w1 ⟨A1,c1,rfl,hr1,hx1⟩
  go_wp2_with fail
  go_ret2
  rw [HV.out]
  exact ⟨none,0,rfl,qab.nil ..,hx1⟩
 | some pls =>
  have HV:Hid (qbm s d=qbe s pls []):=by show _=_;rw [qbm,hp]
  rw [hp] at hpl hpo
  replace hpl:Calls Tryz.prog 160 #[.pointer (some ⟨g,0,none⟩),.int .i64 (d:Int)] w fun e w'=>∃ A c,e = .returned (.tuple #[.slice A pls.length c,.int .i64 0])∧qen RPl 2 (fun _=>True) w' pls (.slice A pls.length c)∧Ext w w':=hpl.mono fun _ _ h=>h
  simp only [qa2] at hpo
  obtain ⟨i3,hi3,hzz⟩:=Option.map_eq_some_iff.1 infoTea
  simp only [Prod.mk.injEq] at hzz
  obtain ⟨hz0,hz1,hz2⟩:=hzz
  clear hp
  go_enter Tryz.func88,Tryz.ntmps88
  go_wp2_with fail
  refine hpl.mono ?_
  rintro e wl ⟨A1,c1,rfl,hr1,hx1⟩
  have HPL:=Hd hr1
  have hgl:g<w.heap.size:=by obtain ⟨_,_,_,_,h1,_⟩:=HS.out.ex;exact (Array.getElem?_eq_some_iff.1 h1).1
  clear hr1 hpl
  go_wp2_with fail
  go_loopw [8,26] (fun vo vi wr=>∃ (i:Nat) (out:List Te) (A:Option Addr) (c:Nat),i≤pls.length∧vi = .int .i64 i∧vo = .slice A out.length c∧qab RTe 2 40 wl.heap.size (fun _=>True) wr out (.slice A out.length c)∧Hid (out.length≤4000∧qbe s (pls.drop i) out=qbe s pls [])∧Ext wl wr) (fun _ vi _=>pls.length-(intOf vi).toNat)
  case atStart=>exact ⟨0,[],none,0,Nat.zero_le _,rfl,rfl,qab.nil ..,⟨by simp,rfl⟩,Ext.refl _⟩
  case round =>
   obtain ⟨i,out,A,c,hi,rfl,rfl,hown,hgo,hE⟩:=hrel
   by_cases hlt:i<pls.length
   ·obtain ⟨b,off,cs,rfl,hb,hl,hr,hcell⟩:=HPL.out.get i hlt
    obtain ⟨tp,sp,rfl,htp,hsp⟩:=id hr
    have a0:=Ext.keep hE (hcell.get 0 _)
    have a1:=Ext.keep hE (hcell.get 1 _)
    simp only [Nat.add_zero] at a0
    have hpf:=hpo.1 _ (List.getElem_mem hlt)
    have hgs:=hgo.out.2
    rw [List.drop_eq_getElem_cons hlt] at hgs
    obtain ⟨p,hp⟩:∃ p,pls[i]=p:=⟨_,rfl⟩
    rw [hp] at hpf htp hsp hgs
    have hob:=fun q hq=>hown.own_lt (b:=q) hq
    have hwl:=hx1.size
    have hszE:=hE.size
    have hmc:=fun W (hW:Ext wr W) vs (hv:RSl qac 1 (fun _=>True) W p.st [vs])=>musts_c (fun b=>(Value.slice A out.length c).ownBlock≠some b) (fun _=>True) s hok g p.st vs W ((HS.out.bel (hx1.trans' (hE.trans' hW))).mono fun q _ hq e=>by have:=(hob q e).1;omega) (fun q hq e=>by have:=(hob q e).2;have:=hW.size;omega) hv (by have:=hpf.2.2;have:=hok.2.2.2.1;omega)
    obtain ⟨At,ct,rfl,_,_⟩:=htp.val
    obtain ⟨As,cst,rfl,_,_⟩:=hsp.val
    have HO:=Hd hown
    have HSP:=Hd ((RSl.good qac.good).bel hsp hE)
    have HTP:Hid (qaa (fun b=>b<wl.heap.size) wl p.tr [.slice At p.tr.length ct]):=qaa.good.mono htp fun b hb _=>hb
    clear hr htp hsp hl hcell hp hown
    cases hm:qbg s p.st with
    | none =>
     have HF:Hid (qbm s d=none):=by show _=_;rw [HV.out,← hgs,qbe,hm]
     rw [hm] at hmc
     have hmc2:∀ W,Ext wr W→∀ vs,RSl qac 1 (fun _=>True) W p.st [vs]→Calls Tryz.prog 80 #[.pointer (some ⟨g,0,none⟩),vs] W fun e w'=>∃ A' c',e = .returned (.tuple #[.slice A' 0 c',.int .i64 2])∧qab qaa 1 22 W.heap.size (fun b=>(Value.slice A out.length c).ownBlock≠some b) w' [] (.slice A' 0 c')∧Ext W w':=fun W hW vs hv=>(hmc W hW vs hv).mono fun _ _ h=>h
     clear hgs hm hmc
     go_wp2_with fail
     refine (hmc2 _ ((Ext.refl _).alloc _) _ ((RSl.good qac.good).bel HSP.out ((Ext.refl _).alloc _))).mono ?_
     rintro e w2 ⟨A2,c2,rfl,hr2,hx2⟩
     go_wp2_with fail
     go_ret2
     rw [HF.out]
     exact ⟨none,0,rfl,qab.nil ..,hx1.trans' (hE.trans' (Ext.trans' ((Ext.refl _).alloc _) hx2))⟩
    | some ms =>
     have hml:=qkp s p.st
     have hsub:=qnw s p.st
     rw [hm] at hmc hml hsub
     have hmc2:∀ W,Ext wr W→∀ vs,RSl qac 1 (fun _=>True) W p.st [vs]→Calls Tryz.prog 80 #[.pointer (some ⟨g,0,none⟩),vs] W fun e w'=>∃ A' c',e = .returned (.tuple #[.slice A' ms.length c',.int .i64 0])∧qab qaa 1 22 W.heap.size (fun b=>(Value.slice A out.length c).ownBlock≠some b) w' ms (.slice A' ms.length c')∧Ext W w':=fun W hW vs hv=>(hmc W hW vs hv).mono fun _ _ h=>h
     simp only [qa2] at hml hsub
     clear hmc
     have hgs2:Hid (qbe s pls []=if 4000<(out++ms.map (Te.mk p.tr)).length then none else qbe s (pls.drop (i+1)) (out++ms.map (Te.mk p.tr))):=by show _=_;rw [← hgs,qbe,hm]
     clear hgs hm
     go_wp2_with fail
     refine (hmc2 _ ((Ext.refl _).alloc _) _ ((RSl.good qac.good).bel HSP.out ((Ext.refl _).alloc _))).mono ?_
     rintro e w2 ⟨A2,c2,rfl,hr2,hx2⟩
     have hbp:=World.alloc_heap_new wr (.cells #[.slice At p.tr.length ct,.slice As p.st.length cst] 204)
     have e0:=Ext.keep hx2 (cell_of_row _ _ 0 _ _ _ hbp)
     have hx2':=Ext.trans' ((Ext.refl wr).alloc _) hx2
     have hz2':wr.heap.size+1≤w2.heap.size:=by have:=hx2.size;simp at this;omega
     have HMR:=Hd hr2
     obtain ⟨wa,rfl⟩:∃ wa,wa=wr:=⟨_,rfl⟩
     have hmb:=fun q hq=>hr2.own_lt (b:=q) hq
     obtain ⟨Z,hZ⟩:∃ Z:Nat→Prop,Z=fun q=>(Value.slice A out.length c).ownBlock=some q:=⟨_,rfl⟩
     obtain ⟨oj,hoj⟩:∃ oj:Nat→List Te,oj=fun j=>out++(ms.take j).map (Te.mk p.tr):=⟨_,rfl⟩
     have ho0:Hid (oj 0=out):=by show _=_;rw [hoj];simp
     have ho1:Hid (∀ j,(h:j<ms.length)→oj (j+1)=oj j++[Te.mk p.tr ms[j]]):=by
      intro j h
      rw [hoj]
      simp only
      rw [List.take_succ_eq_append_getElem h,List.map_append,List.append_assoc]
      rfl
     have ho2:Hid (oj ms.length=out++ms.map (Te.mk p.tr)):=by show _=_;rw [hoj];simp only [List.take_length]
     have ho3:Hid (∀ j,(oj j).length≤4000+2000):=by
      intro j
      have h1:=hgo.out.1
      have h2:=hml.1
      rw [hoj]
      simp only [List.length_append,List.length_map,List.length_take]
      omega
     have HO2:=HO.out.ext RTe.good hx2'
     have HOW:=Hd HO2
     have hXw2:Ext wl w2:=hE.trans' hx2'
     clear hbp hr2 hoj HO2
     go_wp2_with fail
     go_loopw [8,42] (fun vo vi wr=>∃ (j:Nat) (A3:Option Addr) (c3:Nat),j≤ms.length∧vi = .int .i64 j∧vo = .slice A3 (oj j).length c3∧qab RTe 2 40 wl.heap.size (fun _=>True) wr (oj j) (.slice A3 (oj j).length c3)∧Hid (Bt Z w2 wr∧(Z=(fun q=>(Value.slice A3 (oj j).length c3).ownBlock=some q)∨∀ q,(Value.slice A3 (oj j).length c3).ownBlock=some q→w2.heap.size≤q))∧Ext wl wr) (fun _ vi _=>ms.length-(intOf vi).toNat)
     case atStart=>exact ⟨0,A,c,Nat.zero_le _,rfl,by rw [ho0.out],by rw [ho0.out];exact HOW.out,⟨Bt.refl _ _,.inl (by rw [hZ,ho0.out])⟩,hXw2⟩
     case round =>
      obtain ⟨j,A3,c3,hj,rfl,rfl,hown3,hbz,hE3⟩:=hrel
      have hlj:=ho3.out j
      by_cases hltj:j<ms.length
      ·obtain ⟨news4,hrow4,_⟩:=id HMR.out
       obtain ⟨g4,cap4,he4⟩:=Joins.ownsRow_form hrow4 (by omega)
       injection he4 with he41 _ he42
       subst he41 he42
       have hg4:=(hmb g4 rfl)
       simp only [World.size_alloc] at hg4
       obtain ⟨u,gc,hru,_⟩:=HMR.out.get1 j hltj
       obtain ⟨Am,cm,rfl,_,_⟩:=hru.val
       have hZno:∀ q,wa.heap.size≤q→¬ Z q:=fun q hq h=>by rw [hZ] at h;have:=(hob q h).2;omega
       have gcr:=hbz.out.1.cell gc (hZno g4 (by omega))
       have e0r:=hbz.out.1.cell e0 (hZno wa.heap.size (Nat.le_refl _))
       have hru2:qaa (fun q=>(Value.slice A out.length c).ownBlock≠some q∧q<w2.heap.size) wr ms[j] [.slice Am ms[j].length cm] :=
        qaa.good.move (qaa.good.mono hru fun q hq h=>⟨h.1,hq⟩) (hbz.out.1.kp fun q _ h hz=>by rw [hZ] at hz;exact h.1 hz)
       have hst:=Hd (ho1.out j hltj)
       have hml2:=hml.2 _ (List.getElem_mem hltj)
       have hms:=hsub _ (List.getElem_mem hltj)
       obtain ⟨m,hmm⟩:∃ m,ms[j]=m:=⟨_,rfl⟩
       rw [hmm] at hru2 gcr hml2 hms
       have HST:Hid (oj (j+1)=oj j++[⟨p.tr,m⟩]):=by show _=_;rw [hst.out,hmm]
       have hcp1:=qmj (fun b=>b<wl.heap.size) p.tr _ wr (qaa.good.bel HTP.out hE3) (fun x hx=>hsm x (hpf.2.1 x hx)) (by have:=hpf.1;omega)
       have hcp2:=fun W (hW:Ext wr W)=>qmj (fun q=>(Value.slice A out.length c).ownBlock≠some q∧q<w2.heap.size) m _ W (qaa.good.bel hru2 hW) (fun x hx=>hsm x (hms x hx)) (by omega)
       have hob3:=fun q hq=>hown3.own_lt (b:=q) hq
       have HOW3:=Hd hown3
       have hsz3:=hbz.out.1.size
       have hlw:=hXw2.size
       clear hrow4 gc hru hst hmm hown3 hru2
       go_wp2_with fail
       refine hcp1.mono ?_
       rintro e w5 ⟨A5,c5,rfl,hr5,hx5⟩
       go_wp2_with fail
       refine (hcp2 _ hx5).mono ?_
       rintro e w6 ⟨A6,c6,rfl,hr6,hx6⟩
       have hx36:=hx5.trans' hx6
       have hz5:=hx5.size
       have hz6:=hx6.size
       have ho7:=HOW3.out.ext RTe.good (hx36.alloc (.cells #[.slice A5 p.tr.length c5,.slice A6 m.length c6] 40))
       obtain ⟨news,hrow,hF⟩:=ho7
       have hcc:=qei w6 #[.slice A5 p.tr.length c5,.slice A6 m.length c6] 40
       have hy:RTe (fun b=>True∧(Value.slice A3 (oj j).length c3).ownBlock≠some b) (w6.alloc (.cells #[.slice A5 p.tr.length c5,.slice A6 m.length c6] 40)) ⟨p.tr,m⟩ [.slice A5 p.tr.length c5,.slice A6 m.length c6]:=by
        refine ⟨_,_,rfl,qaa.good.bel (qaa.good.mono hr5 fun q _ hq=>⟨trivial,fun e=>?_⟩) (hx6.alloc _),qaa.good.bel (qaa.good.mono hr6 fun q _ hq=>⟨trivial,fun e=>?_⟩) ((Ext.refl _).alloc _)⟩
        ·have:=hob3 q e
         rcases hq with h | h
         ·have h1:q<wl.heap.size:=h.1;omega
         ·omega
        ·have h3:=hob3 q e
         rcases hq with h | h
         ·rcases hbz.out.2 with h4 | h4
          ·have:Z q:=by rw [h4];exact e
           rw [hZ] at this
           exact h.1.1 this
          ·have:=h4 q e;have:=h.1.2;omega
         ·omega
       have HF:=Hd hF
       have HY:=Hd hy
       clear hF hy hr5 hr6 hcp1 hcp2
       go_wp2_with (at_builtin;refine wpList_append_own_at _ rfl _ _ 34 rfl wl.heap.size 40 i3 _ 2 48 Tryz.underlying34 hi3 hz0 hz1 hz2 rfl (by decide) _ _ _ rfl hrow ⟨w6.heap.size,0,none⟩ 1 1 [.slice A5 p.tr.length c5,.slice A6 m.length c6] rfl rfl hcc (by simp [Value.oneCell']) (by unfold maxLen;omega) (by omega) (by simp;omega) ?_;intro v8 w8 hown8 hgrow8 hnil8 hat8;obtain ⟨g8,c8,rfl⟩:=ownsRow_succ hown8)
       have hp8:=Hd (qab.push RTe.good HF.out (Flat.single HY.out rfl) hown8 hgrow8 hat8)
       have hX8:Ext wl w8:=Below.grown ((hE3.trans' hx36).alloc _) hgrow8 (by simp;omega) fun q hq=>(hob3 q hq).1
       have hbz8:Bt Z w2 w8:=by
        have h1:Bt (fun q=>Z q∨w2.heap.size≤q) w2 w8:=((hbz.out.1.mono fun q _ h=>.inl h).trans (hx36.alloc _).bt).trans ((Bt.of_grown hgrow8).mono fun q _ h=>by
         rcases hbz.out.2 with h4 | h4
         ·left;rw [h4];exact h.symm
         ·exact .inr (h4 q h.symm))
        exact h1.mono fun q hq h=>h.resolve_right (by omega)
       have hlen8:Hid ((oj (j+1)).length=(oj j).length+1):=by show _=_;rw [HST.out,List.length_append];rfl
       have hown9:Hid (Z=(fun q=>(Value.slice (some ⟨g8,0,none⟩) (oj (j+1)).length c8).ownBlock=some q)∨∀ q,(Value.slice (some ⟨g8,0,none⟩) (oj (j+1)).length c8).ownBlock=some q→w2.heap.size≤q):=by
        have hob8:∀ n,(Value.slice (some ⟨g8,0,none⟩) n c8).ownBlock=some g8:=fun _=>rfl
        rw [hob8] at hat8 ⊢
        rcases hat8 with h | h
        ·rw [h]
         rcases hbz.out.2 with h4 | h4
         ·left;exact h4
         ·right;exact fun q e=>h4 q (h ▸ e)
        ·right
         intro q e
         rw [h] at e
         injection e with e
         simp at e
         omega
       clear hown8 hgrow8 hat8 hnil8 hrow hcc
       go_wp2_with fail
       go_roundw
       case rel=>exact ⟨j+1,some ⟨g8,0,none⟩,c8,by omega,by go_num,by rw [hlen8.out],by rw [hlen8.out,HST.out];exact hp8.out,⟨hbz8,hown9.out⟩,hX8⟩
       case measure=>simp [intOf];omega
      ·obtain rfl:j=ms.length:=by omega
       obtain ⟨o2,ho2e⟩:∃ o2,oj ms.length=o2:=⟨_,rfl⟩
       have hoo:o2=out++ms.map (Te.mk p.tr):=by rw [← ho2e];exact ho2.out
       have hgs3:Hid (qbe s pls []=if 4000<o2.length then none else qbe s (pls.drop (i+1)) o2):=by show _=_;rw [hgs2.out,hoo]
       rw [ho2e] at hown3 ⊢
       have HOW3:=Hd hown3
       clear hown3 hbz ho2e hoo hlj
       by_cases hlim:4000<o2.length
       ·have HF:Hid (qbm s d=none):=by show _=_;rw [HV.out,hgs3.out,if_pos hlim]
        go_wp2_with fail
        go_ret2
        rw [HF.out]
        exact ⟨none,0,rfl,qab.nil ..,hx1.trans' hE3⟩
       ·have hgn:Hid (qbe s (pls.drop (i+1)) o2=qbe s pls []):=by show _=_;rw [hgs3.out,if_neg hlim]
        go_wp2_with fail
        go_roundw
        case rel=>exact ⟨i+1,o2,A3,c3,by omega,by go_num,rfl,HOW3.out,⟨by omega,hgn.out⟩,hE3⟩
        case measure=>simp [intOf];omega
   ·obtain rfl:i=pls.length:=by omega
    have hfin:Hid (qbm s d=some out):=by show _=_;rw [HV.out,← hgo.out.2,List.drop_length,qbe]
    have HO:=Hd hown
    have hwl:=hx1.size
    clear hown
    go_wp2_with fail
    go_ret2
    rw [hfin.out]
    exact ⟨A,c,rfl,HO.out.base hwl,hx1.trans' hE⟩
open Classical in
noncomputable def qdn (s:Sy) (d:Int):Int:=if qai s then (if 0≤d∧d≤8 then qes (qbm s d.toNat) else 1) else 8
open Classical in
noncomputable def qep (s:Sy) (d:Int):List Te:=if qai s∧(0≤d∧d≤8) then qa2 (qbm s d.toNat) else []
theorem qq0 (S:Nat→Prop) (s:Sy) (hsm:qf0 s) (cs:List Value) (d:Int) (w:World) (hx:RSy S w s cs) :
  Calls Tryz.prog 20 #[.agg cs.toArray,.int .i64 d] w (qmn RTe 2 40 (qep s d) (qdn s d) w):=by
 obtain ⟨_,vl,ve,rfl,hvl,hve⟩:=id hx
 obtain ⟨Al,cl,rfl,_,_⟩:=hvl.val
 obtain ⟨Ae,ce,rfl,_,_⟩:=hve.val
 have HX:=Hd hx
 clear hx hvl hve
 by_cases hok:qai s
 case neg =>
  have hcon:=fun W (hW:Ext w W)=>qht S s _ W (RSy.good.bel HX.out hW) hok
  have HV:=Hd (And.intro (show qdn s d=8 from if_neg hok) (show qep s d=[] from if_neg fun h=>hok h.1))
  go_enter Tryz.func20,Tryz.ntmps20
  go_wp2_with fail
  refine (hcon _ bel).mono ?_
  rintro e w1 ⟨rfl,h1⟩
  go_wp2_with fail
  go_ret2
  rw [HV.out.1,HV.out.2]
  exact ⟨none,0,rfl,qab.nil ..,bel⟩
 have hcon:=fun W (hW:Ext w W)=>qhu S s _ W (RSy.good.bel HX.out hW) hok
 by_cases hd0:0≤d
 case neg =>
  have HV:=Hd (And.intro (show qdn s d=1 from by rw [qdn,if_pos hok,if_neg fun h=>hd0 h.1]) (show qep s d=[] from if_neg fun h=>hd0 h.2.1))
  go_enter Tryz.func20,Tryz.ntmps20
  go_wp2_with fail
  refine (hcon _ bel).mono ?_
  rintro e w1 ⟨g,rfl,h1,hg,hS⟩
  go_wp2_with fail
  go_ret2
  rw [HV.out.1,HV.out.2]
  exact ⟨none,0,rfl,qab.nil ..,bel⟩
 by_cases hd8:d≤8
 case neg =>
  have HV:=Hd (And.intro (show qdn s d=1 from by rw [qdn,if_pos hok,if_neg fun h=>hd8 h.2]) (show qep s d=[] from if_neg fun h=>hd8 h.2.2))
  go_enter Tryz.func20,Tryz.ntmps20
  go_wp2_with fail
  refine (hcon _ bel).mono ?_
  rintro e w1 ⟨g,rfl,h1,hg,hS⟩
  go_wp2_with fail
  go_ret2
  rw [HV.out.1,HV.out.2]
  exact ⟨none,0,rfl,qab.nil ..,bel⟩
 have HV:=Hd (And.intro (show qdn s d=qes (qbm s d.toNat) from by rw [qdn,if_pos hok,if_pos ⟨hd0,hd8⟩]) (show qep s d=qa2 (qbm s d.toNat) from if_pos ⟨hok,hd0,hd8⟩))
 have hgc:=fun W g (hg:qau (fun _=>True) W g s)=>qr3 (fun _=>True) s hok hsm g d.toNat W hg (by omega)
 rw [Int.toNat_of_nonneg hd0] at hgc
 go_enter Tryz.func20,Tryz.ntmps20
 go_wp2_with fail
 refine (hcon _ bel).mono ?_
 rintro e w1 ⟨g,rfl,h1,hg,hS⟩
 have hX1:Ext w w1:=bel
 go_wp2_with fail
 refine (hgc _ g (hS.mono fun _ _ _=>trivial)).mono ?_
 rintro e w2 ⟨A2,c2,rfl,ho2,h2⟩
 have HO:=Hd (ho2.base hX1.size)
 clear ho2
 go_wp2_with fail
 go_ret2
 rw [HV.out.1,HV.out.2]
 exact ⟨A2,c2,rfl,HO.out,hX1.trans' h2⟩
end
end Go.Proofs.YtegenalcheooeaaGreat
