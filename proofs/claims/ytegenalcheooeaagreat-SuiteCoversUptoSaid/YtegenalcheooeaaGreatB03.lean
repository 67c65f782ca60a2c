/- Of the proof of a law of the suites: LibCTm, Beh, Su1, Lts3, RefCmp, LibELbs, LibETe, LawS. -/
import Derived.Test.YtegenalcheooeaaGreatB01
import Derived.Test.YtegenalcheooeaaGreatB02
import Derived.Great.BuildSlice
set_option linter.unusedSectionVars false
set_option linter.unusedSimpArgs false
set_option linter.unusedVariables false
namespace Go.Proofs.YtegenalcheooeaaGreat
open Go.RowKit
attribute [local go_sem] cell?_exto
set_option maxHeartbeats 16000000
set_option maxRecDepth 100000
section

theorem cmpFTm (cf:Tm->Tm->Int) (S:Nat->Prop) (w:World) (xs ys:List (Tm)) (v u:Value) (hx:RSl RTm 3 S w xs [v]) (hy:RSl RTm 3 S w ys [u]) (g:Nat) (lb:Array Value)
  (eg:∀args w,(callFunc g args).run Tryz.prog w = .ok (.enter g args) w)
  (hp:∀x∈xs,∀y∈ys,∀cs cs2 W,qag w W->RTm S W x cs->RTm S W y cs2->Calls Tryz.prog g (#[.agg cs.toArray,.agg cs2.toArray]++lb) W λe w'=>e = .returned (.int .i64 (cf x y))/\qag W w') :
  Calls Tryz.prog 188 #[v,u,.func (.func g) #[] lb] w λe w'=>e = .returned (.int .i64 (qa5 cf xs ys))/\qag w w':=by
 obtain⟨A,c,rfl,hc,hc0⟩:=hx.val;obtain⟨A',c',rfl,hc',hc0'⟩:=hy.val;have HX:=Hd hx;have HY:=Hd hy;have HP:=Hd hp;clear hx hy hp
 go_enter Tryz.func188,Tryz.ntmps188
 go_wp2_with fail
 go_loopw [7,8,9,10,13] (λ_ _ _ _ i wr=>∃k:Nat,k<=xs.length/\k<=ys.length/\i = .int .i64 k/\qag w wr/\Hid (qa5 cf xs ys=qa5 cf (xs.drop k) (ys.drop k))) (λ_ _ _ _ i _=>xs.length-(intOf i).toNat)
 case atStart=>exact⟨0,Nat.zero_le _,Nat.zero_le _,rfl,qag.refl _,rfl⟩
 obtain⟨k,hk,hk2,rfl,hE,hf⟩:=hrel
 by_cases hlt:k<xs.length
 .obtain ⟨b,off,cs,rfl,hb,hS,hl,hr,hcell⟩:=((RSl.good RTm.good).ext HX.out hE).get k hlt
  by_cases hlt2:k<ys.length
  .obtain ⟨b2,off2,cs2,rfl,hb2,hS2,hl2,hr2,hcell2⟩:=((RSl.good RTm.good).ext HY.out hE).get k hlt2;have hcon:=λW (hW:qag wr W)=>HP.out xs[k] (List.getElem_mem hlt) ys[k] (List.getElem_mem hlt2) cs cs2 W (hE.trans hW) (RTm.good.ext hr hW) (RTm.good.ext hr2 hW)
   obtain⟨c0,c1,c2,rfl⟩:∃c0 c1 c2,cs=[c0,c1,c2]:=by
    match cs,hl with
    | [c0,c1,c2],_=>exact⟨c0,c1,c2,rfl⟩
   have g0:=(by simpa using hcell.get 0 _:wr.cell? ⟨b,off+k*3,none⟩=some c0)
   have g1:=hcell.get 1 _;have g2:=hcell.get 2 _
   obtain⟨d0,d1,d2,rfl⟩:∃d0 d1 d2,cs2=[d0,d1,d2]:=by
    match cs2,hl2 with
    | [d0,d1,d2],_=>exact⟨d0,d1,d2,rfl⟩
   have q0:=(by simpa using hcell2.get 0 _:wr.cell? ⟨b2,off2+k*3,none⟩=some d0)
   have q1:=hcell2.get 1 _;have q2:=hcell2.get 2 _;have s0:=λ(W:World) (a:Addr) (m:Mode)=>run_store Tryz.prog W a c0 m (RTm.good.one hr c0 (by simp))
   have s1:=λ(W:World) (a:Addr) (m:Mode)=>run_store Tryz.prog W a c1 m (RTm.good.one hr c1 (by simp))
   have s2:=λ(W:World) (a:Addr) (m:Mode)=>run_store Tryz.prog W a c2 m (RTm.good.one hr c2 (by simp))
   have t0:=λ(W:World) (a:Addr) (m:Mode)=>run_store Tryz.prog W a d0 m (RTm.good.one hr2 d0 (by simp))
   have t1:=λ(W:World) (a:Addr) (m:Mode)=>run_store Tryz.prog W a d1 m (RTm.good.one hr2 d1 (by simp))
   have t2:=λ(W:World) (a:Addr) (m:Mode)=>run_store Tryz.prog W a d2 m (RTm.good.one hr2 d2 (by simp))
   rw[List.drop_eq_getElem_cons hlt,List.drop_eq_getElem_cons hlt2,qa5]at hf;clear hcell hcell2 hl hl2 hS hS2 hr hr2
   by_cases hq:cf xs[k] ys[k]=0
   .rw [if_pos hq]at hf;have Hf:=Hd hf;have hq1:(cf xs[k] ys[k] != 0)=false:=by rw[hq];rfl
    rw[hq]at hcon;clear hf hq1 hq
    go_wp2_with fail
    refine(hcon _ qan).mono ?_;rintro e w1 ⟨rfl,h1⟩
    go_wp2_with fail
    go_roundw
    case rel=>exact⟨k+1,by omega,by omega,by go_num,qan,Hf.out⟩
    simp[intOf];omega
   rw[if_neg hq]at hf;have Hf:=Hd hf;have hq1:(cf xs[k] ys[k] != 0)=true:=bne_iff_ne.2 hq;clear hf hq
   go_wp2_with fail
   refine(hcon _ qan).mono ?_;rintro e w1 ⟨rfl,h1⟩
   go_wp2_with fail
   go_ret;exact⟨by rw[Hf.out];rfl,qan⟩
  rw[List.drop_of_length_le (l:=ys) (by omega),List.drop_eq_getElem_cons hlt,qa5]at hf;have Hf:=Hd hf
  obtain⟨c0,c1,c2,rfl⟩:∃c0 c1 c2,cs=[c0,c1,c2]:=by
   match cs,hl with
   | [c0,c1,c2],_=>exact⟨c0,c1,c2,rfl⟩
  have g0:=(by simpa using hcell.get 0 _:wr.cell? ⟨b,off+k*3,none⟩=some c0)
  have g1:=hcell.get 1 _;have g2:=hcell.get 2 _;have s0:=λ(W:World) (a:Addr) (m:Mode)=>run_store Tryz.prog W a c0 m (RTm.good.one hr c0 (by simp))
  have s1:=λ(W:World) (a:Addr) (m:Mode)=>run_store Tryz.prog W a c1 m (RTm.good.one hr c1 (by simp))
  have s2:=λ(W:World) (a:Addr) (m:Mode)=>run_store Tryz.prog W a c2 m (RTm.good.one hr c2 (by simp))
  clear hf hcell
  go_wp2_with fail
  go_ret;exact⟨by rw[Hf.out];rfl,qan⟩
 rw[List.drop_of_length_le (l:=xs) (by omega)]at hf
 by_cases hlt2:k<ys.length
 .rw [List.drop_eq_getElem_cons hlt2,qa5]at hf;have Hf:=Hd hf;clear hf
  go_wp2_with fail
  go_ret;exact⟨by rw[Hf.out];rfl,hE⟩
 rw[List.drop_of_length_le (by omega),qa5]at hf;have Hf:=Hd hf;clear hf
 go_wp2_with fail
 go_ret;exact⟨by rw[Hf.out];rfl,hE⟩
end
section
/- beh: labels compared;lts: edges compared. -/
theorem info3x:∃c,Tryz.prog.info? 3=some c/\c.zero=some (.int .i64 0)/\c.size=1:=by
 have h:(Tryz.prog.info? 3).map (λi=>(i.zero,i.size))=some (some (.int .i64 0),1):=by kernel_rfl
 cases hi:Tryz.prog.info? 3 with
 | none=>rw[hi]at h;simp at h
 | some c=>rw[hi]at h;simp at h;exact⟨c,rfl,h.1,h.2⟩
theorem fill3 (a b c:Value) (m:a.cells = #[a]) (d:b.cells = #[b]) (u:c.cells = #[c]):Instr.fill (λi=>some (i*1,1)) ((Array.range (3*1)).map ((Value.int .i64 0).cells[· % (Value.int .i64 0).cells.size]!)) [(0,a),(1,b),(2,c)]=some #[a,b,c]:=by
 have e:(Array.range (3*1)).map ((Value.int .i64 0).cells[· % (Value.int .i64 0).cells.size]!) = #[.int .i64 0,.int .i64 0,.int .i64 0]:=by
  have:Array.range (3*1) = #[0,1,2]:=by decide
  rw[this];simp[Value.cells]
 rw[e];simp[Instr.fill,m,d,u]
theorem exec_lit3 (ev:Operand->Value) (d:Option Tmp) (x y z:Operand) (D:TypeId) (pos:String) (after:Array Edge) (g:Option (Nat×Bool)) (W:World)
  (F:(ev x).cells = #[ev x]) (m:(ev y).cells = #[ev y]) (A:(ev z).cells = #[ev z]) :
  Sem.run Tryz.prog (execOp ev { dst:=d,op:=.buildSlice 53 3 #[(0,x),(1,y),(2,z)],type:=D,pos:=pos,after:=after,guard:=g }) W =
   .ok (.value (.slice (some ⟨W.heap.size,0,none⟩) 3 3)) (W.alloc (.cells #[ev x,ev y,ev z] 3)):=by
 obtain⟨u,c,E,hs⟩:=info3x;unfold execOp;have:=run_buildSlice W 53 3 3 #[(0,ev x),(1,ev y),(2,ev z)] #[ev x,ev y,ev z] u (.int .i64 0) Tryz.underlying53 c E (by rw[hs];decide) (by rw[hs];decide) (by rw[hs];exact fill3 _ _ _ F m A);simp only[Sem.run_bind,List.map_toArray,List.map_cons,List.map_nil,this,Result.andThen_ok,Sem.run_pure]
attribute [local go_sem ↓] exec_lit3
theorem qp8 (W:World) (l:List Int) (t:TypeId) (h:∀x∈l,I64 x) (c:l.length<=1000) (n:Nat) (hn:n=W.heap.size):RSl qad 1 (λ_=>True) (W.alloc (.cells (l.map λn=>Value.int .i64 n).toArray t)).drew l [.slice (some ⟨n,0,none⟩) l.length l.length]:=by
 subst hn;exact(RSl.good qad.good).ext (qmf W l t h c) (qag.refl _).drew
theorem qph:∀x y:List Tm,qa5 qb9 x y=qax x y
 | [],[]=>by rw[qa5,qax];rfl
 | [],y :: ys=>by rw[qa5,qax];unfold qai;rw[if_pos (by simp only[List.length_cons];omega)]
 | x :: xs,[]=>by rw[qa5,qax]
 | x :: xs,y :: ys=>by rw[qa5,qax,qph xs ys]
theorem eg122:∀args w,(callFunc 122 args).run Tryz.prog w = .ok (.enter 122 args) w:=enters_of Tryz.func122 (by kernel_rfl) rfl
def SigC (x:Tm):Prop:=∀(S:Nat->Prop) (y:Tm) (cx cy:List Value) (W:World),RTm S W x cx->RTm S W y cy ->
  Calls Tryz.prog 122 #[.agg cx.toArray,.agg cy.toArray] W λe w'=>e = .returned (.int .i64 (qb9 x y))/\qag W w'
theorem sig_of (x:Tm) (V:∀z∈x.l,SigC z):SigC x:=by
 intro S y cx cy w L hy;obtain⟨_,_,vx,rfl,u⟩:=(qa6 ..).1 L;obtain⟨_,_,vy,rfl,D⟩:=(qa6 ..).1 hy;have m:=λW (hW:qag w W)=>cmpFTm qb9 S W x.l y.l vx vy (qar.good.ext u hW) (qar.good.ext D hW) 122 #[] eg122 (λx L y hy cs M W' ab F G=>V x L S y cs M W' F G)
 rw[qph]at m;obtain⟨A,c,rfl,hc,ad⟩:=u.val;obtain⟨O,X,rfl,ac,U⟩:=D.val;clear L hy u D V
 have d:qb9 x y=if orI [qai x.k y.k,qai x.n y.n,qai x.l.length y.l.length]=0 then qax x.l y.l else orI [qai x.k y.k,qai x.n y.n,qai x.l.length y.l.length]:=by
  rw[qqk];simp only[orI]
  by_cases F:qai x.k y.k=0
  .by_cases G:qai x.n y.n=0
   .by_cases Y:qai x.l.length y.l.length=0
    .simp [F,G,Y];intro h;exact h.symm
    simp[F,G,Y]
   simp[F,G]
  simp[F]
 by_cases E:orI [qai x.k y.k,qai x.n y.n,qai x.l.length y.l.length]=0
 .rw [if_pos E]at d;have N:=Hd d;have H0:=Hd E;clear E d
  go_enter Tryz.func122,Tryz.ntmps122
  go_wp2_with fail
  go_region_held3 (λW=>W.cell? ⟨w.heap.size,0,none⟩=some (.int .i64 x.k)/\W.cell? ⟨w.heap.size,1,none⟩=some (.int .i64 x.n)/\W.cell? ⟨w.heap.size,2,none⟩=some (.slice A x.l.length c)/\W.cell? ⟨w.heap.size+1,0,none⟩=some (.int .i64 y.k)/\W.cell? ⟨w.heap.size+1,1,none⟩=some (.int .i64 y.n)/\W.cell? ⟨w.heap.size+1,2,none⟩=some (.slice O y.l.length X))
   (first | (refine⟨?_,?_,?_,?_,?_,?_⟩ <;> go_simp <;> done) | exact I.k6 (by assumption) | exact((qag.refl _).alloc _).k6 (by assumption))
   (first | (go_at_call 120;refine(qgh _ _ _).mono ?_;rintro e w' ⟨rfl,rfl⟩) | (go_at_call 119;refine(or_c (λ_=>True) [qai x.k y.k,qai x.n y.n,qai x.l.length y.l.length] _ _ (qp8 _ [qai x.k y.k,qai x.n y.n,qai x.l.length y.l.length] 3 (by intro z J;simp at J;rcases J with rfl | rfl | rfl <;> exact qg6 _ _) (by simp) _ (by simp))).mono ?_;rintro e w' ⟨rfl,rfl⟩))
  rw[H0.out]
  go_wp2_with fail
  refine(m _ qan).mono ?_;rintro e w1 ⟨rfl,I⟩
  go_wp2_with fail
  go_ret;exact⟨by rw[N.out];rfl,qan⟩
 rw[if_neg E]at d;have N:=Hd d;have aa:(orI [qai x.k y.k,qai x.n y.n,qai x.l.length y.l.length] != 0)=true:=bne_iff_ne.2 E;clear E d m
 go_enter Tryz.func122,Tryz.ntmps122
 go_wp2_with fail
 go_region_held3 (λW=>W.cell? ⟨w.heap.size,0,none⟩=some (.int .i64 x.k)/\W.cell? ⟨w.heap.size,1,none⟩=some (.int .i64 x.n)/\W.cell? ⟨w.heap.size,2,none⟩=some (.slice A x.l.length c)/\W.cell? ⟨w.heap.size+1,0,none⟩=some (.int .i64 y.k)/\W.cell? ⟨w.heap.size+1,1,none⟩=some (.int .i64 y.n)/\W.cell? ⟨w.heap.size+1,2,none⟩=some (.slice O y.l.length X))
  (first | (refine⟨?_,?_,?_,?_,?_,?_⟩ <;> go_simp <;> done) | exact I.k6 (by assumption) | exact((qag.refl _).alloc _).k6 (by assumption))
  (first | (go_at_call 120;refine(qgh _ _ _).mono ?_;rintro e w' ⟨rfl,rfl⟩) | (go_at_call 119;refine(or_c (λ_=>True) [qai x.k y.k,qai x.n y.n,qai x.l.length y.l.length] _ _ (qp8 _ [qai x.k y.k,qai x.n y.n,qai x.l.length y.l.length] 3 (by intro z J;simp at J;rcases J with rfl | rfl | rfl <;> exact qg6 _ _) (by simp) _ (by simp))).mono ?_;rintro e w' ⟨rfl,rfl⟩))
 go_wp2_with fail
 go_ret;exact⟨by rw[N.out];rfl,qan⟩
theorem sig_c:∀x,SigC x:=Tm.ind sig_of
theorem lists_c (S:Nat->Prop) (x y:List Tm) (E u:Value) (w:World) (m:qar S w x [E]) (hy:qar S w y [u]) :
  Calls Tryz.prog 121 #[E,u,.func (.func 122) #[] #[]] w λe w'=>e = .returned (.int .i64 (qax x y))/\qag w w':=by
 have d:=λW (G:qag w W)=>cmpFTm qb9 S W x y E u (qar.good.ext m G) (qar.good.ext hy G) 122 #[] eg122 (λx m y hy cs D W' I O L=>sig_c x S y cs D W' O L)
 rw[qph]at d;obtain⟨A,c,rfl,X,N⟩:=m.val;obtain⟨U,V,rfl,J,F⟩:=hy.val;clear m hy
 go_enter Tryz.func121,Tryz.ntmps121
 go_wp2_with fail
 refine(d _ qan).mono ?_;rintro e Y ⟨rfl,M⟩
 go_wp2_with fail
 go_ret;exact⟨rfl,qan⟩
theorem qoh (S:Nat->Prop) (x y:Lb) (F E:List Value) (w:World) (m:RLb S w x F) (hy:RLb S w y E) :
  Calls Tryz.prog 57 #[.agg F.toArray,.agg E.toArray] w λe w'=>e = .returned (.int .i64 (qak x y))/\qag w w':=by
 obtain⟨_,M,rfl,m⟩:=m;obtain⟨_,N,rfl,hy⟩:=hy;have d:=λW (G:qag w W)=>lists_c S x.v y.v M N W (qar.good.ext m G) (qar.good.ext hy G)
 obtain⟨A,c,rfl,V,O⟩:=m.val;obtain⟨L,U,rfl,J,D⟩:=hy.val;clear m hy
 go_enter Tryz.func57,Tryz.ntmps57
 go_wp2_with fail
 go_region_held3 (λW=>W.cell? ⟨w.heap.size,0,none⟩=some (.int .i64 x.g)/\W.cell? ⟨w.heap.size,1,none⟩=some (.slice A x.v.length c)/\W.cell? ⟨w.heap.size+1,0,none⟩=some (.int .i64 y.g)/\W.cell? ⟨w.heap.size+1,1,none⟩=some (.slice L y.v.length U))
  (first | (refine⟨?_,?_,?_,?_⟩ <;> go_simp <;> done) | exact u.k4 (by assumption) | exact((qag.refl _).alloc _).k4 (by assumption))
  (first | (go_at_call 120;refine(qgh _ _ _).mono ?_;rintro e w' ⟨rfl,rfl⟩) | (go_at_call 121;refine(d _ qan).mono ?_;rintro e X ⟨rfl,u⟩) | (go_at_call 119;refine(or_c (λ_=>True) [qai x.g y.g,qax x.v y.v] _ _ (qmf _ [qai x.g y.g,qax x.v y.v] 3 (by intro z I;simp at I;rcases I with rfl | rfl <;> first | exact qg6 _ _ | exact qlm _ _) (by simp))).mono ?_;rintro e w' ⟨rfl,rfl⟩))
 go_wp2_with fail
 go_ret;exact⟨rfl,qan⟩
def qa8 (x y:Lb):Bool:=decide (qak x y=0)
def qbf (x y:Ed):Int:=orI [qai x.f y.f,qai x.l y.l,qai x.t y.t]
theorem qv3 (S:Nat->Prop) (x y:Ed) (m d:List Value) (w:World) (u:REd S w x m) (hy:REd S w y d) :
  Calls Tryz.prog 98 #[.agg m.toArray,.agg d.toArray] w λe w'=>e = .returned (.int .i64 (qbf x y))/\qag w w':=by
 obtain⟨_,_,_,rfl⟩:=u;obtain⟨_,_,_,rfl⟩:=hy
 go_enter Tryz.func98,Tryz.ntmps98
 go_wp2_with fail
 go_region_held3 (λW=>W.cell? ⟨w.heap.size,0,none⟩=some (.int .i64 x.f)/\W.cell? ⟨w.heap.size,1,none⟩=some (.int .i64 x.l)/\W.cell? ⟨w.heap.size,2,none⟩=some (.int .i64 x.t)/\W.cell? ⟨w.heap.size+1,0,none⟩=some (.int .i64 y.f)/\W.cell? ⟨w.heap.size+1,1,none⟩=some (.int .i64 y.l)/\W.cell? ⟨w.heap.size+1,2,none⟩=some (.int .i64 y.t))
  (first | (refine⟨?_,?_,?_,?_,?_,?_⟩ <;> go_simp <;> done) | exact hx1.k6 (by assumption) | exact((qag.refl _).alloc _).k6 (by assumption))
  (first | (go_at_call 120;refine(qgh _ _ _).mono ?_;rintro e w' ⟨rfl,rfl⟩) | (go_at_call 119;refine(or_c (λ_=>True) [qai x.f y.f,qai x.l y.l,qai x.t y.t] _ _ (qp8 _ [qai x.f y.f,qai x.l y.l,qai x.t y.t] 3 (by intro z c;simp at c;rcases c with rfl | rfl | rfl <;> exact qg6 _ _) (by simp) _ (by simp))).mono ?_;rintro e w' ⟨rfl,rfl⟩))
 go_wp2_with fail
 go_ret;exact⟨rfl,qan⟩
end
section
/- suite: what a trace,a set,a test is. -/
def qat (g:Int):Bool:=decide (0<=g) || decide (g = -2)
theorem qj0 (g:Int) (v:Value) (w:World) :
  Calls Tryz.prog 176 #[.agg #[.int .i64 g,v]] w λe w'=>e = .returned (.bool (qat g))/\Ext w w':=by
 by_cases h:0<=g
 .have c:=Hd (show qat g=true from by simp[qat,h])
  go_enter Tryz.func176,Tryz.ntmps176
  go_wp2_with fail
  go_ret;exact⟨by rw[c.out];rfl,bel⟩
 have c:=Hd (show qat g=(g == -2) from by unfold qat;rw[decide_eq_false h,Bool.false_or];rfl)
 go_enter Tryz.func176,Tryz.ntmps176
 go_wp2_with fail
 go_ret;exact⟨by rw[c.out];simp,bel⟩
def okV (x:Lb):Bool:=qa0 x && qat x.g
theorem eg207:∀args w,(callFunc 207 args).run Tryz.prog w = .ok (.enter 207 args) w:=enters_of Tryz.func207 (by kernel_rfl) rfl
theorem shown1_c (S:Nat->Prop) (x:Lb) (cs:List Value) (w:World) (m:RLb S w x cs) :
  Calls Tryz.prog 207 #[.agg cs.toArray] w λe w'=>e = .returned (.bool (!okV x))/\Ext w w':=by
 have c:=λW h=>qo9 S x cs W h
 obtain⟨_,v,rfl,F⟩:=id m;have A:=Hd m;clear m F
 cases d:qa0 x with
 | true =>
  have u:=Hd (show(!okV x) = !qat x.g from by simp[okV,d]);have e:qd1 x=0:=by rw[qd1,if_pos d]
  rw[e]at c;clear e d
  go_enter Tryz.func207,Tryz.ntmps207
  go_wp2_with fail
  refine(c _ (RLb.good.bel A.out bel)).mono ?_;rintro e G ⟨rfl,D⟩;have E:=D.cells
  go_wp2_with fail
  refine(qj0 _ _ _).mono ?_;rintro e J ⟨rfl,I⟩
  go_wp2_with fail
  go_ret;exact⟨by rw[u.out];rfl,bel⟩
 | false =>
  have u:=Hd (show(!okV x)=true from by simp[okV,d]);have e:qd1 x=170:=by rw[qd1,if_neg (by simp[d])]
  rw[e]at c;clear e d
  go_enter Tryz.func207,Tryz.ntmps207
  go_wp2_with fail
  refine(c _ (RLb.good.bel A.out bel)).mono ?_;rintro e G ⟨rfl,D⟩
  go_wp2_with fail
  go_ret;exact⟨by rw[u.out];rfl,bel⟩
theorem any_not {α:Type} (p:α->Bool) (l:List α):(!(l.any λx=>!p x))=l.all p:=by
 induction l with
 | nil=>rfl
 | cons x xs ih=>rw[List.any_cons,List.all_cons,<- ih];cases p x <;> simp
theorem shown_c (S:Nat->Prop) (l:List Lb) (v:Value) (w:World) (m:qaa S w l [v]) :
  Calls Tryz.prog 140 #[v] w λe w'=>e = .returned (.bool (l.all okV))/\Ext w w':=by
 have d:=conPLb (λx=>!okV x) S w l v m 207 #[] eg207 (λx m cs W' F hr=>shown1_c S x cs W' hr);obtain⟨A,c,rfl,E,u⟩:=m.val;have D:=Hd (any_not okV l);clear m
 go_enter Tryz.func140,Tryz.ntmps140
 go_wp2_with fail
 refine d.mono ?_;rintro e I ⟨rfl,G⟩
 go_wp2_with fail
 go_ret;exact⟨by rw[<- D.out];rfl,bel⟩
def qbk (l:List Lb):Bool:=decide (l.length<=40) && l.all okV
theorem qn8 (S:Nat->Prop) (l:List Lb) (v:Value) (w:World) (m:qaa S w l [v]) :
  Calls Tryz.prog 79 #[v] w λe w'=>e = .returned (.bool (qbk l))/\Ext w w':=by
 have d:=shown_c S l v w m;obtain⟨A,c,rfl,E,D⟩:=m.val;clear m
 by_cases h:l.length<=40
 .have u:=Hd (show qbk l=l.all okV from by simp[qbk,h])
  go_enter Tryz.func79,Tryz.ntmps79
  go_wp2_with fail
  refine d.mono ?_;rintro e G ⟨rfl,F⟩
  go_wp2_with fail
  go_ret;exact⟨by rw[u.out];rfl,bel⟩
 have u:=Hd (show qbk l=false from by simp[qbk,h])
 go_enter Tryz.func79,Tryz.ntmps79
 go_wp2_with fail
 go_ret;exact⟨by rw[u.out];rfl,bel⟩
def qf5:List Lb->Bool
 | []=>true
 | [_]=>true
 | a :: b :: r=>decide (qak a b<0) && qf5 (b :: r)
def qbt (l:List Lb):Bool:=qf5 l && decide (l.length<=64) && l.all okV
theorem qir:∀l:List Lb,qf5 l=true↔∀i,(h:i+1<l.length)->qak l[i] l[i+1]<0
 | []=>by simp[qf5]
 | [_]=>by simp[qf5]
 | a :: b :: r=>by
  rw[qf5,Bool.and_eq_true,qir (b :: r),decide_eq_true_eq]
  constructor
  .rintro ⟨c,h⟩ i hi
   cases i with
   | zero=>exact c
   | succ i=>exact h i (by simpa using hi)
  intro h;exact⟨h 0 (by simp),λi hi=>h (i+1) (by simpa using hi)⟩
theorem isSet_c (S:Nat->Prop) (l:List Lb) (v:Value) (w:World) (N:qaa S w l [v]) :
  Calls Tryz.prog 101 #[v] w λe w'=>e = .returned (.bool (qbt l))/\Ext w w':=by
 have E:=λW (hb:Ext w W)=>shown_c S l v W (qaa.good.bel N hb)
 obtain⟨A,c,rfl,hc,aj⟩:=N.val;have HX:=Hd N;clear N
 go_enter Tryz.func101,Tryz.ntmps101
 go_wp2_with fail
 go_loopw [2,3] (λr i wr=>∃k:Nat,1<=k/\(k=1\/k<=l.length)/\i = .int .i64 k/\r = .bool false/\qag w wr/\Hid (∀j,(h:j+1<l.length)->j+1<k->qak l[j] l[j+1]<0)) (λ_ i _=>l.length-(intOf i).toNat)
 case atStart=>exact⟨1,by omega,.inl rfl,rfl,rfl,qag.refl _,λj _ hj=>absurd hj (by omega)⟩
 obtain⟨k,ah,hk,rfl,rfl,hE,hz⟩:=hrel
 by_cases M:k<l.length
 .obtain ⟨k,rfl⟩:∃m,k=m+1:=⟨k-1,by omega⟩
  have U:k<l.length:=by omega
  obtain⟨b,u,cs,rfl,hb,hs,hl,hr,D⟩:=(qaa.good.ext HX.out hE).get k U;obtain⟨b',ae,ai,he,af,V,ac,L,d⟩:=(qaa.good.ext HX.out hE).get (k+1) M;injection he with he
  injection he with he1 he2
  subst he1 he2;obtain⟨_,v1,rfl,ad⟩:=id hr;obtain⟨_,v2,rfl,X⟩:=id L;have g0:=D.get 0 _;have g1:=D.get 1 _;have ab:=d.get 0 _;have ag:=d.get 1 _;simp only[Nat.add_zero]at g0 ab;have I:=λW (hW:qag wr W)=>qi2 S _ _ _ _ W (RLb.good.ext hr hW) (RLb.good.ext L hW)
  have z1:(0:Int)<=(k:Int):=by omega
  have z2:((k:Int)+1)<(l.length:Int):=by omega
  have z3:(0:Int)<=(k:Int)+1:=by omega
  have z4:(k:Int)<(l.length:Int):=by omega
  clear D d hl ac hs V ad X hr L E;have y1:IntKind.i64.wrap ((k:Int)+1-1)=(k:Int):=by rw[IntWalk.i64_in _ (by omega)];omega
  have y2:IntKind.i64.wrap (k:Int)=(k:Int):=IntWalk.i64_in _ (by omega)
  by_cases G:qak l[k] l[k+1]<0
  .have HC:=Hd G;have hd:decide (qak l[k] l[k+1] ≥ 0)=false:=by simp;omega
   have O:decide (0<=qak l[k] l[k+1])=false:=by simp;omega
   clear G
   go_wp2_with fail
   go_region_held3 (λW=>W.cell? ⟨b,u+k*2,none⟩=some (.int .i64 l[k].g)/\W.cell? ⟨b,u+k*2+1,none⟩=some v1/\W.cell? ⟨b,u+(k+1)*2,none⟩=some (.int .i64 l[k+1].g)/\W.cell? ⟨b,u+(k+1)*2+1,none⟩=some v2)
    (first | (refine⟨?_,?_,?_,?_⟩ <;> go_simp <;> done) | exact J.k4 (by assumption) | exact((qag.refl _).alloc _).k4 (by assumption))
    (first | (go_at_call 166;refine(I _ qan).mono ?_;rintro e w1 ⟨rfl,J⟩))
   clear y1 y2
   go_wp2_with fail
   go_roundw
   case rel =>
    refine⟨k+1+1,by omega,.inr (by omega),by go_num,rfl,qan,λj h hj=>?_⟩
    rcases Nat.lt_or_ge j k with h' | h'
    .exact hz j h (by omega)
    obtain rfl:j=k:=by omega
    exact HC.out
   simp[intOf];omega
  have HC:=Hd (show qbt l=false from by
   unfold qbt
   have:qf5 l=false:=by
    cases h:qf5 l with
    | false=>rfl
    | true=>exact absurd ((qir l).1 h k M) G
   rw[this];rfl)
  have O:0<=qak l[k] l[k+1]:=by omega
  clear G
  go_wp2_with fail
  go_region_held3 (λW=>W.cell? ⟨b,u+k*2,none⟩=some (.int .i64 l[k].g)/\W.cell? ⟨b,u+k*2+1,none⟩=some v1/\W.cell? ⟨b,u+(k+1)*2,none⟩=some (.int .i64 l[k+1].g)/\W.cell? ⟨b,u+(k+1)*2+1,none⟩=some v2)
   (first | (refine⟨?_,?_,?_,?_⟩ <;> go_simp <;> done) | exact J.k4 (by assumption) | exact((qag.refl _).alloc _).k4 (by assumption))
   (first | (go_at_call 166;refine(I _ qan).mono ?_;rintro e w1 ⟨rfl,J⟩))
  clear y1 y2
  go_wp2_with fail
  go_ret;exact⟨by rw[HC.out];rfl,bel⟩
 have F:qf5 l=true:=(qir l).2 λi hi=>hz i hi (by omega)
 have aa:=E wr hE.ext;clear hz E
 by_cases h:l.length<=64
 .have Y:=Hd (show qbt l=l.all okV from by simp[qbt,h,F]);clear F
  go_wp2_with fail
  refine aa.mono ?_;rintro e w1 ⟨rfl,h1⟩
  go_wp2_with fail
  go_ret;exact⟨by rw[Y.out];rfl,bel⟩
 have Y:=Hd (show qbt l=false from by simp[qbt,h]);clear F
 go_wp2_with fail
 go_ret;exact⟨by rw[Y.out];rfl,bel⟩
def qbj (t:Te):Bool:=qbk t.tr && decide (0<t.mu.length) && qbt t.mu
def qf3 (t:Te):Int:=if qbj t then 0 else 340
theorem qzq (S:Nat->Prop) (t:Te) (cs:List Value) (w:World) (V:RTe S w t cs) :
  Calls Tryz.prog 45 #[.agg cs.toArray] w λe w'=>e = .returned (.int .i64 (qf3 t))/\Ext w w':=by
 obtain⟨v,u,rfl,J,M⟩:=id V;have F:=λW (m:Ext w W)=>qn8 S t.tr v W (qaa.good.bel J m)
 have I:=λW (m:Ext w W)=>isSet_c S t.mu u W (qaa.good.bel M m)
 obtain⟨A,c,rfl,hc,aa⟩:=J.val;obtain⟨A',c',rfl,Y,U⟩:=M.val;clear V J M
 cases D:qbk t.tr with
 | false =>
  have E:=Hd (show qf3 t=340 from by simp[qf3,qbj,D]);rw[D]at F;clear D
  go_enter Tryz.func45,Tryz.ntmps45
  go_wp2_with fail
  refine(F _ bel).mono ?_;rintro e L ⟨rfl,d⟩
  go_wp2_with fail
  go_ret;exact⟨by rw[E.out];rfl,bel⟩
 | true =>
  rw[D]at F
  by_cases X:0<t.mu.length
  .have N:((t.mu.length:Int) == 0)=false:=beq_eq_false_iff_ne.2 (by omega)
   cases m:qbt t.mu with
   | false =>
    have E:=Hd (show qf3 t=340 from by simp[qf3,qbj,m]);rw[m]at I;clear D m
    go_enter Tryz.func45,Tryz.ntmps45
    go_wp2_with fail
    refine(F _ bel).mono ?_;rintro e L ⟨rfl,d⟩;have G:=d.cells
    go_wp2_with fail
    refine(I _ bel).mono ?_;rintro e w2 ⟨rfl,O⟩
    go_wp2_with fail
    go_ret;exact⟨by rw[E.out];rfl,bel⟩
   | true =>
    have E:=Hd (show qf3 t=0 from by simp[qf3,qbj,D,m,X]);rw[m]at I;clear D m
    go_enter Tryz.func45,Tryz.ntmps45
    go_wp2_with fail
    refine(F _ bel).mono ?_;rintro e L ⟨rfl,d⟩;have G:=d.cells
    go_wp2_with fail
    refine(I _ bel).mono ?_;rintro e w2 ⟨rfl,O⟩
    go_wp2_with fail
    go_ret;exact⟨by rw[E.out];rfl,bel⟩
  have E:=Hd (show qf3 t=340 from by simp[qf3,qbj,X]);have N:((t.mu.length:Int) == 0)=true:=beq_iff_eq.2 (by omega);clear D
  go_enter Tryz.func45,Tryz.ntmps45
  go_wp2_with fail
  refine(F _ bel).mono ?_;rintro e L ⟨rfl,d⟩;have G:=d.cells
  go_wp2_with fail
  go_ret;exact⟨by rw[E.out];rfl,bel⟩
end
section
/- lts.Check: what a transition system is. -/
def isB (a b:Int):Bool:=decide (0<=a) && decide (a<b)
theorem qgo (a b:Int) (w:World):Calls Tryz.prog 97 #[.int .i64 a,.int .i64 b] w λe w'=>e = .returned (.bool (isB a b))/\w'=w:=by
 by_cases h:0<=a
 .have c:=Hd (show isB a b=decide (a<b) from by simp[isB,h])
  go_enter Tryz.func97,Tryz.ntmps97
  go_wp2_with fail
  go_ret;exact⟨by rw[c.out];rfl,rfl⟩
 have c:=Hd (show isB a b=false from by simp[isB,h])
 go_enter Tryz.func97,Tryz.ntmps97
 go_wp2_with fail
 go_ret;exact⟨by rw[c.out];rfl,rfl⟩
def qlw (l:List Lb) (j:Nat):Prop:=∀h:j<l.length,qa0 l[j]=true/\∀h0:0<j,qak (l[j-1]'(by omega)) l[j]<0
def qb8 (s:Sy) (e:Ed):Bool:=isB e.f s.n && isB e.t s.n && isB e.l s.ls.length
def qna (s:Sy) (j:Nat):Prop:=∀h:j<s.es.length,qb8 s s.es[j]=true/\∀h0:0<j,qbf (s.es[j-1]'(by omega)) s.es[j]<0
def qah (s:Sy):Prop:=1<=s.n/\s.n<=20000/\s.ls.length<=4000/\s.es.length<=100000/\(∀j,qlw s.ls j)/\(∀j,qna s j)
noncomputable def ckSy (s:Sy):Int:=@ite _ (qah s) (Classical.propDecidable _) 0 8
theorem qe0 {s:Sy} (h:¬ qah s):ckSy s=8:=if_neg h
theorem qhg {s:Sy} (h:qah s):ckSy s=0:=if_pos h
theorem Check_c (S:Nat->Prop) (s:Sy) (cs:List Value) (w:World) (hx:RSy S w s cs) :
  Calls Tryz.prog 27 #[.agg cs.toArray] w λe w'=>e = .returned (.int .i64 (ckSy s))/\Ext w w':=by
 obtain⟨_,v,u,rfl,hv,hu⟩:=id hx;obtain⟨A,c,rfl,hc,aA⟩:=hv.val;obtain⟨A',c',rfl,ay,av⟩:=hu.val;have HL:=Hd hv;have HE:=Hd hu;clear hx hv hu
 by_cases hb:1<=s.n/\s.n<=20000/\s.ls.length<=4000/\s.es.length<=100000
 case neg =>
  have M:=Hd (qe0 (s:=s) (λh=>hb ⟨h.1,h.2.1,h.2.2.1,h.2.2.2.1⟩));have h4:1<=s.n->s.n<=20000->(s.ls.length:Int)<=4000->100000<(s.es.length:Int):=by omega
  clear hb
  go_enter Tryz.func27,Tryz.ntmps27
  go_wp2_with fail
  all_goals go_ret
  all_goals exact⟨by rw[M.out];rfl,bel⟩
 obtain⟨b1,b2,b3,b4⟩:=hb;have aw:(s.ls.length:Int)<=4000:=by omega
 have ax:(s.es.length:Int)<=100000:=by omega
 go_enter Tryz.func27,Tryz.ntmps27
 go_wp2_with fail
 go_loopw [31] (λi wr=>∃k:Nat,k<=s.ls.length/\i = .int .i64 k/\Ext w wr/\wr.cell? ⟨w.heap.size,0,none⟩=some (.int .i64 s.n)/\wr.cell? ⟨w.heap.size,1,none⟩=some (.slice A s.ls.length c)/\wr.cell? ⟨w.heap.size,2,none⟩=some (.slice A' s.es.length c')/\w.heap.size<wr.heap.size/\Hid (∀j,j<k->qlw s.ls j)) (λi _=>s.ls.length-(intOf i).toNat)
 case atStart=>exact⟨0,Nat.zero_le _,rfl,bel,by go_simp,by go_simp,by go_simp,by simp,λj Y=>absurd Y (by omega)⟩
 obtain⟨k,hk,rfl,U,q0,q1,q2,ab,hz⟩:=hrel
 by_cases J:k<s.ls.length
 .obtain ⟨b,al,cs,rfl,hb,hS,hl,hr,G⟩:=(qaa.good.bel HL.out U).get k J;obtain⟨_,v1,rfl,au⟩:=id hr;have o1:=λ(W:World) (a:Addr) (m:Mode)=>run_store Tryz.prog W a v1 m (RLb.good.one hr v1 (by simp))
  obtain⟨g0,g1⟩:=g2 G;have D:∀(o:Obj) (y:World),Ext wr (qam (wr.alloc o) y):=λo y=>((Ext.refl wr).alloc o).trans' (qa7 _ y)
  have I:=λW (hW:Ext wr W)=>qo9 S _ _ W (RLb.good.bel hr hW)
  clear G hl hS au
  cases V:qa0 s.ls[k] with
  | false =>
   have M:=Hd (qe0 (s:=s) (λh=>by have:=(h.2.2.2.2.1 k J).1;rw[V]at this;cases this));have e:qd1 s.ls[k]=170:=by rw[qd1,if_neg (by rw[V];decide)]
   rw[e]at I;clear e V hr
   go_wp2_with fail
   (refine qap ?_;(repeat (first | go_big_quiet_step ((go_at_call 96;exact qbh (I _ (D _ _)))) | quiet_step ((go_at_call 96;exact qbh (I _ (D _ _))))));refine wpQuiet_nil ?_)
   intro O d
   go_wp2_with fail
   go_ret;exact⟨by rw[M.out];rfl,bel⟩
  | true =>
   have e:qd1 s.ls[k]=0:=by rw[qd1,if_pos V]
   rw[e]at I;clear e
   rcases k with _ | k
   .have HO:=Hd V;simp only[Nat.zero_mul,Nat.add_zero]at g0 g1;clear V hr
    go_wp2_with fail
    (refine qap ?_;(repeat (first | go_big_quiet_step ((go_at_call 96;exact qbh (I _ (D _ _)))) | quiet_step ((go_at_call 96;exact qbh (I _ (D _ _))))));refine wpQuiet_nil ?_)
    intro O d
    go_wp2_with fail
    go_roundw
    case rel =>
     refine⟨1,by omega,by go_num,bel,Ext.keep d (by go_simp),Ext.keep d (by go_simp),Ext.keep d (by go_simp),by have:=d.size;simp at this;omega,λj Y h=>?_⟩;obtain rfl:j=0:=by omega
     exact⟨HO.out,λh0=>absurd h0 (by omega)⟩
    simp[intOf];omega
   have ac:k<s.ls.length:=by omega
   obtain⟨b',ag,aq,he,ak,ae,ad,N,F⟩:=(qaa.good.bel HL.out U).get k ac;injection he with he
   injection he with he1 he2
   subst he1 he2;obtain⟨_,v2,rfl,an⟩:=id N;obtain⟨ap,am⟩:=g2 F;have E:=λW (hW:Ext wr W)=>qoh S _ _ _ _ W (RLb.good.bel N hW) (RLb.good.bel hr hW)
   have z1:(0:Int)<=(k:Int):=by omega
   have z2:((k:Int)+1)<(s.ls.length:Int):=by omega
   have z4:(k:Int)<(s.ls.length:Int):=by omega
   have z5:(0:Int)<(k:Int)+1:=by omega
   have HO:=Hd V;clear V hr N F ad ae an
   by_cases L:qak s.ls[k] s.ls[k+1]<0
   .have HC:=Hd L;have aa:decide (0<=qak s.ls[k] s.ls[k+1])=false:=by simp;omega
    clear L
    go_wp2_with fail
    (refine qap ?_;(repeat (first | go_big_quiet_step ((first | (go_at_call 96;exact qbh (I _ (D _ _))) | (go_at_call 57;exact qaq (E _ (D _ _))))) | quiet_step ((first | (go_at_call 96;exact qbh (I _ (D _ _))) | (go_at_call 57;exact qaq (E _ (D _ _)))))));refine wpQuiet_nil ?_)
    intro O d
    go_wp2_with fail
    go_roundw
    case rel =>
     refine⟨k+1+1,by omega,by go_num,bel,Ext.keep d (by go_simp),Ext.keep d (by go_simp),Ext.keep d (by go_simp),by have:=d.size;simp at this;omega,λj Y h=>?_⟩
     rcases Nat.lt_or_ge j (k+1)with h' | h'
     .exact hz j h' h
     obtain rfl:j=k+1:=by omega
     exact⟨HO.out,λ_=>HC.out⟩
    simp[intOf];omega
   have M:=Hd (qe0 (s:=s) (λh=>L ((h.2.2.2.2.1 (k+1) J).2 (by omega))));have aa:0<=qak s.ls[k] s.ls[k+1]:=by omega
   clear L
   go_wp2_with fail
   (refine qap ?_;(repeat (first | go_big_quiet_step ((first | (go_at_call 96;exact qbh (I _ (D _ _))) | (go_at_call 57;exact qaq (E _ (D _ _))))) | quiet_step ((first | (go_at_call 96;exact qbh (I _ (D _ _))) | (go_at_call 57;exact qaq (E _ (D _ _)))))));refine wpQuiet_nil ?_)
   intro O d
   go_wp2_with fail
   go_ret;exact⟨by rw[M.out];rfl,bel⟩
 have aj:∀j,qlw s.ls j:=λj h=>hz j (by omega) h
 have ao:=Hd aj;clear aj hz
 go_wp2_with fail
 have ai:=q0;have af:=q1;have ah:=q2;have X:=ab;clear q0 q1 q2 ab J hk
 go_loopw [58] (λi wr=>∃k:Nat,k<=s.es.length/\i = .int .i64 k/\Ext w wr/\wr.cell? ⟨w.heap.size,0,none⟩=some (.int .i64 s.n)/\wr.cell? ⟨w.heap.size,1,none⟩=some (.slice A s.ls.length c)/\wr.cell? ⟨w.heap.size,2,none⟩=some (.slice A' s.es.length c')/\w.heap.size<wr.heap.size/\Hid (∀j,j<k->qna s j)) (λi _=>s.es.length-(intOf i).toNat)
 case atStart=>exact⟨0,Nat.zero_le _,rfl,U,ai,af,ah,X,λj Y=>absurd Y (by omega)⟩
 clear ai af ah X U;obtain⟨k,hk,rfl,U,q0,q1,q2,ab,hz⟩:=hrel;have D:∀(o:Obj) (y:World),Ext wr (qam (wr.alloc o) y):=λo y=>((Ext.refl wr).alloc o).trans' (qa7 _ y)
 by_cases J:k<s.es.length
 .obtain ⟨b,al,cs,rfl,hb,hS,hl,hr,G⟩:=(qa3.good.bel HE.out U).get k J;obtain⟨_,_,_,rfl⟩:=id hr;obtain⟨g0,g1,g2⟩:=g3 G;clear G hl hS
  cases hf:isB s.es[k].f s.n with
  | false =>
   have M:=Hd (qe0 (s:=s) (λh=>by have:=(h.2.2.2.2.2 k J).1;rw[qb8,hf]at this;cases this));clear hr
   go_wp2_with fail
   (refine qap ?_;(repeat (first | go_big_quiet_step ((first | (go_at_call 97;exact qbs (qgo _ _ _)) | (go_at_call 98;exact qaq (E _ (D _ _))))) | quiet_step ((first | (go_at_call 97;exact qbs (qgo _ _ _)) | (go_at_call 98;exact qaq (E _ (D _ _)))))));refine wpQuiet_nil ?_)
   intro O d
   go_wp2_with fail
   go_ret;exact⟨by rw[M.out];rfl,bel⟩
  | true =>
   cases ht:isB s.es[k].t s.n with
   | false =>
    have M:=Hd (qe0 (s:=s) (λh=>by have:=(h.2.2.2.2.2 k J).1;rw[qb8,hf,ht]at this;cases this));clear hr
    go_wp2_with fail
    (refine qap ?_;(repeat (first | go_big_quiet_step ((first | (go_at_call 97;exact qbs (qgo _ _ _)) | (go_at_call 98;exact qaq (E _ (D _ _))))) | quiet_step ((first | (go_at_call 97;exact qbs (qgo _ _ _)) | (go_at_call 98;exact qaq (E _ (D _ _)))))));refine wpQuiet_nil ?_)
    intro O d
    go_wp2_with fail
    go_ret;exact⟨by rw[M.out];rfl,bel⟩
   | true =>
    cases hl:isB s.es[k].l s.ls.length with
    | false =>
     have M:=Hd (qe0 (s:=s) (λh=>by have:=(h.2.2.2.2.2 k J).1;rw[qb8,hf,ht,hl]at this;cases this));clear hr
     go_wp2_with fail
     (refine qap ?_;(repeat (first | go_big_quiet_step ((first | (go_at_call 97;exact qbs (qgo _ _ _)) | (go_at_call 98;exact qaq (E _ (D _ _))))) | quiet_step ((first | (go_at_call 97;exact qbs (qgo _ _ _)) | (go_at_call 98;exact qaq (E _ (D _ _)))))));refine wpQuiet_nil ?_)
     intro O d
     go_wp2_with fail
     go_ret;exact⟨by rw[M.out];rfl,bel⟩
    | true =>
     have HO:=Hd (show qb8 s s.es[k]=true from by rw[qb8,hf,ht,hl];rfl)
     rcases k with _ | k
     .simp only[Nat.zero_mul,Nat.add_zero]at g0 g1 g2;clear hr
      go_wp2_with fail
      (refine qap ?_;(repeat (first | go_big_quiet_step ((go_at_call 97;exact qbs (qgo _ _ _))) | quiet_step ((go_at_call 97;exact qbs (qgo _ _ _)))));refine wpQuiet_nil ?_)
      intro O d
      go_wp2_with fail
      go_roundw
      case rel =>
       refine⟨1,by omega,by go_num,bel,Ext.keep d (by go_simp),Ext.keep d (by go_simp),Ext.keep d (by go_simp),by have:=d.size;simp at this;omega,λj Y h=>?_⟩;obtain rfl:j=0:=by omega
       exact⟨HO.out,λh0=>absurd h0 (by omega)⟩
      simp[intOf];omega
     have ac:k<s.es.length:=by omega
     obtain⟨b',ag,aq,he,ak,ae,ad,N,F⟩:=(qa3.good.bel HE.out U).get k ac;injection he with he
     injection he with he1 he2
     subst he1 he2;obtain⟨_,_,_,rfl⟩:=id N;obtain⟨ap,am,az⟩:=g3 F;have E:=λW (hW:Ext wr W)=>qv3 S _ _ _ _ W (REd.good.bel N hW) (REd.good.bel hr hW)
     have z1:(0:Int)<=(k:Int):=by omega
     have z2:((k:Int)+1)<(s.es.length:Int):=by omega
     have z4:(k:Int)<(s.es.length:Int):=by omega
     have z5:(0:Int)<(k:Int)+1:=by omega
     clear hr N F ad ae
     by_cases L:qbf s.es[k] s.es[k+1]<0
     .have HC:=Hd L;have aa:decide (0<=qbf s.es[k] s.es[k+1])=false:=by simp;omega
      clear L
      go_wp2_with fail
      (refine qap ?_;(repeat (first | go_big_quiet_step ((first | (go_at_call 97;exact qbs (qgo _ _ _)) | (go_at_call 98;exact qaq (E _ (D _ _))))) | quiet_step ((first | (go_at_call 97;exact qbs (qgo _ _ _)) | (go_at_call 98;exact qaq (E _ (D _ _)))))));refine wpQuiet_nil ?_)
      intro O d
      go_wp2_with fail
      go_roundw
      case rel =>
       refine⟨k+1+1,by omega,by go_num,bel,Ext.keep d (by go_simp),Ext.keep d (by go_simp),Ext.keep d (by go_simp),by have:=d.size;simp at this;omega,λj Y h=>?_⟩
       rcases Nat.lt_or_ge j (k+1)with h' | h'
       .exact hz j h' h
       obtain rfl:j=k+1:=by omega
       exact⟨HO.out,λ_=>HC.out⟩
      simp[intOf];omega
     have M:=Hd (qe0 (s:=s) (λh=>L ((h.2.2.2.2.2 (k+1) J).2 (by omega))));have aa:0<=qbf s.es[k] s.es[k+1]:=by omega
     clear L
     go_wp2_with fail
     (refine qap ?_;(repeat (first | go_big_quiet_step ((first | (go_at_call 97;exact qbs (qgo _ _ _)) | (go_at_call 98;exact qaq (E _ (D _ _))))) | quiet_step ((first | (go_at_call 97;exact qbs (qgo _ _ _)) | (go_at_call 98;exact qaq (E _ (D _ _)))))));refine wpQuiet_nil ?_)
     intro O d
     go_wp2_with fail
     go_ret;exact⟨by rw[M.out];rfl,bel⟩
 have M:=Hd (qhg (s:=s) ⟨b1,b2,b3,b4,ao.out,λj h=>hz j (by omega) h⟩);clear hz
 go_wp2_with fail
 go_ret;exact⟨by rw[M.out];rfl,U⟩
end
section
/- The reference's order of labels;what is the same: walked. -/
theorem qn9 (a b:Int) (w:World):Calls Tryz.prog 285 #[.int .i64 a,.int .i64 b] w λe w'=>e = .returned (.int .i64 (qai a b))/\w'=w:=by
 by_cases d:a<b
 .have c:=Hd (show qai a b = -1 from if_pos d)
  go_enter Tryz.func285,Tryz.ntmps285
  go_wp2_with fail
  go_ret;exact⟨by rw[c.out];rfl,rfl⟩
 by_cases m:b<a
 .have c:=Hd (show qai a b=1 from by unfold qai;rw[if_neg d,if_pos m])
  go_enter Tryz.func285,Tryz.ntmps285
  go_wp2_with fail
  go_ret;exact⟨by rw[c.out];rfl,rfl⟩
 have c:=Hd (show qai a b=0 from by unfold qai;rw[if_neg d,if_neg m])
 go_enter Tryz.func285,Tryz.ntmps285
 go_wp2_with fail
 go_ret;exact⟨by rw[c.out];rfl,rfl⟩
def RCmpC (x:Tm):Prop:=∀(S:Nat->Prop) (y:Tm) (cx cy:List Value) (W:World),RTm S W x cx->RTm S W y cy ->
  Calls Tryz.prog 266 #[.agg cx.toArray,.agg cy.toArray] W λe w'=>e = .returned (.int .i64 (qb9 x y))/\qag W w'
theorem cmpI_zero {a b:Int} (h:qai a b=0):a=b:=by
 unfold qai at h
 split at h
 .simp at h
 split at h
 .simp at h
 omega
theorem rcmp_of (x:Tm) (ht:∀z∈x.l,RCmpC z):RCmpC x:=by
 intro S y cx cy w hx hy;obtain⟨_,_,vx,rfl,af⟩:=(qa6 ..).1 hx;obtain⟨_,_,vy,rfl,ae⟩:=(qa6 ..).1 hy;obtain⟨A,c,rfl,hc,aw⟩:=af.val;obtain⟨A',c',rfl,aA,aq⟩:=ae.val;have HX:=Hd af;have HY:=Hd ae;have HT:=Hd ht;have d:=qqk x y;simp only[orI]at d;clear hx hy af ae ht
 by_cases L:qai x.k y.k=0
 case neg =>
  rw[if_neg L]at d;have I:=Hd d;have b1:(qai x.k y.k == 0)=false:=beq_eq_false_iff_ne.2 L;clear d L
  go_enter Tryz.func266,Tryz.ntmps266
  go_wp2_with (go_at_call 285;refine(qn9 _ _ _).mono ?_;rintro e w' ⟨rfl,rfl⟩)
  go_loopw [5,6] (λM N wr=>M = .int .i64 (qai x.k y.k)/\N = .int .i64 0/\qag w wr/\wr.cell? ⟨w.heap.size,2,none⟩=some (.slice A x.l.length c)) (λ_ _ _=>0)
  case atStart=>exact⟨rfl,rfl,qan,by go_simp⟩
  obtain⟨rfl,rfl,G,q0⟩:=hrel
  by_cases ah:0<x.l.length
  .have J:decide (0<(x.l.length:Int))=true:=decide_eq_true (by omega)
   go_wp2_with fail
   go_ret;exact⟨by rw[I.out];rfl,G⟩
  have J:decide (0<(x.l.length:Int))=false:=decide_eq_false (by omega)
  go_wp2_with fail
  go_ret;exact⟨by rw[I.out];rfl,G⟩
 rw[if_pos L]at d
 by_cases h2:qai x.n y.n=0
 case neg =>
  rw[if_neg h2]at d;have I:=Hd d;have b1:(qai x.k y.k == 0)=true:=beq_iff_eq.2 L;have b2:(qai x.n y.n == 0)=false:=beq_eq_false_iff_ne.2 h2;clear d L h2
  go_enter Tryz.func266,Tryz.ntmps266
  go_wp2_with (go_at_call 285;refine(qn9 _ _ _).mono ?_;rintro e w' ⟨rfl,rfl⟩)
  go_loopw [5,6] (λM N wr=>M = .int .i64 (qai x.n y.n)/\N = .int .i64 0/\qag w wr/\wr.cell? ⟨w.heap.size,2,none⟩=some (.slice A x.l.length c)) (λ_ _ _=>0)
  case atStart=>exact⟨rfl,rfl,qan,by go_simp⟩
  obtain⟨rfl,rfl,G,q0⟩:=hrel
  by_cases ah:0<x.l.length
  .have J:decide (0<(x.l.length:Int))=true:=decide_eq_true (by omega)
   go_wp2_with fail
   go_ret;exact⟨by rw[I.out];rfl,G⟩
  have J:decide (0<(x.l.length:Int))=false:=decide_eq_false (by omega)
  go_wp2_with fail
  go_ret;exact⟨by rw[I.out];rfl,G⟩
 rw[if_pos h2]at d
 by_cases h3:qai x.l.length y.l.length=0
 case neg =>
  rw[if_neg h3]at d;have I:=Hd d;have b1:(qai x.k y.k == 0)=true:=beq_iff_eq.2 L;have b2:(qai x.n y.n == 0)=true:=beq_iff_eq.2 h2;have b3:(qai x.l.length y.l.length == 0)=false:=beq_eq_false_iff_ne.2 h3;clear d L h2 h3
  go_enter Tryz.func266,Tryz.ntmps266
  go_wp2_with (go_at_call 285;refine(qn9 _ _ _).mono ?_;rintro e w' ⟨rfl,rfl⟩)
  go_loopw [5,6] (λM N wr=>M = .int .i64 (qai x.l.length y.l.length)/\N = .int .i64 0/\qag w wr/\wr.cell? ⟨w.heap.size,2,none⟩=some (.slice A x.l.length c)) (λ_ _ _=>0)
  case atStart=>exact⟨rfl,rfl,qan,by go_simp⟩
  obtain⟨rfl,rfl,G,q0⟩:=hrel
  by_cases ah:0<x.l.length
  .have J:decide (0<(x.l.length:Int))=true:=decide_eq_true (by omega)
   go_wp2_with fail
   go_ret;exact⟨by rw[I.out];rfl,G⟩
  have J:decide (0<(x.l.length:Int))=false:=decide_eq_false (by omega)
  go_wp2_with fail
  go_ret;exact⟨by rw[I.out];rfl,G⟩
 rw[if_pos h3]at d;have ag:x.l.length=y.l.length:=by have:=cmpI_zero h3;omega
 have Y:qb9 x y=qax x.l y.l:=by rw[d];split <;> simp_all
 have I:=Hd Y;have b1:(qai x.k y.k == 0)=true:=beq_iff_eq.2 L;have b2:(qai x.n y.n == 0)=true:=beq_iff_eq.2 h2;have HL:=Hd ag;clear d Y L h2 ag
 go_enter Tryz.func266,Tryz.ntmps266
 go_wp2_with (go_at_call 285;refine(qn9 _ _ _).mono ?_;rintro e w' ⟨rfl,rfl⟩)
 go_loopw [5,6] (λM N wr=>∃(k:Nat) (X:Int),k<=x.l.length/\N = .int .i64 k/\M = .int .i64 X/\qag w wr/\wr.cell? ⟨w.heap.size,2,none⟩=some (.slice A x.l.length c)/\wr.cell? ⟨w.heap.size+1,2,none⟩=some (.slice A' y.l.length c') /\
  Hid ((X=0/\qax x.l y.l=qax (x.l.drop k) (y.l.drop k))\/(X≠0/\qax x.l y.l=X))) (λM N _=>if intOf M=0 then x.l.length+1-(intOf N).toNat else 0)
 case atStart=>exact⟨0,0,Nat.zero_le _,rfl,rfl,qan,by go_simp,by go_simp,.inl ⟨rfl,rfl⟩⟩
 obtain⟨k,X,hk,rfl,rfl,G,q0,q1,F⟩:=hrel
 by_cases O:k<x.l.length
 .by_cases U:X=0
  .subst U;have aa:k<y.l.length:=by rw[<- HL.out];exact O
   obtain⟨b,V,cs,rfl,hb,hs,hl,hr,D⟩:=(qar.good.ext HX.out G).get k O;obtain⟨b',E,au,rfl,av,ao,an,ad,u⟩:=(qar.good.ext HY.out G).get k aa;obtain⟨i1,i2,v,rfl,hv⟩:=(qa6 ..).1 hr;obtain⟨ay,aB,v',rfl,ai⟩:=(qa6 ..).1 ad;obtain⟨A2,c2,rfl,_,_⟩:=hv.val;obtain⟨am,ap,rfl,_,_⟩:=ai.val;have g0:=D.get 0 _;have g1:=D.get 1 _;have g2:=D.get 2 _;have ak:=u.get 0 _;have ax:=u.get 1 _;have az:=u.get 2 _;simp only[Nat.add_zero]at g0 ak;have ab:=λW (hW:qag wr W)=>HT.out x.l[k] (List.getElem_mem O) S y.l[k] _ _ W (RTm.good.ext hr hW) (RTm.good.ext ad hW)
   have hq:qax x.l y.l=if qb9 x.l[k] y.l[k]=0 then qax (x.l.drop (k+1)) (y.l.drop (k+1)) else qb9 x.l[k] y.l[k]:=by
    rcases F.out with⟨_,h⟩ | ⟨h,_⟩
    .rw [h,List.drop_eq_getElem_cons O,List.drop_eq_getElem_cons aa,qax]
    exact absurd rfl h
   have HQ:=Hd hq;have z2:(k:Int)<(x.l.length:Int):=by omega
   have z3:(k:Int)<(y.l.length:Int):=by omega
   clear D u hl an hs ao hr ad hv ai F hq;obtain⟨m,hm⟩:=nm (qb9 x.l[k] y.l[k]);rw[hm]at ab HQ;clear hm
   go_wp2_with fail
   go_region_held3 (λW=>W.cell? ⟨w.heap.size,2,none⟩=some (.slice (some ⟨b,V,none⟩) x.l.length c)/\W.cell? ⟨w.heap.size+1,2,none⟩=some (.slice (some ⟨b',E,none⟩) y.l.length c')/\W.cell? ⟨b,V+k*3,none⟩=some (.int .i64 x.l[k].k)/\W.cell? ⟨b,V+k*3+1,none⟩=some (.int .i64 x.l[k].n)/\W.cell? ⟨b,V+k*3+2,none⟩=some (.slice A2 x.l[k].l.length c2)/\W.cell? ⟨b',E+k*3,none⟩=some (.int .i64 y.l[k].k)/\W.cell? ⟨b',E+k*3+1,none⟩=some (.int .i64 y.l[k].n)/\W.cell? ⟨b',E+k*3+2,none⟩=some (.slice am y.l[k].l.length ap))
    (first | (refine⟨?_,?_,?_,?_,?_,?_,?_,?_⟩ <;> go_simp <;> done) | exact ac.k8 (by assumption) | exact((qag.refl _).alloc _).k8 (by assumption))
    (first | (go_at_call 266;refine(ab _ qan).mono ?_;rintro e w1 ⟨rfl,ac⟩))
   have aj:=qag.keep (ac) (show wr.drew.cell? ⟨w.heap.size,2,none⟩=_ from q0);have al:=qag.keep (ac) (show wr.drew.cell? ⟨w.heap.size+1,2,none⟩=_ from q1)
   go_wp2_with fail
   go_roundw
   case rel =>
    refine⟨k+1,m,by omega,by go_num,rfl,qan,aj,al,?_⟩
    by_cases e:m=0
    .exact .inl ⟨e,by rw[HQ.out,if_pos e]⟩
    exact .inr ⟨e,by rw[HQ.out,if_neg e]⟩
   simp[intOf]
   split <;> omega
  have hq:qax x.l y.l=X:=by
   rcases F.out with⟨h,_⟩ | ⟨_,h⟩
   .exact absurd h U
   exact h
  have HQ:=Hd hq;have bq:(X == 0)=false:=beq_eq_false_iff_ne.2 U;clear F hq U
  go_wp2_with fail
  go_ret;exact⟨by rw[I.out,HQ.out];rfl,G⟩
 have hq:qax x.l y.l=X:=by
  rcases F.out with⟨rfl,h⟩ | ⟨_,h⟩
  .rw [h,List.drop_eq_nil_of_le (by omega),List.drop_eq_nil_of_le (by rw[<- HL.out];omega),qax];rfl
  exact h
 have HQ:=Hd hq;clear F hq
 go_wp2_with fail
 all_goals go_ret
 all_goals exact⟨by rw[I.out,HQ.out];rfl,G⟩
theorem rcmp_c:∀x,RCmpC x:=Tm.ind rcmp_of
theorem rterms_c (S:Nat->Prop) (x y:List Tm) (vx vy:Value) (w:World) (hx:qar S w x [vx]) (hy:qar S w y [vy]) :
  Calls Tryz.prog 232 #[vx,vy] w λe w'=>e = .returned (.int .i64 (qax x y))/\qag w w':=by
 obtain⟨A,c,rfl,hc,am⟩:=hx.val;obtain⟨A',c',rfl,ai,ae⟩:=hy.val;have HX:=Hd hx;have HY:=Hd hy;clear hx hy
 go_enter Tryz.func232,Tryz.ntmps232
 go_wp2_with fail
 go_loopw [5] (λvi wr=>∃k:Nat,k<=x.length/\k<=y.length/\vi = .int .i64 k/\qag w wr/\Hid (qax x y=qax (x.drop k) (y.drop k))) (λvi _=>x.length-(intOf vi).toNat)
 case atStart=>exact⟨0,Nat.zero_le _,Nat.zero_le _,rfl,qan,rfl⟩
 obtain⟨k,hk,X,rfl,hE,F⟩:=hrel
 by_cases V:k<x.length
 .by_cases I:k<y.length
  .obtain ⟨b,E,cs,rfl,hb,hs,hl,hr,D⟩:=(qar.good.ext HX.out hE).get k V;obtain⟨b',u,al,rfl,af,ab,ad,L,d⟩:=(qar.good.ext HY.out hE).get k I;obtain⟨i1,i2,v,rfl,hv⟩:=(qa6 ..).1 hr;obtain⟨ah,ak,v',rfl,U⟩:=(qa6 ..).1 L;obtain⟨A2,c2,rfl,_,_⟩:=hv.val;obtain⟨O,Y,rfl,_,_⟩:=U.val;have g0:=D.get 0 _;have g1:=D.get 1 _;have g2:=D.get 2 _;have ac:=d.get 0 _;have ag:=d.get 1 _;have aj:=d.get 2 _;simp only[Nat.add_zero]at g0 ac;have G:=λW (hW:qag wr W)=>rcmp_c x[k] S y[k] _ _ W (RTm.good.ext hr hW) (RTm.good.ext L hW)
   have hq:qax x y=if qb9 x[k] y[k]=0 then qax (x.drop (k+1)) (y.drop (k+1)) else qb9 x[k] y[k]:=by
    rw[F.out,List.drop_eq_getElem_cons V,List.drop_eq_getElem_cons I,qax]
   have N:=Hd hq;have z2:(k:Int)<(x.length:Int):=by omega
   have z3:(k:Int)<(y.length:Int):=by omega
   clear D d hl ad hs ab hr L hv U F hq;obtain⟨m,hm⟩:=nm (qb9 x[k] y[k]);rw[hm]at G N;clear hm
   by_cases M:m=0
   .have aa:(m != 0)=false:=by simp[M]
    rw[if_pos M]at N;clear M
    go_wp2_with fail
    go_region_held3 (λW=>W.cell? ⟨b,E+k*3,none⟩=some (.int .i64 x[k].k)/\W.cell? ⟨b,E+k*3+1,none⟩=some (.int .i64 x[k].n)/\W.cell? ⟨b,E+k*3+2,none⟩=some (.slice A2 x[k].l.length c2)/\W.cell? ⟨b',u+k*3,none⟩=some (.int .i64 y[k].k)/\W.cell? ⟨b',u+k*3+1,none⟩=some (.int .i64 y[k].n)/\W.cell? ⟨b',u+k*3+2,none⟩=some (.slice O y[k].l.length Y))
     (first | (refine⟨?_,?_,?_,?_,?_,?_⟩ <;> go_simp <;> done) | exact J.k6 (by assumption) | exact((qag.refl _).alloc _).k6 (by assumption))
     (first | (go_at_call 266;refine(G _ qan).mono ?_;rintro e w1 ⟨rfl,J⟩))
    go_wp2_with fail
    go_roundw
    case rel=>exact⟨k+1,by omega,by omega,by go_num,qan,N.out⟩
    simp[intOf];omega
   have aa:(m != 0)=true:=by simp[M]
   rw[if_neg M]at N;clear M
   go_wp2_with fail
   go_region_held3 (λW=>W.cell? ⟨b,E+k*3,none⟩=some (.int .i64 x[k].k)/\W.cell? ⟨b,E+k*3+1,none⟩=some (.int .i64 x[k].n)/\W.cell? ⟨b,E+k*3+2,none⟩=some (.slice A2 x[k].l.length c2)/\W.cell? ⟨b',u+k*3,none⟩=some (.int .i64 y[k].k)/\W.cell? ⟨b',u+k*3+1,none⟩=some (.int .i64 y[k].n)/\W.cell? ⟨b',u+k*3+2,none⟩=some (.slice O y[k].l.length Y))
    (first | (refine⟨?_,?_,?_,?_,?_,?_⟩ <;> go_simp <;> done) | exact J.k6 (by assumption) | exact((qag.refl _).alloc _).k6 (by assumption))
    (first | (go_at_call 266;refine(G _ qan).mono ?_;rintro e w1 ⟨rfl,J⟩))
   go_wp2_with fail
   go_ret;exact⟨by rw[N.out];rfl,qan⟩
  have e:qax x y=qai x.length y.length:=by rw[F.out,qq6 (by omega) hk X]
  have HE:Hid _:=e;clear e F
  go_wp2_with (go_at_call 120;refine(qgh _ _ _).mono ?_;rintro e w' ⟨rfl,rfl⟩)
  go_ret;exact⟨by rw[HE.out];rfl,hE⟩
 have e:qax x y=qai x.length y.length:=by rw[F.out,qq6 (by omega) hk X]
 have HE:Hid _:=e;clear e F
 go_wp2_with (go_at_call 120;refine(qgh _ _ _).mono ?_;rintro e w' ⟨rfl,rfl⟩)
 go_ret;exact⟨by rw[HE.out];rfl,hE⟩
theorem cmpLb_or (x y:Lb):qak x y=if qai x.g y.g=0 then qax x.v y.v else qai x.g y.g:=by
 unfold qak;simp only[orI]
 by_cases h:qai x.g y.g=0
 .rw [if_pos h,if_pos h]
  split
  .rename_i c;exact c.symm
  rfl
 rw[if_neg h,if_neg h]
theorem qmx (S:Nat->Prop) (x y:Lb) (I G:List Value) (w:World) (D:RLb S w x I) (hy:RLb S w y G) :
  Calls Tryz.prog 172 #[.agg I.toArray,.agg G.toArray] w λe w'=>e = .returned (.int .i64 (qak x y))/\qag w w':=by
 obtain⟨_,N,rfl,D⟩:=D;obtain⟨_,L,rfl,hy⟩:=hy;have m:=λW (J:qag w W)=>rterms_c S x.v y.v N L W (qar.good.ext D J) (qar.good.ext hy J)
 obtain⟨A,c,rfl,hc,U⟩:=D.val;obtain⟨X,Y,rfl,M,F⟩:=hy.val;have d:=cmpLb_or x y;clear D hy
 by_cases u:qai x.g y.g=0
 .rw [if_pos u]at d;have E:=Hd d;have V:(qai x.g y.g != 0)=false:=by simp[u]
  clear d u
  go_enter Tryz.func172,Tryz.ntmps172
  go_wp2_with (first | (go_at_call 120;refine(qgh _ _ _).mono ?_;rintro e w' ⟨rfl,rfl⟩) | (go_at_call 232;refine(m _ qan).mono ?_;rintro e w1 ⟨rfl,O⟩))
  go_ret;exact⟨by rw[E.out];rfl,qan⟩
 rw[if_neg u]at d;have E:=Hd d;have V:(qai x.g y.g != 0)=true:=by simp[u]
 clear d u m
 go_enter Tryz.func172,Tryz.ntmps172
 go_wp2_with (first | (go_at_call 120;refine(qgh _ _ _).mono ?_;rintro e w' ⟨rfl,rfl⟩))
 go_ret;exact⟨by rw[E.out];rfl,qan⟩
theorem qk9 (S:Nat->Prop) (x y:Lb) (m u:List Value) (w:World) (d:RLb S w x m) (hy:RLb S w y u) :
  Calls Tryz.prog 133 #[.agg m.toArray,.agg u.toArray] w λe w'=>e = .returned (.bool (qa8 x y))/\qag w w':=by
 have c:=λW (A:qag w W)=>qmx S x y m u W (RLb.good.ext d A) (RLb.good.ext hy A)
 obtain⟨_,E,rfl,d⟩:=d;obtain⟨_,F,rfl,hy⟩:=hy;clear d hy
 go_enter Tryz.func133,Tryz.ntmps133
 go_wp2_with fail
 refine(c _ qan).mono ?_;rintro e G ⟨rfl,D⟩
 go_wp2_with fail
 go_ret;exact⟨rfl,qan⟩
end
section

theorem eqFLbs (cf:List Lb->List Lb->Bool) (S:Nat->Prop) (w:World) (xs ys:List (List Lb)) (v u:Value) (hx:RSl qaa 1 S w xs [v]) (hy:RSl qaa 1 S w ys [u]) (g:Nat) (lb:Array Value)
  (eg:∀args w,(callFunc g args).run Tryz.prog w = .ok (.enter g args) w)
  (hp:∀x∈xs,∀y∈ys,∀cs cs2 W,qag w W->qaa S W x cs->qaa S W y cs2->Calls Tryz.prog g (#[cs.headD undef,cs2.headD undef]++lb) W λe w'=>e = .returned (.bool (cf x y))/\qag W w') :
  Calls Tryz.prog 93 #[v,u,.func (.func g) #[] lb] w λe w'=>e = .returned (.bool (leq cf xs ys))/\qag w w':=by
 obtain⟨A,c,rfl,hc,hc0⟩:=hx.val;obtain⟨A',c',rfl,hc',hc0'⟩:=hy.val;have HX:=Hd hx;have HY:=Hd hy;have HP:=Hd hp;clear hx hy hp
 by_cases hlen:xs.length=ys.length
 case neg =>
  have HL:=Hd (qkg cf xs ys hlen);have hne:((xs.length:Int) != (ys.length:Int))=true:=bne_iff_ne.2 (by omega);clear hlen
  go_enter Tryz.func93,Tryz.ntmps93
  go_wp2_with fail
  go_ret;exact⟨by rw[HL.out];rfl,qag.refl _⟩
 have hne:((xs.length:Int) != (ys.length:Int))=false:=bne_eq_false_iff_eq.2 (by omega);have hle1:xs.length<=ys.length:=by omega
 have hle2:ys.length<=xs.length:=by omega
 have HLEN:=Hd hlen;clear hlen
 go_enter Tryz.func93,Tryz.ntmps93
 go_wp2_with fail
 go_loopw [7,8,9,17] (λ_ _ _ i wr=>∃k:Nat,k<=xs.length/\k<=ys.length/\i = .int .i64 k/\qag w wr/\Hid (leq cf xs ys=leq cf (xs.drop k) (ys.drop k))) (λ_ _ _ i _=>xs.length-(intOf i).toNat)
 case atStart=>exact⟨0,Nat.zero_le _,Nat.zero_le _,rfl,qag.refl _,rfl⟩
 obtain⟨k,hk,hk2,rfl,hE,hf⟩:=hrel
 by_cases hlt:k<xs.length
 .obtain ⟨b,off,cs,rfl,hb,hS,hl,hr,hcell⟩:=((RSl.good qaa.good).ext HX.out hE).get k hlt;have hlt2:k<ys.length:=by omega
  obtain⟨b2,off2,cs2,rfl,hb2,hS2,hl2,hr2,hcell2⟩:=((RSl.good qaa.good).ext HY.out hE).get k hlt2;have hcon:=λW (hW:qag wr W)=>HP.out xs[k] (List.getElem_mem hlt) ys[k] (List.getElem_mem hlt2) cs cs2 W (hE.trans hW) (qaa.good.ext hr hW) (qaa.good.ext hr2 hW)
  obtain⟨c0,rfl⟩:∃c0,cs=[c0]:=by
   match cs,hl with
   | [c0],_=>exact⟨c0,rfl⟩
  have g0:=(by simpa using hcell.get 0 _:wr.cell? ⟨b,off+k,none⟩=some c0)
  obtain⟨d0,rfl⟩:∃d0,cs2=[d0]:=by
   match cs2,hl2 with
   | [d0],_=>exact⟨d0,rfl⟩
  have q0:=(by simpa using hcell2.get 0 _:wr.cell? ⟨b2,off2+k,none⟩=some d0)
  rw[List.drop_eq_getElem_cons hlt,List.drop_eq_getElem_cons hlt2,leq]at hf;clear hcell hcell2 hl hl2 hS hS2 hr hr2
  cases hq:cf xs[k] ys[k] with
  | true =>
   rw[hq]at hf hcon;have Hf:=Hd hf;clear hf hq
   go_wp2_with fail
   refine(hcon _ qan).mono ?_;rintro e w1 ⟨rfl,h1⟩
   go_wp2_with fail
   go_roundw
   case rel=>exact⟨k+1,by omega,by omega,by go_num,qan,by rw[Hf.out];exact Bool.true_and _⟩
   simp[intOf];omega
  | false =>
   rw[hq]at hf hcon;have Hf:=Hd hf;clear hf hq
   go_wp2_with fail
   refine(hcon _ qan).mono ?_;rintro e w1 ⟨rfl,h1⟩
   go_wp2_with fail
   go_ret;exact⟨by rw[Hf.out];rfl,qan⟩
 rw[List.drop_of_length_le (l:=xs) (by omega),List.drop_of_length_le (by omega),leq]at hf;have Hf:=Hd hf;clear hf
 go_wp2_with fail
 go_ret;exact⟨by rw[Hf.out];rfl,hE⟩
end
section

theorem eqFTe (cf:Te->Te->Bool) (S:Nat->Prop) (w:World) (xs ys:List (Te)) (v u:Value) (hx:RSl RTe 2 S w xs [v]) (hy:RSl RTe 2 S w ys [u]) (g:Nat) (lb:Array Value)
  (eg:∀args w,(callFunc g args).run Tryz.prog w = .ok (.enter g args) w)
  (hp:∀x∈xs,∀y∈ys,∀cs cs2 W,qag w W->RTe S W x cs->RTe S W y cs2->Calls Tryz.prog g (#[.agg cs.toArray,.agg cs2.toArray]++lb) W λe w'=>e = .returned (.bool (cf x y))/\qag W w') :
  Calls Tryz.prog 23 #[v,u,.func (.func g) #[] lb] w λe w'=>e = .returned (.bool (leq cf xs ys))/\qag w w':=by
 obtain⟨A,c,rfl,hc,hc0⟩:=hx.val;obtain⟨A',c',rfl,hc',hc0'⟩:=hy.val;have HX:=Hd hx;have HY:=Hd hy;have HP:=Hd hp;clear hx hy hp
 by_cases hlen:xs.length=ys.length
 case neg =>
  have HL:=Hd (qkg cf xs ys hlen);have hne:((xs.length:Int) != (ys.length:Int))=true:=bne_iff_ne.2 (by omega);clear hlen
  go_enter Tryz.func23,Tryz.ntmps23
  go_wp2_with fail
  go_ret;exact⟨by rw[HL.out];rfl,qag.refl _⟩
 have hne:((xs.length:Int) != (ys.length:Int))=false:=bne_eq_false_iff_eq.2 (by omega);have hle1:xs.length<=ys.length:=by omega
 have hle2:ys.length<=xs.length:=by omega
 have HLEN:=Hd hlen;clear hlen
 go_enter Tryz.func23,Tryz.ntmps23
 go_wp2_with fail
 go_loopw [7,8,9,17] (λ_ _ _ i wr=>∃k:Nat,k<=xs.length/\k<=ys.length/\i = .int .i64 k/\qag w wr/\Hid (leq cf xs ys=leq cf (xs.drop k) (ys.drop k))) (λ_ _ _ i _=>xs.length-(intOf i).toNat)
 case atStart=>exact⟨0,Nat.zero_le _,Nat.zero_le _,rfl,qag.refl _,rfl⟩
 obtain⟨k,hk,hk2,rfl,hE,hf⟩:=hrel
 by_cases hlt:k<xs.length
 .obtain ⟨b,off,cs,rfl,hb,hS,hl,hr,hcell⟩:=((RSl.good RTe.good).ext HX.out hE).get k hlt;have hlt2:k<ys.length:=by omega
  obtain⟨b2,off2,cs2,rfl,hb2,hS2,hl2,hr2,hcell2⟩:=((RSl.good RTe.good).ext HY.out hE).get k hlt2;have hcon:=λW (hW:qag wr W)=>HP.out xs[k] (List.getElem_mem hlt) ys[k] (List.getElem_mem hlt2) cs cs2 W (hE.trans hW) (RTe.good.ext hr hW) (RTe.good.ext hr2 hW)
  obtain⟨c0,c1,rfl⟩:∃c0 c1,cs=[c0,c1]:=by
   match cs,hl with
   | [c0,c1],_=>exact⟨c0,c1,rfl⟩
  have g0:=(by simpa using hcell.get 0 _:wr.cell? ⟨b,off+k*2,none⟩=some c0)
  have g1:=hcell.get 1 _
  obtain⟨d0,d1,rfl⟩:∃d0 d1,cs2=[d0,d1]:=by
   match cs2,hl2 with
   | [d0,d1],_=>exact⟨d0,d1,rfl⟩
  have q0:=(by simpa using hcell2.get 0 _:wr.cell? ⟨b2,off2+k*2,none⟩=some d0)
  have q1:=hcell2.get 1 _;have s0:=λ(W:World) (a:Addr) (m:Mode)=>run_store Tryz.prog W a c0 m (RTe.good.one hr c0 (by simp))
  have s1:=λ(W:World) (a:Addr) (m:Mode)=>run_store Tryz.prog W a c1 m (RTe.good.one hr c1 (by simp))
  have t0:=λ(W:World) (a:Addr) (m:Mode)=>run_store Tryz.prog W a d0 m (RTe.good.one hr2 d0 (by simp))
  have t1:=λ(W:World) (a:Addr) (m:Mode)=>run_store Tryz.prog W a d1 m (RTe.good.one hr2 d1 (by simp))
  rw[List.drop_eq_getElem_cons hlt,List.drop_eq_getElem_cons hlt2,leq]at hf;clear hcell hcell2 hl hl2 hS hS2 hr hr2
  cases hq:cf xs[k] ys[k] with
  | true =>
   rw[hq]at hf hcon;have Hf:=Hd hf;clear hf hq
   go_wp2_with fail
   refine(hcon _ qan).mono ?_;rintro e w1 ⟨rfl,h1⟩
   go_wp2_with fail
   go_roundw
   case rel=>exact⟨k+1,by omega,by omega,by go_num,qan,by rw[Hf.out];exact Bool.true_and _⟩
   simp[intOf];omega
  | false =>
   rw[hq]at hf hcon;have Hf:=Hd hf;clear hf hq
   go_wp2_with fail
   refine(hcon _ qan).mono ?_;rintro e w1 ⟨rfl,h1⟩
   go_wp2_with fail
   go_ret;exact⟨by rw[Hf.out];rfl,qan⟩
 rw[List.drop_of_length_le (l:=xs) (by omega),List.drop_of_length_le (by omega),leq]at hf;have Hf:=Hd hf;clear hf
 go_wp2_with fail
 go_ret;exact⟨by rw[Hf.out];rfl,hE⟩
end
section
/- The law's words: labels,arcs,tests;what is the same: walked. -/
def qgt (a b:List Lb):Bool:=leq qa8 a b
theorem qo8 (S:Nat->Prop) (x y:List Lb) (vx vy:Value) (w:World) (hx:qaa S w x [vx]) (hy:qaa S w y [vy]) :
  Calls Tryz.prog 94 #[vx,vy] w λe w'=>e = .returned (.bool (qgt x y))/\qag w w':=by
 obtain⟨A,c,rfl,hc,ak⟩:=hx.val;obtain⟨A',c',rfl,ai,ae⟩:=hy.val;have HX:=Hd hx;have HY:=Hd hy;clear hx hy
 by_cases D:x.length=y.length
 case neg =>
  have Y:=Hd (qkg qa8 x y D);have aa:((x.length:Int) != (y.length:Int))=true:=bne_iff_ne.2 (by omega);clear D
  go_enter Tryz.func94,Tryz.ntmps94
  go_wp2_with fail
  go_ret;exact⟨by rw[qgt,Y.out];rfl,qag.refl _⟩
 have aa:((x.length:Int) != (y.length:Int))=false:=bne_eq_false_iff_eq.2 (by omega);have Y:=Hd D;clear D
 go_enter Tryz.func94,Tryz.ntmps94
 go_wp2_with fail
 go_loopw [5] (λvi wr=>∃k:Nat,k<=x.length/\vi = .int .i64 k/\qag w wr/\Hid (leq qa8 x y=leq qa8 (x.drop k) (y.drop k))) (λvi _=>x.length-(intOf vi).toNat)
 case atStart=>exact⟨0,Nat.zero_le _,rfl,qan,rfl⟩
 obtain⟨k,hk,rfl,hE,I⟩:=hrel
 by_cases L:k<x.length
 .have J:k<y.length:=by rw[<- Y.out];exact L
  obtain⟨b,G,cs,rfl,hb,hs,hl,hr,m⟩:=(qaa.good.ext HX.out hE).get k L;obtain⟨b',E,aj,rfl,af,ab,ad,N,d⟩:=(qaa.good.ext HY.out hE).get k J;have u:=λW (hW:qag wr W)=>qk9 S x[k] y[k] _ _ W (RLb.good.ext hr hW) (RLb.good.ext N hW)
  obtain⟨i1,v,rfl,hv⟩:=id hr;obtain⟨ah,v',rfl,V⟩:=id N;obtain⟨A2,c2,rfl,_,_⟩:=hv.val;obtain⟨U,X,rfl,_,_⟩:=V.val;have g0:=m.get 0 _;have g1:=m.get 1 _;have ac:=d.get 0 _;have ag:=d.get 1 _;simp only[Nat.add_zero]at g0 ac
  have F:leq qa8 x y=(qa8 x[k] y[k] && leq qa8 (x.drop (k+1)) (y.drop (k+1))):=by
   rw[I.out,List.drop_eq_getElem_cons L,List.drop_eq_getElem_cons J,leq]
  have z2:(k:Int)<(x.length:Int):=by omega
  have z3:(k:Int)<(y.length:Int):=by omega
  clear m d hl ad hs ab hr N hv V I
  cases hm:qa8 x[k] y[k] with
  | true =>
   rw[hm]at u F;rw[Bool.true_and]at F;have O:=Hd F;clear hm F
   go_wp2_with fail
   go_region_held3 (λW=>W.cell? ⟨b,G+k*2,none⟩=some (.int .i64 x[k].g)/\W.cell? ⟨b,G+k*2+1,none⟩=some (.slice A2 x[k].v.length c2)/\W.cell? ⟨b',E+k*2,none⟩=some (.int .i64 y[k].g)/\W.cell? ⟨b',E+k*2+1,none⟩=some (.slice U y[k].v.length X))
    (first | (refine⟨?_,?_,?_,?_⟩ <;> go_simp <;> done) | exact M.k4 (by assumption) | exact((qag.refl _).alloc _).k4 (by assumption))
    (first | (go_at_call 133;refine(u _ qan).mono ?_;rintro e w1 ⟨rfl,M⟩))
   go_wp2_with fail
   go_roundw
   case rel=>exact⟨k+1,by omega,by go_num,qan,O.out⟩
   simp[intOf];omega
  | false =>
   rw[hm]at u F;rw[Bool.false_and]at F;have O:=Hd F;clear hm F
   go_wp2_with fail
   go_region_held3 (λW=>W.cell? ⟨b,G+k*2,none⟩=some (.int .i64 x[k].g)/\W.cell? ⟨b,G+k*2+1,none⟩=some (.slice A2 x[k].v.length c2)/\W.cell? ⟨b',E+k*2,none⟩=some (.int .i64 y[k].g)/\W.cell? ⟨b',E+k*2+1,none⟩=some (.slice U y[k].v.length X))
    (first | (refine⟨?_,?_,?_,?_⟩ <;> go_simp <;> done) | exact M.k4 (by assumption) | exact((qag.refl _).alloc _).k4 (by assumption))
    (first | (go_at_call 133;refine(u _ qan).mono ?_;rintro e w1 ⟨rfl,M⟩))
   go_wp2_with fail
   go_ret;exact⟨by rw[qgt,O.out];rfl,qan⟩
 have F:leq qa8 x y=true:=by rw[I.out,List.drop_eq_nil_of_le (by omega),List.drop_eq_nil_of_le (by rw[<- Y.out];omega)];rfl
 have O:=Hd F;clear I F
 go_wp2_with fail
 go_ret;exact⟨by rw[qgt,O.out];rfl,hE⟩
theorem eg94:∀args w,(callFunc 94 args).run Tryz.prog w = .ok (.enter 94 args) w:=enters_of Tryz.func94 (by kernel_rfl) rfl
def sameSs (a b:List (List Lb)):Bool:=leq qgt a b
theorem qvi (S:Nat->Prop) (x y:List (List Lb)) (m u:Value) (w:World) (D:RSl qaa 1 S w x [m]) (hy:RSl qaa 1 S w y [u]) :
  Calls Tryz.prog 22 #[m,u] w λe w'=>e = .returned (.bool (sameSs x y))/\qag w w':=by
 have d:=λW (G:qag w W)=>eqFLbs qgt S W x y m u ((RSl.good qaa.good).ext D G) ((RSl.good qaa.good).ext hy G) 94 #[] eg94 (λx _ y _ cs J W' _ I E=>by
  obtain⟨A,c,rfl,_⟩:=id I;obtain⟨L,U,rfl,_⟩:=id E
  exact qo8 S x y _ _ W' I E)
 obtain⟨A,c,rfl,V,O⟩:=D.val;obtain⟨L,U,rfl,M,F⟩:=hy.val;clear D hy
 go_enter Tryz.func22,Tryz.ntmps22
 go_wp2_with fail
 refine(d _ qan).mono ?_;rintro e X ⟨rfl,N⟩
 go_wp2_with fail
 go_ret;exact⟨rfl,qan⟩
def qj7 (a b:Te):Bool:=qgt a.tr b.tr && qgt a.mu b.mu
theorem qsd (S:Nat->Prop) (x y:Te) (Y V:List Value) (w:World) (hx:RTe S w x Y) (hy:RTe S w y V) :
  Calls Tryz.prog 24 #[.agg Y.toArray,.agg V.toArray] w λe w'=>e = .returned (.bool (qj7 x y))/\qag w w':=by
 obtain⟨v,u,rfl,N,U⟩:=hx;obtain⟨v',u',rfl,E,D⟩:=hy;have J:=λW (G:qag w W)=>qo8 S x.tr y.tr v v' W (qaa.good.ext N G) (qaa.good.ext E G)
 have h2:=λW (G:qag w W)=>qo8 S x.mu y.mu u u' W (qaa.good.ext U G) (qaa.good.ext D G)
 obtain⟨A,c,rfl,_,_⟩:=N.val;obtain⟨A',c',rfl,_,_⟩:=E.val;obtain⟨B,d,rfl,_,_⟩:=U.val;obtain⟨B',d',rfl,_,_⟩:=D.val;clear N U E D;have m:qj7 x y=(qgt x.tr y.tr && qgt x.mu y.mu):=rfl
 cases L:qgt x.tr y.tr with
 | true =>
  rw[L]at J m;rw[Bool.true_and]at m;have M:=Hd m;clear L m
  go_enter Tryz.func24,Tryz.ntmps24
  go_wp2_with fail
  refine(J _ qan).mono ?_;rintro e I ⟨rfl,F⟩;have k0:I.cell? ⟨w.heap.size,1,none⟩=some (.slice B x.mu.length d):=qag.keep F (by go_simp);have k1:I.cell? ⟨w.heap.size+1,1,none⟩=some (.slice B' y.mu.length d'):=qag.keep F (by go_simp);have X:qag w I:=qan
  go_wp2_with fail
  refine(h2 _ X).mono ?_;rintro e w2 ⟨rfl,O⟩
  go_wp2_with fail
  go_ret;exact⟨by rw[M.out];rfl,X.trans O⟩
 | false =>
  rw[L]at J m;rw[Bool.false_and]at m;have M:=Hd m;clear L m h2
  go_enter Tryz.func24,Tryz.ntmps24
  go_wp2_with fail
  refine(J _ qan).mono ?_;rintro e I ⟨rfl,F⟩
  go_wp2_with fail
  go_ret;exact⟨by rw[M.out];rfl,qan⟩
theorem eg24:∀args w,(callFunc 24 args).run Tryz.prog w = .ok (.enter 24 args) w:=enters_of Tryz.func24 (by kernel_rfl) rfl
theorem qyb (S:Nat->Prop) (xs ys:List Te) (v u:Value) (w:World) (m:RSl RTe 2 S w xs [v]) (hy:RSl RTe 2 S w ys [u]) :
  Calls Tryz.prog 23 #[v,u,.func (.func 24) #[] #[]] w λe w'=>e = .returned (.bool (leq qj7 xs ys))/\qag w w' :=
 eqFTe qj7 S w xs ys v u m hy 24 #[] eg24 λx _ y _ cs c W _ A d=>qsd S x y cs c W A d
end
end Go.Proofs.YtegenalcheooeaaGreat
