/- Of the proof of a law of the suites: LibCTm, Beh, LibITm, LibILbs. -/
import Derived.Test.YtegenalcheooeaaGreatB02
import Derived.Great.BuildSlice
set_option linter.unusedSectionVars false
set_option linter.unusedSimpArgs false
set_option linter.unusedVariables false
namespace Go.Proofs.YtegenalcheooeaaGreat
open Go.RowKit
attribute [local go_sem] cell?_exto
section

set_option maxHeartbeats 1000000 in
set_option maxRecDepth 100000 in
theorem cmpFTm (cf:Tm->Tm->Int) (S:Nat->Prop) (w:World) (xs ys:List (Tm)) (v u:Value) (hx:RSl RTm 3 S w xs [v]) (hy:RSl RTm 3 S w ys [u]) (g:Nat) (lb:Array Value)
  (eg:∀ args w,(callFunc g args).run Tryz.prog w = .ok (.enter g args) w)
  (hp:∀ x∈xs,∀ y∈ys,∀ cs cs2 W,qad w W->RTm S W x cs->RTm S W y cs2->Calls Tryz.prog g (#[.agg cs.toArray,.agg cs2.toArray]++lb) W fun e w'=>e = .returned (.int .i64 (cf x y))∧qad W w') :
  Calls Tryz.prog 188 #[v,u,.func (.func g) #[] lb] w fun e w'=>e = .returned (.int .i64 (qa2 cf xs ys))∧qad w w':=by
 obtain ⟨A,c,rfl,hc,hc0⟩:=hx.val
 obtain ⟨A',c',rfl,hc',hc0'⟩:=hy.val
 have HX:=Hd hx
 have HY:=Hd hy
 have HP:=Hd hp
 clear hx hy hp
 go_enter Tryz.func188,Tryz.ntmps188
 go_wp2_with fail
 go_loopw [7,8,9,10,13] (fun _ _ _ _ i wr=>∃ k:Nat,k<=xs.length∧k<=ys.length∧i = .int .i64 k∧qad w wr∧Hid (qa2 cf xs ys=qa2 cf (xs.drop k) (ys.drop k))) (fun _ _ _ _ i _=>xs.length-(intOf i).toNat)
 case atStart=>exact ⟨0,Nat.zero_le _,Nat.zero_le _,rfl,qad.refl _,rfl⟩
 case round =>
  obtain ⟨k,hk,hk2,rfl,hE,hf⟩:=hrel
  by_cases hlt:k<xs.length
  ·obtain ⟨b,off,cs,rfl,hb,hS,hl,hr,hcell⟩:=((RSl.good RTm.good).ext HX.out hE).get k hlt
   by_cases hlt2:k<ys.length
   ·obtain ⟨b2,off2,cs2,rfl,hb2,hS2,hl2,hr2,hcell2⟩:=((RSl.good RTm.good).ext HY.out hE).get k hlt2
    have hcon:=fun W (hW:qad wr W)=>HP.out xs[k] (List.getElem_mem hlt) ys[k] (List.getElem_mem hlt2) cs cs2 W (hE.trans hW) (RTm.good.ext hr hW) (RTm.good.ext hr2 hW)
    obtain ⟨c0,c1,c2,rfl⟩:∃ c0 c1 c2,cs=[c0,c1,c2]:=by
     match cs,hl with
     | [c0,c1,c2],_=>exact ⟨c0,c1,c2,rfl⟩
    have g0:=(by simpa using hcell.get 0 _:wr.cell? ⟨b,off+k*3,none⟩=some c0)
    have g1:=hcell.get 1 _
    have g2:=hcell.get 2 _
    obtain ⟨d0,d1,d2,rfl⟩:∃ d0 d1 d2,cs2=[d0,d1,d2]:=by
     match cs2,hl2 with
     | [d0,d1,d2],_=>exact ⟨d0,d1,d2,rfl⟩
    have q0:=(by simpa using hcell2.get 0 _:wr.cell? ⟨b2,off2+k*3,none⟩=some d0)
    have q1:=hcell2.get 1 _
    have q2:=hcell2.get 2 _
    have s0:=fun (W:World) (a:Addr) (m:Mode)=>run_store Tryz.prog W a c0 m (RTm.good.one hr c0 (by simp))
    have s1:=fun (W:World) (a:Addr) (m:Mode)=>run_store Tryz.prog W a c1 m (RTm.good.one hr c1 (by simp))
    have s2:=fun (W:World) (a:Addr) (m:Mode)=>run_store Tryz.prog W a c2 m (RTm.good.one hr c2 (by simp))
    have t0:=fun (W:World) (a:Addr) (m:Mode)=>run_store Tryz.prog W a d0 m (RTm.good.one hr2 d0 (by simp))
    have t1:=fun (W:World) (a:Addr) (m:Mode)=>run_store Tryz.prog W a d1 m (RTm.good.one hr2 d1 (by simp))
    have t2:=fun (W:World) (a:Addr) (m:Mode)=>run_store Tryz.prog W a d2 m (RTm.good.one hr2 d2 (by simp))
    rw [List.drop_eq_getElem_cons hlt,List.drop_eq_getElem_cons hlt2,qa2] at hf
    clear hcell hcell2 hl hl2 hS hS2 hr hr2
    by_cases hq:cf xs[k] ys[k]=0
    ·rw [if_pos hq] at hf
     have Hf:=Hd hf
     have hq1:(cf xs[k] ys[k] != 0)=false:=by rw [hq];rfl
     rw [hq] at hcon
     clear hf hq1 hq
     go_wp2_with fail
     refine (hcon _ qaj).mono ?_
     rintro e w1 ⟨rfl,h1⟩
     go_wp2_with fail
     go_roundw
     case rel=>exact ⟨k+1,by omega,by omega,by go_num,qaj,Hf.out⟩
     case measure=>simp [intOf];omega
    ·rw [if_neg hq] at hf
     have Hf:=Hd hf
     have hq1:(cf xs[k] ys[k] != 0)=true:=bne_iff_ne.2 hq
     clear hf hq
     go_wp2_with fail
     refine (hcon _ qaj).mono ?_
     rintro e w1 ⟨rfl,h1⟩
     go_wp2_with fail
     go_ret
     exact ⟨by rw [Hf.out];rfl,qaj⟩
   ·rw [List.drop_of_length_le (l:=ys) (by omega),List.drop_eq_getElem_cons hlt,qa2] at hf
    have Hf:=Hd hf
    obtain ⟨c0,c1,c2,rfl⟩:∃ c0 c1 c2,cs=[c0,c1,c2]:=by
     match cs,hl with
     | [c0,c1,c2],_=>exact ⟨c0,c1,c2,rfl⟩
    have g0:=(by simpa using hcell.get 0 _:wr.cell? ⟨b,off+k*3,none⟩=some c0)
    have g1:=hcell.get 1 _
    have g2:=hcell.get 2 _
    have s0:=fun (W:World) (a:Addr) (m:Mode)=>run_store Tryz.prog W a c0 m (RTm.good.one hr c0 (by simp))
    have s1:=fun (W:World) (a:Addr) (m:Mode)=>run_store Tryz.prog W a c1 m (RTm.good.one hr c1 (by simp))
    have s2:=fun (W:World) (a:Addr) (m:Mode)=>run_store Tryz.prog W a c2 m (RTm.good.one hr c2 (by simp))
    clear hf hcell
    go_wp2_with fail
    go_ret
    exact ⟨by rw [Hf.out];rfl,qaj⟩
  ·rw [List.drop_of_length_le (l:=xs) (by omega)] at hf
   by_cases hlt2:k<ys.length
   ·rw [List.drop_eq_getElem_cons hlt2,qa2] at hf
    have Hf:=Hd hf
    clear hf
    go_wp2_with fail
    go_ret
    exact ⟨by rw [Hf.out];rfl,hE⟩
   ·rw [List.drop_of_length_le (by omega),qa2] at hf
    have Hf:=Hd hf
    clear hf
    go_wp2_with fail
    go_ret
    exact ⟨by rw [Hf.out];rfl,hE⟩
end
section
set_option maxHeartbeats 1000000
set_option maxRecDepth 100000
/- beh: labels compared;lts: edges compared. -/
theorem info3x:∃ ie,Tryz.prog.info? 3=some ie∧ie.zero=some (.int .i64 0)∧ie.size=1:=by
 have h:(Tryz.prog.info? 3).map (fun i=>(i.zero,i.size))=some (some (.int .i64 0),1):=by kernel_rfl
 cases hi:Tryz.prog.info? 3 with
 | none=>rw [hi] at h;simp at h
 | some ie=>rw [hi] at h;simp at h;exact ⟨ie,rfl,h.1,h.2⟩
theorem fill3 (a b c:Value) (h1:a.cells = #[a]) (h2:b.cells = #[b]) (h3:c.cells = #[c]):Instr.fill (fun i=>some (i*1,1)) ((Array.range (3*1)).map ((Value.int .i64 0).cells[· % (Value.int .i64 0).cells.size]!)) [(0,a),(1,b),(2,c)]=some #[a,b,c]:=by
 have e:(Array.range (3*1)).map ((Value.int .i64 0).cells[· % (Value.int .i64 0).cells.size]!) = #[.int .i64 0,.int .i64 0,.int .i64 0]:=by
  have:Array.range (3*1) = #[0,1,2]:=by decide
  rw [this];simp [Value.cells]
 rw [e]
 simp [Instr.fill,h1,h2,h3]
theorem exec_lit3 (ev:Operand->Value) (d:Option Tmp) (x y z:Operand) (ty:TypeId) (pos:String) (after:Array Edge) (g:Option (Nat×Bool)) (W:World)
  (h1:(ev x).cells = #[ev x]) (h2:(ev y).cells = #[ev y]) (h3:(ev z).cells = #[ev z]) :
  Sem.run Tryz.prog (execOp ev { dst:=d,op:=.buildSlice 53 3 #[(0,x),(1,y),(2,z)],type:=ty,pos:=pos,after:=after,guard:=g }) W =
   .ok (.value (.slice (some ⟨W.heap.size,0,none⟩) 3 3)) (W.alloc (.cells #[ev x,ev y,ev z] 3)):=by
 obtain ⟨ie,hie,hz,hs⟩:=info3x
 unfold execOp
 have:=run_buildSlice W 53 3 3 #[(0,ev x),(1,ev y),(2,ev z)] #[ev x,ev y,ev z] ie (.int .i64 0) Tryz.underlying53 hie hz (by rw [hs];decide) (by rw [hs];decide) (by rw [hs];exact fill3 _ _ _ h1 h2 h3)
 simp only [Sem.run_bind,List.map_toArray,List.map_cons,List.map_nil,this,Result.andThen_ok,Sem.run_pure]
attribute [local go_sem ↓] exec_lit3
theorem qmo (W:World) (l:List Int) (t:TypeId) (h:∀ x∈l,I64 x) (hl:l.length<=1000) (n:Nat) (hn:n=W.heap.size):RSl qac 1 (fun _=>True) (W.alloc (.cells (l.map fun n=>Value.int .i64 n).toArray t)).drew l [.slice (some ⟨n,0,none⟩) l.length l.length]:=by
 subst hn
 exact (RSl.good qac.good).ext (qlz W l t h hl) (qad.refl _).drew
theorem qnt:∀ x y:List Tm,qa2 qbv x y=qat x y
 | [],[]=>by rw [qa2,qat];rfl
 | [],y :: ys=>by rw [qa2,qat];unfold qah;rw [if_pos (by simp only [List.length_cons];omega)]
 | x :: xs,[]=>by rw [qa2,qat]
 | x :: xs,y :: ys=>by rw [qa2,qat,qnt xs ys]
theorem eg122:∀ args w,(callFunc 122 args).run Tryz.prog w = .ok (.enter 122 args) w:=enters_of Tryz.func122 (by kernel_rfl) rfl
def SigC (x:Tm):Prop:=∀ (S:Nat->Prop) (y:Tm) (cx cy:List Value) (W:World),RTm S W x cx->RTm S W y cy ->
  Calls Tryz.prog 122 #[.agg cx.toArray,.agg cy.toArray] W fun e w'=>e = .returned (.int .i64 (qbv x y))∧qad W w'
theorem sig_of (x:Tm) (ht:∀ z∈x.l,SigC z):SigC x:=by
 intro S y cx cy w hx hy
 obtain ⟨_,_,vx,rfl,hvx⟩:=(qaz ..).1 hx
 obtain ⟨_,_,vy,rfl,hvy⟩:=(qaz ..).1 hy
 have hcon:=fun W (hW:qad w W)=>cmpFTm qbv S W x.l y.l vx vy (qam.good.ext hvx hW) (qam.good.ext hvy hW) 122 #[] eg122 (fun x hx y hy cs cs2 W' hW' h1 h2=>ht x hx S y cs cs2 W' h1 h2)
 rw [qnt] at hcon
 obtain ⟨A,c,rfl,hc,hc0⟩:=hvx.val
 obtain ⟨A',c',rfl,hc',hc0'⟩:=hvy.val
 clear hx hy hvx hvy ht
 have hor:qbv x y=if orI [qah x.k y.k,qah x.n y.n,qah x.l.length y.l.length]=0 then qat x.l y.l else orI [qah x.k y.k,qah x.n y.n,qah x.l.length y.l.length]:=by
  rw [qn9]
  simp only [orI]
  by_cases h1:qah x.k y.k=0
  ·by_cases h2:qah x.n y.n=0
   ·by_cases h3:qah x.l.length y.l.length=0
    ·simp [h1,h2,h3]
     intro h;exact h.symm
    ·simp [h1,h2,h3]
   ·simp [h1,h2]
  ·simp [h1]
 by_cases h0:orI [qah x.k y.k,qah x.n y.n,qah x.l.length y.l.length]=0
 ·rw [if_pos h0] at hor
  have HV:=Hd hor
  have H0:=Hd h0
  clear h0 hor
  go_enter Tryz.func122,Tryz.ntmps122
  go_wp2_with fail
  go_region_held3 (fun W=>W.cell? ⟨w.heap.size,0,none⟩=some (.int .i64 x.k)∧W.cell? ⟨w.heap.size,1,none⟩=some (.int .i64 x.n)∧W.cell? ⟨w.heap.size,2,none⟩=some (.slice A x.l.length c)∧W.cell? ⟨w.heap.size+1,0,none⟩=some (.int .i64 y.k)∧W.cell? ⟨w.heap.size+1,1,none⟩=some (.int .i64 y.n)∧W.cell? ⟨w.heap.size+1,2,none⟩=some (.slice A' y.l.length c'))
   (first | (refine ⟨?_,?_,?_,?_,?_,?_⟩ <;> go_simp <;> done) | exact hx1.k6 (by assumption) | exact ((qad.refl _).alloc _).k6 (by assumption))
   (first | (go_at_call 120;refine (qfc _ _ _).mono ?_;rintro e w' ⟨rfl,rfl⟩) | (go_at_call 119;refine (or_c (fun _=>True) [qah x.k y.k,qah x.n y.n,qah x.l.length y.l.length] _ _ (qmo _ [qah x.k y.k,qah x.n y.n,qah x.l.length y.l.length] 3 (by intro z hz;simp at hz;rcases hz with rfl | rfl | rfl <;> exact qf5 _ _) (by simp) _ (by simp))).mono ?_;rintro e w' ⟨rfl,rfl⟩))
  rw [H0.out]
  go_wp2_with fail
  refine (hcon _ qaj).mono ?_
  rintro e w1 ⟨rfl,hx1⟩
  go_wp2_with fail
  go_ret
  exact ⟨by rw [HV.out];rfl,qaj⟩
 ·rw [if_neg h0] at hor
  have HV:=Hd hor
  have h0':(orI [qah x.k y.k,qah x.n y.n,qah x.l.length y.l.length] != 0)=true:=bne_iff_ne.2 h0
  clear h0 hor hcon
  go_enter Tryz.func122,Tryz.ntmps122
  go_wp2_with fail
  go_region_held3 (fun W=>W.cell? ⟨w.heap.size,0,none⟩=some (.int .i64 x.k)∧W.cell? ⟨w.heap.size,1,none⟩=some (.int .i64 x.n)∧W.cell? ⟨w.heap.size,2,none⟩=some (.slice A x.l.length c)∧W.cell? ⟨w.heap.size+1,0,none⟩=some (.int .i64 y.k)∧W.cell? ⟨w.heap.size+1,1,none⟩=some (.int .i64 y.n)∧W.cell? ⟨w.heap.size+1,2,none⟩=some (.slice A' y.l.length c'))
   (first | (refine ⟨?_,?_,?_,?_,?_,?_⟩ <;> go_simp <;> done) | exact hx1.k6 (by assumption) | exact ((qad.refl _).alloc _).k6 (by assumption))
   (first | (go_at_call 120;refine (qfc _ _ _).mono ?_;rintro e w' ⟨rfl,rfl⟩) | (go_at_call 119;refine (or_c (fun _=>True) [qah x.k y.k,qah x.n y.n,qah x.l.length y.l.length] _ _ (qmo _ [qah x.k y.k,qah x.n y.n,qah x.l.length y.l.length] 3 (by intro z hz;simp at hz;rcases hz with rfl | rfl | rfl <;> exact qf5 _ _) (by simp) _ (by simp))).mono ?_;rintro e w' ⟨rfl,rfl⟩))
  go_wp2_with fail
  go_ret
  exact ⟨by rw [HV.out];rfl,qaj⟩
theorem sig_c:∀ x,SigC x:=Tm.ind sig_of
theorem lists_c (S:Nat->Prop) (x y:List Tm) (vx vy:Value) (w:World) (hx:qam S w x [vx]) (hy:qam S w y [vy]) :
  Calls Tryz.prog 121 #[vx,vy,.func (.func 122) #[] #[]] w fun e w'=>e = .returned (.int .i64 (qat x y))∧qad w w':=by
 have hcon:=fun W (hW:qad w W)=>cmpFTm qbv S W x y vx vy (qam.good.ext hx hW) (qam.good.ext hy hW) 122 #[] eg122 (fun x hx y hy cs cs2 W' hW' h1 h2=>sig_c x S y cs cs2 W' h1 h2)
 rw [qnt] at hcon
 obtain ⟨A,c,rfl,hc,hc0⟩:=hx.val
 obtain ⟨A',c',rfl,hc',hc0'⟩:=hy.val
 clear hx hy
 go_enter Tryz.func121,Tryz.ntmps121
 go_wp2_with fail
 refine (hcon _ qaj).mono ?_
 rintro e w1 ⟨rfl,hx1⟩
 go_wp2_with fail
 go_ret
 exact ⟨rfl,qaj⟩
theorem qnn (S:Nat->Prop) (x y:Lb) (cx cy:List Value) (w:World) (hx:RLb S w x cx) (hy:RLb S w y cy) :
  Calls Tryz.prog 57 #[.agg cx.toArray,.agg cy.toArray] w fun e w'=>e = .returned (.int .i64 (qan x y))∧qad w w':=by
 obtain ⟨_,vx,rfl,hx⟩:=hx
 obtain ⟨_,vy,rfl,hy⟩:=hy
 have hcon:=fun W (hW:qad w W)=>lists_c S x.v y.v vx vy W (qam.good.ext hx hW) (qam.good.ext hy hW)
 obtain ⟨A,c,rfl,hc,hc0⟩:=hx.val
 obtain ⟨A',c',rfl,hc',hc0'⟩:=hy.val
 clear hx hy
 go_enter Tryz.func57,Tryz.ntmps57
 go_wp2_with fail
 go_region_held3 (fun W=>W.cell? ⟨w.heap.size,0,none⟩=some (.int .i64 x.g)∧W.cell? ⟨w.heap.size,1,none⟩=some (.slice A x.v.length c)∧W.cell? ⟨w.heap.size+1,0,none⟩=some (.int .i64 y.g)∧W.cell? ⟨w.heap.size+1,1,none⟩=some (.slice A' y.v.length c'))
  (first | (refine ⟨?_,?_,?_,?_⟩ <;> go_simp <;> done) | exact hx1.k4 (by assumption) | exact ((qad.refl _).alloc _).k4 (by assumption))
  (first | (go_at_call 120;refine (qfc _ _ _).mono ?_;rintro e w' ⟨rfl,rfl⟩) | (go_at_call 121;refine (hcon _ qaj).mono ?_;rintro e w1 ⟨rfl,hx1⟩) | (go_at_call 119;refine (or_c (fun _=>True) [qah x.g y.g,qat x.v y.v] _ _ (qlz _ [qah x.g y.g,qat x.v y.v] 3 (by intro z hz;simp at hz;rcases hz with rfl | rfl <;> first | exact qf5 _ _ | exact qjc _ _) (by simp))).mono ?_;rintro e w' ⟨rfl,rfl⟩))
 go_wp2_with fail
 go_ret
 exact ⟨rfl,qaj⟩
def qa3 (x y:Lb):Bool:=decide (qan x y=0)
def qbd (x y:Ed):Int:=orI [qah x.f y.f,qah x.l y.l,qah x.t y.t]
theorem qqi (S:Nat->Prop) (x y:Ed) (cx cy:List Value) (w:World) (hx:REd S w x cx) (hy:REd S w y cy) :
  Calls Tryz.prog 98 #[.agg cx.toArray,.agg cy.toArray] w fun e w'=>e = .returned (.int .i64 (qbd x y))∧qad w w':=by
 obtain ⟨_,_,_,rfl⟩:=hx
 obtain ⟨_,_,_,rfl⟩:=hy
 go_enter Tryz.func98,Tryz.ntmps98
 go_wp2_with fail
 go_region_held3 (fun W=>W.cell? ⟨w.heap.size,0,none⟩=some (.int .i64 x.f)∧W.cell? ⟨w.heap.size,1,none⟩=some (.int .i64 x.l)∧W.cell? ⟨w.heap.size,2,none⟩=some (.int .i64 x.t)∧W.cell? ⟨w.heap.size+1,0,none⟩=some (.int .i64 y.f)∧W.cell? ⟨w.heap.size+1,1,none⟩=some (.int .i64 y.l)∧W.cell? ⟨w.heap.size+1,2,none⟩=some (.int .i64 y.t))
  (first | (refine ⟨?_,?_,?_,?_,?_,?_⟩ <;> go_simp <;> done) | exact hx1.k6 (by assumption) | exact ((qad.refl _).alloc _).k6 (by assumption))
  (first | (go_at_call 120;refine (qfc _ _ _).mono ?_;rintro e w' ⟨rfl,rfl⟩) | (go_at_call 119;refine (or_c (fun _=>True) [qah x.f y.f,qah x.l y.l,qah x.t y.t] _ _ (qmo _ [qah x.f y.f,qah x.l y.l,qah x.t y.t] 3 (by intro z hz;simp at hz;rcases hz with rfl | rfl | rfl <;> exact qf5 _ _) (by simp) _ (by simp))).mono ?_;rintro e w' ⟨rfl,rfl⟩))
 go_wp2_with fail
 go_ret
 exact ⟨rfl,qaj⟩
end
section
set_option maxHeartbeats 1000000
set_option maxRecDepth 100000
/- slices.IndexFunc and ContainsFunc at each element type of the program: what they come to,whatever function value they are given. -/
theorem idxFTm {σ:Type} (J:σ->World->Prop) (step:σ->Tm->Bool×σ) (S:Nat->Prop) (w:World) (xs:List (Tm)) (v:Value) (hx:RSl RTm 3 S w xs [v]) (g:Nat) (lb:Array Value)
  (eg:∀ args w,(callFunc g args).run Tryz.prog w = .ok (.enter g args) w) (hJ:∀ s W,J s W->Kp S w W)
  (hp:∀ x∈xs,∀ s cs W,J s W->RTm S W x cs->Calls Tryz.prog g (#[.agg cs.toArray]++lb) W fun e w'=>e = .returned (.bool (step s x).1)∧J (step s x).2 w') (s0:σ) (h0:J s0 w) :
  Calls Tryz.prog 206 #[v,.func (.func g) #[] lb] w fun e w'=>e = .returned (.int .i64 (qaq step s0 xs).1)∧J (qaq step s0 xs).2 w':=by
 obtain ⟨A,c,rfl,hc,hc0⟩:=hx.val
 have HX:=Hd hx
 have HP:=Hd hp
 have HJ:=Hd hJ
 clear hx hp hJ
 go_enter Tryz.func206,Tryz.ntmps206
 go_wp2
 go_loopw [5,8] (fun _ i wr=>∃ k:Nat,k<=xs.length∧i = .int .i64 k∧Hid (∃ s,J s wr∧qaq step s0 xs=((qaq step s (xs.drop k)).1+(if (qaq step s (xs.drop k)).1<0 then 0 else (k:Int)),(qaq step s (xs.drop k)).2))) (fun _ i _=>xs.length-(intOf i).toNat)
 case atStart=>exact ⟨0,Nat.zero_le _,rfl,s0,h0,by simp⟩
 case round =>
  obtain ⟨k,hk,rfl,s,hs,hf⟩:=hrel
  by_cases hlt:k<xs.length
  ·obtain ⟨b,off,cs,rfl,hb,hS,hl,hr,hcell⟩:=((RSl.good RTm.good).move HX.out (HJ.out _ _ hs)).get k hlt
   have hcon:=HP.out xs[k] (List.getElem_mem hlt) s cs wr hs hr
   obtain ⟨c0,c1,c2,rfl⟩:∃ c0 c1 c2,cs=[c0,c1,c2]:=by
    match cs,hl with
    | [c0,c1,c2],_=>exact ⟨c0,c1,c2,rfl⟩
   have g0:=(by simpa using hcell.get 0 _:wr.cell? ⟨b,off+k*3,none⟩=some c0)
   have g1:=hcell.get 1 _
   have g2:=hcell.get 2 _
   rw [List.drop_eq_getElem_cons hlt,qaq] at hf
   clear hcell hl hS hr
   cases hq:(step s xs[k]).1 with
   | true =>
    rw [hq] at hcon hf
    have Hf:=Hd hf
    clear hf
    go_wp2_with fail
    refine hcon.mono ?_
    rintro e w' ⟨rfl,hs'⟩
    go_wp2_with fail
    go_ret
    rw [Hf.out]
    exact ⟨by simp,hs'⟩
   | false =>
    rw [hq] at hcon hf
    have Hf:=Hd hf
    clear hf
    go_wp2_with fail
    refine hcon.mono ?_
    rintro e w' ⟨rfl,hs'⟩
    go_wp2_with fail
    go_roundw
    case rel =>
     refine ⟨k+1,by omega,by go_num,_,hs',?_⟩
     rw [Hf.out]
     exact qiq _ _
    case measure=>simp [intOf];omega
  ·have hd:xs.drop k=[]:=List.drop_of_length_le (by omega)
   rw [hd,qaq] at hf
   have Hf:=Hd hf
   clear hf
   go_wp2
   go_ret
   rw [Hf.out]
   exact ⟨by simp,hs⟩
theorem conFTm {σ:Type} (J:σ->World->Prop) (step:σ->Tm->Bool×σ) (S:Nat->Prop) (w:World) (xs:List (Tm)) (v:Value) (hx:RSl RTm 3 S w xs [v]) (g:Nat) (lb:Array Value)
  (eg:∀ args w,(callFunc g args).run Tryz.prog w = .ok (.enter g args) w) (hJ:∀ s W,J s W->Kp S w W)
  (hp:∀ x∈xs,∀ s cs W,J s W->RTm S W x cs->Calls Tryz.prog g (#[.agg cs.toArray]++lb) W fun e w'=>e = .returned (.bool (step s x).1)∧J (step s x).2 w') (s0:σ) (h0:J s0 w) :
  Calls Tryz.prog 137 #[v,.func (.func g) #[] lb] w fun e w'=>e = .returned (.bool (qcp step s0 xs).1)∧J (qcp step s0 xs).2 w':=by
 obtain ⟨A,c,rfl,hc,hc0⟩:=hx.val
 have hcon:=idxFTm J step S w xs _ hx g lb eg hJ hp s0 h0
 rw [qho]
 clear hx hp hJ
 go_enter Tryz.func137,Tryz.ntmps137
 go_wp2_with fail
 refine hcon.mono ?_
 rintro e w' ⟨rfl,hs'⟩
 go_wp2_with fail
 all_goals go_ret
 all_goals exact ⟨by simp,hs'⟩
theorem conPTm (p:Tm->Bool) (S:Nat->Prop) (w:World) (xs:List (Tm)) (v:Value) (hx:RSl RTm 3 S w xs [v]) (g:Nat) (lb:Array Value)
  (eg:∀ args w,(callFunc g args).run Tryz.prog w = .ok (.enter g args) w)
  (hp:∀ x∈xs,∀ cs W,Ext w W->RTm S W x cs->Calls Tryz.prog g (#[.agg cs.toArray]++lb) W fun e w'=>e = .returned (.bool (p x))∧Ext W w') :
  Calls Tryz.prog 137 #[v,.func (.func g) #[] lb] w fun e w'=>e = .returned (.bool (xs.any p))∧Ext w w' :=
 (conFTm (fun (_:Unit) W=>Ext w W) (fun s x=>(p x,s)) S w xs v hx g lb eg (fun _ _ h=>Ext.kp h) (fun x hx s cs W hW hr=>(hp x hx cs W hW hr).mono fun e w' ⟨he,hb⟩=>⟨he,hW.trans' hb⟩) () (Ext.refl w)).mono
  fun e w' ⟨he,hb⟩=>⟨by rw [he,qid],hb⟩
end
section
set_option maxHeartbeats 1000000
set_option maxRecDepth 100000
/- slices.IndexFunc and ContainsFunc at each element type of the program: what they come to,whatever function value they are given. -/
theorem idxFLbs {σ:Type} (J:σ->World->Prop) (step:σ->List Lb->Bool×σ) (S:Nat->Prop) (w:World) (xs:List (List Lb)) (v:Value) (hx:RSl qaa 1 S w xs [v]) (g:Nat) (lb:Array Value)
  (eg:∀ args w,(callFunc g args).run Tryz.prog w = .ok (.enter g args) w) (hJ:∀ s W,J s W->Kp S w W)
  (hp:∀ x∈xs,∀ s cs W,J s W->qaa S W x cs->Calls Tryz.prog g (#[cs.headD undef]++lb) W fun e w'=>e = .returned (.bool (step s x).1)∧J (step s x).2 w') (s0:σ) (h0:J s0 w) :
  Calls Tryz.prog 95 #[v,.func (.func g) #[] lb] w fun e w'=>e = .returned (.int .i64 (qaq step s0 xs).1)∧J (qaq step s0 xs).2 w':=by
 obtain ⟨A,c,rfl,hc,hc0⟩:=hx.val
 have HX:=Hd hx
 have HP:=Hd hp
 have HJ:=Hd hJ
 clear hx hp hJ
 go_enter Tryz.func95,Tryz.ntmps95
 go_wp2
 go_loopw [5,8] (fun _ i wr=>∃ k:Nat,k<=xs.length∧i = .int .i64 k∧Hid (∃ s,J s wr∧qaq step s0 xs=((qaq step s (xs.drop k)).1+(if (qaq step s (xs.drop k)).1<0 then 0 else (k:Int)),(qaq step s (xs.drop k)).2))) (fun _ i _=>xs.length-(intOf i).toNat)
 case atStart=>exact ⟨0,Nat.zero_le _,rfl,s0,h0,by simp⟩
 case round =>
  obtain ⟨k,hk,rfl,s,hs,hf⟩:=hrel
  by_cases hlt:k<xs.length
  ·obtain ⟨b,off,cs,rfl,hb,hS,hl,hr,hcell⟩:=((RSl.good qaa.good).move HX.out (HJ.out _ _ hs)).get k hlt
   have hcon:=HP.out xs[k] (List.getElem_mem hlt) s cs wr hs hr
   obtain ⟨c0,rfl⟩:∃ c0,cs=[c0]:=by
    match cs,hl with
    | [c0],_=>exact ⟨c0,rfl⟩
   have g0:=(by simpa using hcell.get 0 _:wr.cell? ⟨b,off+k,none⟩=some c0)
   rw [List.drop_eq_getElem_cons hlt,qaq] at hf
   clear hcell hl hS hr
   cases hq:(step s xs[k]).1 with
   | true =>
    rw [hq] at hcon hf
    have Hf:=Hd hf
    clear hf
    go_wp2_with fail
    refine hcon.mono ?_
    rintro e w' ⟨rfl,hs'⟩
    go_wp2_with fail
    go_ret
    rw [Hf.out]
    exact ⟨by simp,hs'⟩
   | false =>
    rw [hq] at hcon hf
    have Hf:=Hd hf
    clear hf
    go_wp2_with fail
    refine hcon.mono ?_
    rintro e w' ⟨rfl,hs'⟩
    go_wp2_with fail
    go_roundw
    case rel =>
     refine ⟨k+1,by omega,by go_num,_,hs',?_⟩
     rw [Hf.out]
     exact qiq _ _
    case measure=>simp [intOf];omega
  ·have hd:xs.drop k=[]:=List.drop_of_length_le (by omega)
   rw [hd,qaq] at hf
   have Hf:=Hd hf
   clear hf
   go_wp2
   go_ret
   rw [Hf.out]
   exact ⟨by simp,hs⟩
theorem conFLbs {σ:Type} (J:σ->World->Prop) (step:σ->List Lb->Bool×σ) (S:Nat->Prop) (w:World) (xs:List (List Lb)) (v:Value) (hx:RSl qaa 1 S w xs [v]) (g:Nat) (lb:Array Value)
  (eg:∀ args w,(callFunc g args).run Tryz.prog w = .ok (.enter g args) w) (hJ:∀ s W,J s W->Kp S w W)
  (hp:∀ x∈xs,∀ s cs W,J s W->qaa S W x cs->Calls Tryz.prog g (#[cs.headD undef]++lb) W fun e w'=>e = .returned (.bool (step s x).1)∧J (step s x).2 w') (s0:σ) (h0:J s0 w) :
  Calls Tryz.prog 25 #[v,.func (.func g) #[] lb] w fun e w'=>e = .returned (.bool (qcp step s0 xs).1)∧J (qcp step s0 xs).2 w':=by
 obtain ⟨A,c,rfl,hc,hc0⟩:=hx.val
 have hcon:=idxFLbs J step S w xs _ hx g lb eg hJ hp s0 h0
 rw [qho]
 clear hx hp hJ
 go_enter Tryz.func25,Tryz.ntmps25
 go_wp2_with fail
 refine hcon.mono ?_
 rintro e w' ⟨rfl,hs'⟩
 go_wp2_with fail
 all_goals go_ret
 all_goals exact ⟨by simp,hs'⟩
theorem conPLbs (p:List Lb->Bool) (S:Nat->Prop) (w:World) (xs:List (List Lb)) (v:Value) (hx:RSl qaa 1 S w xs [v]) (g:Nat) (lb:Array Value)
  (eg:∀ args w,(callFunc g args).run Tryz.prog w = .ok (.enter g args) w)
  (hp:∀ x∈xs,∀ cs W,Ext w W->qaa S W x cs->Calls Tryz.prog g (#[cs.headD undef]++lb) W fun e w'=>e = .returned (.bool (p x))∧Ext W w') :
  Calls Tryz.prog 25 #[v,.func (.func g) #[] lb] w fun e w'=>e = .returned (.bool (xs.any p))∧Ext w w' :=
 (conFLbs (fun (_:Unit) W=>Ext w W) (fun s x=>(p x,s)) S w xs v hx g lb eg (fun _ _ h=>Ext.kp h) (fun x hx s cs W hW hr=>(hp x hx cs W hW hr).mono fun e w' ⟨he,hb⟩=>⟨he,hW.trans' hb⟩) () (Ext.refl w)).mono
  fun e w' ⟨he,hb⟩=>⟨by rw [he,qid],hb⟩
theorem idxPLbs (p:List Lb->Bool) (S:Nat->Prop) (w:World) (xs:List (List Lb)) (v:Value) (hx:RSl qaa 1 S w xs [v]) (g:Nat) (lb:Array Value)
  (eg:∀ args w,(callFunc g args).run Tryz.prog w = .ok (.enter g args) w)
  (hp:∀ x∈xs,∀ cs W,Ext w W->qaa S W x cs->Calls Tryz.prog g (#[cs.headD undef]++lb) W fun e w'=>e = .returned (.bool (p x))∧Ext W w') :
  Calls Tryz.prog 95 #[v,.func (.func g) #[] lb] w fun e w'=>e = .returned (.int .i64 (qa8 p xs))∧Ext w w' :=
 (idxFLbs (fun (_:Unit) W=>Ext w W) (fun s x=>(p x,s)) S w xs v hx g lb eg (fun _ _ h=>Ext.kp h) (fun x hx s cs W hW hr=>(hp x hx cs W hW hr).mono fun e w' ⟨he,hb⟩=>⟨he,hW.trans' hb⟩) () (Ext.refl w)).mono
  fun e w' ⟨he,hb⟩=>⟨by rw [he,qhx],hb⟩
end
end Go.Proofs.YtegenalcheooeaaGreat
