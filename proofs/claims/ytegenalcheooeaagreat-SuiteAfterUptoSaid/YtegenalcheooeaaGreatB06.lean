/- Of the proof of a law of the suites: LibCTm, Beh, Su1. -/
import Derived.Test.YtegenalcheooeaaGreatB03
import Derived.Test.YtegenalcheooeaaGreatB05
import Derived.Great.BuildSlice
set_option linter.unusedSectionVars false
set_option linter.unusedSimpArgs false
set_option linter.unusedVariables false
namespace Go.Proofs.YtegenalcheooeaaGreat
open Go.RowKit
attribute [local go_sem] cell?_exto
section

set_option maxHeartbeats 1000000 in
set_option maxRecDepth 100000 in
theorem cmpFTm (cf:Tm->Tm->Int) (S:Nat->Prop) (w:World) (xs ys:List (Tm)) (v u:Value) (hx:RSl RTm 3 S w xs [v]) (hy:RSl RTm 3 S w ys [u]) (g:Nat) (lb:Array Value)
  (eg:∀ args w,(callFunc g args).run Tryz.prog w = .ok (.enter g args) w)
  (hp:∀ x∈xs,∀ y∈ys,∀ cs cs2 W,qad w W->RTm S W x cs->RTm S W y cs2->Calls Tryz.prog g (#[.agg cs.toArray,.agg cs2.toArray]++lb) W fun e w'=>e = .returned (.int .i64 (cf x y))∧qad W w') :
  Calls Tryz.prog 188 #[v,u,.func (.func g) #[] lb] w fun e w'=>e = .returned (.int .i64 (qa1 cf xs ys))∧qad w w':=by
 obtain ⟨A,c,rfl,hc,hc0⟩:=hx.val
 obtain ⟨A',c',rfl,hc',hc0'⟩:=hy.val
 have HX:=Hd hx
 have HY:=Hd hy
 have HP:=Hd hp
 clear hx hy hp
 go_enter Tryz.func188,Tryz.ntmps188
 go_wp2_with fail
 go_loopw [7,8,9,10,13] (fun _ _ _ _ i wr=>∃ k:Nat,k<=xs.length∧k<=ys.length∧i = .int .i64 k∧qad w wr∧Hid (qa1 cf xs ys=qa1 cf (xs.drop k) (ys.drop k))) (fun _ _ _ _ i _=>xs.length-(intOf i).toNat)
 case atStart=>exact ⟨0,Nat.zero_le _,Nat.zero_le _,rfl,qad.refl _,rfl⟩
 case round =>
  obtain ⟨k,hk,hk2,rfl,hE,hf⟩:=hrel
  by_cases hlt:k<xs.length
  ·obtain ⟨b,off,cs,rfl,hb,hS,hl,hr,hcell⟩:=((RSl.good RTm.good).ext HX.out hE).get k hlt
   by_cases hlt2:k<ys.length
   ·obtain ⟨b2,off2,cs2,rfl,hb2,hS2,hl2,hr2,hcell2⟩:=((RSl.good RTm.good).ext HY.out hE).get k hlt2
    have hcon:=fun W (hW:qad wr W)=>HP.out xs[k] (List.getElem_mem hlt) ys[k] (List.getElem_mem hlt2) cs cs2 W (hE.trans hW) (RTm.good.ext hr hW) (RTm.good.ext hr2 hW)
    obtain ⟨c0,c1,c2,rfl⟩:∃ c0 c1 c2,cs=[c0,c1,c2]:=by
     match cs,hl with
     | [c0,c1,c2],_=>exact ⟨c0,c1,c2,rfl⟩
    have g0:=(by simpa using hcell.get 0 _:wr.cell? ⟨b,off+k*3,none⟩=some c0)
    have g1:=hcell.get 1 _
    have g2:=hcell.get 2 _
    obtain ⟨d0,d1,d2,rfl⟩:∃ d0 d1 d2,cs2=[d0,d1,d2]:=by
     match cs2,hl2 with
     | [d0,d1,d2],_=>exact ⟨d0,d1,d2,rfl⟩
    have q0:=(by simpa using hcell2.get 0 _:wr.cell? ⟨b2,off2+k*3,none⟩=some d0)
    have q1:=hcell2.get 1 _
    have q2:=hcell2.get 2 _
    have s0:=fun (W:World) (a:Addr) (m:Mode)=>run_store Tryz.prog W a c0 m (RTm.good.one hr c0 (by simp))
    have s1:=fun (W:World) (a:Addr) (m:Mode)=>run_store Tryz.prog W a c1 m (RTm.good.one hr c1 (by simp))
    have s2:=fun (W:World) (a:Addr) (m:Mode)=>run_store Tryz.prog W a c2 m (RTm.good.one hr c2 (by simp))
    have t0:=fun (W:World) (a:Addr) (m:Mode)=>run_store Tryz.prog W a d0 m (RTm.good.one hr2 d0 (by simp))
    have t1:=fun (W:World) (a:Addr) (m:Mode)=>run_store Tryz.prog W a d1 m (RTm.good.one hr2 d1 (by simp))
    have t2:=fun (W:World) (a:Addr) (m:Mode)=>run_store Tryz.prog W a d2 m (RTm.good.one hr2 d2 (by simp))
    rw [List.drop_eq_getElem_cons hlt,List.drop_eq_getElem_cons hlt2,qa1] at hf
    clear hcell hcell2 hl hl2 hS hS2 hr hr2
    by_cases hq:cf xs[k] ys[k]=0
    ·rw [if_pos hq] at hf
     have Hf:=Hd hf
     have hq1:(cf xs[k] ys[k] != 0)=false:=by rw [hq];rfl
     rw [hq] at hcon
     clear hf hq1 hq
     go_wp2_with fail
     refine (hcon _ qaj).mono ?_
     rintro e w1 ⟨rfl,h1⟩
     go_wp2_with fail
     go_roundw
     case rel=>exact ⟨k+1,by omega,by omega,by go_num,qaj,Hf.out⟩
     case measure=>simp [intOf];omega
    ·rw [if_neg hq] at hf
     have Hf:=Hd hf
     have hq1:(cf xs[k] ys[k] != 0)=true:=bne_iff_ne.2 hq
     clear hf hq
     go_wp2_with fail
     refine (hcon _ qaj).mono ?_
     rintro e w1 ⟨rfl,h1⟩
     go_wp2_with fail
     go_ret
     exact ⟨by rw [Hf.out];rfl,qaj⟩
   ·rw [List.drop_of_length_le (l:=ys) (by omega),List.drop_eq_getElem_cons hlt,qa1] at hf
    have Hf:=Hd hf
    obtain ⟨c0,c1,c2,rfl⟩:∃ c0 c1 c2,cs=[c0,c1,c2]:=by
     match cs,hl with
     | [c0,c1,c2],_=>exact ⟨c0,c1,c2,rfl⟩
    have g0:=(by simpa using hcell.get 0 _:wr.cell? ⟨b,off+k*3,none⟩=some c0)
    have g1:=hcell.get 1 _
    have g2:=hcell.get 2 _
    have s0:=fun (W:World) (a:Addr) (m:Mode)=>run_store Tryz.prog W a c0 m (RTm.good.one hr c0 (by simp))
    have s1:=fun (W:World) (a:Addr) (m:Mode)=>run_store Tryz.prog W a c1 m (RTm.good.one hr c1 (by simp))
    have s2:=fun (W:World) (a:Addr) (m:Mode)=>run_store Tryz.prog W a c2 m (RTm.good.one hr c2 (by simp))
    clear hf hcell
    go_wp2_with fail
    go_ret
    exact ⟨by rw [Hf.out];rfl,qaj⟩
  ·rw [List.drop_of_length_le (l:=xs) (by omega)] at hf
   by_cases hlt2:k<ys.length
   ·rw [List.drop_eq_getElem_cons hlt2,qa1] at hf
    have Hf:=Hd hf
    clear hf
    go_wp2_with fail
    go_ret
    exact ⟨by rw [Hf.out];rfl,hE⟩
   ·rw [List.drop_of_length_le (by omega),qa1] at hf
    have Hf:=Hd hf
    clear hf
    go_wp2_with fail
    go_ret
    exact ⟨by rw [Hf.out];rfl,hE⟩
end
section
set_option maxHeartbeats 1000000
set_option maxRecDepth 100000
/- beh: labels compared;lts: edges compared. -/
theorem info3x:∃ ie,Tryz.prog.info? 3=some ie∧ie.zero=some (.int .i64 0)∧ie.size=1:=by
 have h:(Tryz.prog.info? 3).map (fun i=>(i.zero,i.size))=some (some (.int .i64 0),1):=by kernel_rfl
 cases hi:Tryz.prog.info? 3 with
 | none=>rw [hi] at h;simp at h
 | some ie=>rw [hi] at h;simp at h;exact ⟨ie,rfl,h.1,h.2⟩
theorem fill3 (a b c:Value) (h1:a.cells = #[a]) (h2:b.cells = #[b]) (h3:c.cells = #[c]):Instr.fill (fun i=>some (i*1,1)) ((Array.range (3*1)).map ((Value.int .i64 0).cells[· % (Value.int .i64 0).cells.size]!)) [(0,a),(1,b),(2,c)]=some #[a,b,c]:=by
 have e:(Array.range (3*1)).map ((Value.int .i64 0).cells[· % (Value.int .i64 0).cells.size]!) = #[.int .i64 0,.int .i64 0,.int .i64 0]:=by
  have:Array.range (3*1) = #[0,1,2]:=by decide
  rw [this];simp [Value.cells]
 rw [e]
 simp [Instr.fill,h1,h2,h3]
theorem exec_lit3 (ev:Operand->Value) (d:Option Tmp) (x y z:Operand) (ty:TypeId) (pos:String) (after:Array Edge) (g:Option (Nat×Bool)) (W:World)
  (h1:(ev x).cells = #[ev x]) (h2:(ev y).cells = #[ev y]) (h3:(ev z).cells = #[ev z]) :
  Sem.run Tryz.prog (execOp ev { dst:=d,op:=.buildSlice 53 3 #[(0,x),(1,y),(2,z)],type:=ty,pos:=pos,after:=after,guard:=g }) W =
   .ok (.value (.slice (some ⟨W.heap.size,0,none⟩) 3 3)) (W.alloc (.cells #[ev x,ev y,ev z] 3)):=by
 obtain ⟨ie,hie,hz,hs⟩:=info3x
 unfold execOp
 have:=run_buildSlice W 53 3 3 #[(0,ev x),(1,ev y),(2,ev z)] #[ev x,ev y,ev z] ie (.int .i64 0) Tryz.underlying53 hie hz (by rw [hs];decide) (by rw [hs];decide) (by rw [hs];exact fill3 _ _ _ h1 h2 h3)
 simp only [Sem.run_bind,List.map_toArray,List.map_cons,List.map_nil,this,Result.andThen_ok,Sem.run_pure]
attribute [local go_sem ↓] exec_lit3
theorem qnf (W:World) (l:List Int) (t:TypeId) (h:∀ x∈l,I64 x) (hl:l.length<=1000) (n:Nat) (hn:n=W.heap.size):RSl qac 1 (fun _=>True) (W.alloc (.cells (l.map fun n=>Value.int .i64 n).toArray t)).drew l [.slice (some ⟨n,0,none⟩) l.length l.length]:=by
 subst hn
 exact (RSl.good qac.good).ext (qkw W l t h hl) (qad.refl _).drew
theorem qm4:∀ x y:List Tm,qa1 qbs x y=qar x y
 | [],[]=>by rw [qa1,qar];rfl
 | [],y :: ys=>by rw [qa1,qar];unfold qah;rw [if_pos (by simp only [List.length_cons];omega)]
 | x :: xs,[]=>by rw [qa1,qar]
 | x :: xs,y :: ys=>by rw [qa1,qar,qm4 xs ys]
theorem eg122:∀ args w,(callFunc 122 args).run Tryz.prog w = .ok (.enter 122 args) w:=enters_of Tryz.func122 (by kernel_rfl) rfl
def SigC (x:Tm):Prop:=∀ (S:Nat->Prop) (y:Tm) (cx cy:List Value) (W:World),RTm S W x cx->RTm S W y cy ->
  Calls Tryz.prog 122 #[.agg cx.toArray,.agg cy.toArray] W fun e w'=>e = .returned (.int .i64 (qbs x y))∧qad W w'
theorem sig_of (x:Tm) (ht:∀ z∈x.l,SigC z):SigC x:=by
 intro S y cx cy w hx hy
 obtain ⟨_,_,vx,rfl,hvx⟩:=(qax ..).1 hx
 obtain ⟨_,_,vy,rfl,hvy⟩:=(qax ..).1 hy
 have hcon:=fun W (hW:qad w W)=>cmpFTm qbs S W x.l y.l vx vy (qam.good.ext hvx hW) (qam.good.ext hvy hW) 122 #[] eg122 (fun x hx y hy cs cs2 W' hW' h1 h2=>ht x hx S y cs cs2 W' h1 h2)
 rw [qm4] at hcon
 obtain ⟨A,c,rfl,hc,hc0⟩:=hvx.val
 obtain ⟨A',c',rfl,hc',hc0'⟩:=hvy.val
 clear hx hy hvx hvy ht
 have hor:qbs x y=if orI [qah x.k y.k,qah x.n y.n,qah x.l.length y.l.length]=0 then qar x.l y.l else orI [qah x.k y.k,qah x.n y.n,qah x.l.length y.l.length]:=by
  rw [qmz]
  simp only [orI]
  by_cases h1:qah x.k y.k=0
  ·by_cases h2:qah x.n y.n=0
   ·by_cases h3:qah x.l.length y.l.length=0
    ·simp [h1,h2,h3]
     intro h;exact h.symm
    ·simp [h1,h2,h3]
   ·simp [h1,h2]
  ·simp [h1]
 by_cases h0:orI [qah x.k y.k,qah x.n y.n,qah x.l.length y.l.length]=0
 ·rw [if_pos h0] at hor
  have HV:=Hd hor
  have H0:=Hd h0
  clear h0 hor
  go_enter Tryz.func122,Tryz.ntmps122
  go_wp2_with fail
  go_region_held3 (fun W=>W.cell? ⟨w.heap.size,0,none⟩=some (.int .i64 x.k)∧W.cell? ⟨w.heap.size,1,none⟩=some (.int .i64 x.n)∧W.cell? ⟨w.heap.size,2,none⟩=some (.slice A x.l.length c)∧W.cell? ⟨w.heap.size+1,0,none⟩=some (.int .i64 y.k)∧W.cell? ⟨w.heap.size+1,1,none⟩=some (.int .i64 y.n)∧W.cell? ⟨w.heap.size+1,2,none⟩=some (.slice A' y.l.length c'))
   (first | (refine ⟨?_,?_,?_,?_,?_,?_⟩ <;> go_simp <;> done) | exact hx1.k6 (by assumption) | exact ((qad.refl _).alloc _).k6 (by assumption))
   (first | (go_at_call 120;refine (qe6 _ _ _).mono ?_;rintro e w' ⟨rfl,rfl⟩) | (go_at_call 119;refine (or_c (fun _=>True) [qah x.k y.k,qah x.n y.n,qah x.l.length y.l.length] _ _ (qnf _ [qah x.k y.k,qah x.n y.n,qah x.l.length y.l.length] 3 (by intro z hz;simp at hz;rcases hz with rfl | rfl | rfl <;> exact qfq _ _) (by simp) _ (by simp))).mono ?_;rintro e w' ⟨rfl,rfl⟩))
  rw [H0.out]
  go_wp2_with fail
  refine (hcon _ qaj).mono ?_
  rintro e w1 ⟨rfl,hx1⟩
  go_wp2_with fail
  go_ret
  exact ⟨by rw [HV.out];rfl,qaj⟩
 ·rw [if_neg h0] at hor
  have HV:=Hd hor
  have h0':(orI [qah x.k y.k,qah x.n y.n,qah x.l.length y.l.length] != 0)=true:=bne_iff_ne.2 h0
  clear h0 hor hcon
  go_enter Tryz.func122,Tryz.ntmps122
  go_wp2_with fail
  go_region_held3 (fun W=>W.cell? ⟨w.heap.size,0,none⟩=some (.int .i64 x.k)∧W.cell? ⟨w.heap.size,1,none⟩=some (.int .i64 x.n)∧W.cell? ⟨w.heap.size,2,none⟩=some (.slice A x.l.length c)∧W.cell? ⟨w.heap.size+1,0,none⟩=some (.int .i64 y.k)∧W.cell? ⟨w.heap.size+1,1,none⟩=some (.int .i64 y.n)∧W.cell? ⟨w.heap.size+1,2,none⟩=some (.slice A' y.l.length c'))
   (first | (refine ⟨?_,?_,?_,?_,?_,?_⟩ <;> go_simp <;> done) | exact hx1.k6 (by assumption) | exact ((qad.refl _).alloc _).k6 (by assumption))
   (first | (go_at_call 120;refine (qe6 _ _ _).mono ?_;rintro e w' ⟨rfl,rfl⟩) | (go_at_call 119;refine (or_c (fun _=>True) [qah x.k y.k,qah x.n y.n,qah x.l.length y.l.length] _ _ (qnf _ [qah x.k y.k,qah x.n y.n,qah x.l.length y.l.length] 3 (by intro z hz;simp at hz;rcases hz with rfl | rfl | rfl <;> exact qfq _ _) (by simp) _ (by simp))).mono ?_;rintro e w' ⟨rfl,rfl⟩))
  go_wp2_with fail
  go_ret
  exact ⟨by rw [HV.out];rfl,qaj⟩
theorem sig_c:∀ x,SigC x:=Tm.ind sig_of
theorem lists_c (S:Nat->Prop) (x y:List Tm) (vx vy:Value) (w:World) (hx:qam S w x [vx]) (hy:qam S w y [vy]) :
  Calls Tryz.prog 121 #[vx,vy,.func (.func 122) #[] #[]] w fun e w'=>e = .returned (.int .i64 (qar x y))∧qad w w':=by
 have hcon:=fun W (hW:qad w W)=>cmpFTm qbs S W x y vx vy (qam.good.ext hx hW) (qam.good.ext hy hW) 122 #[] eg122 (fun x hx y hy cs cs2 W' hW' h1 h2=>sig_c x S y cs cs2 W' h1 h2)
 rw [qm4] at hcon
 obtain ⟨A,c,rfl,hc,hc0⟩:=hx.val
 obtain ⟨A',c',rfl,hc',hc0'⟩:=hy.val
 clear hx hy
 go_enter Tryz.func121,Tryz.ntmps121
 go_wp2_with fail
 refine (hcon _ qaj).mono ?_
 rintro e w1 ⟨rfl,hx1⟩
 go_wp2_with fail
 go_ret
 exact ⟨rfl,qaj⟩
theorem qlz (S:Nat->Prop) (x y:Lb) (cx cy:List Value) (w:World) (hx:RLb S w x cx) (hy:RLb S w y cy) :
  Calls Tryz.prog 57 #[.agg cx.toArray,.agg cy.toArray] w fun e w'=>e = .returned (.int .i64 (qan x y))∧qad w w':=by
 obtain ⟨_,vx,rfl,hx⟩:=hx
 obtain ⟨_,vy,rfl,hy⟩:=hy
 have hcon:=fun W (hW:qad w W)=>lists_c S x.v y.v vx vy W (qam.good.ext hx hW) (qam.good.ext hy hW)
 obtain ⟨A,c,rfl,hc,hc0⟩:=hx.val
 obtain ⟨A',c',rfl,hc',hc0'⟩:=hy.val
 clear hx hy
 go_enter Tryz.func57,Tryz.ntmps57
 go_wp2_with fail
 go_region_held3 (fun W=>W.cell? ⟨w.heap.size,0,none⟩=some (.int .i64 x.g)∧W.cell? ⟨w.heap.size,1,none⟩=some (.slice A x.v.length c)∧W.cell? ⟨w.heap.size+1,0,none⟩=some (.int .i64 y.g)∧W.cell? ⟨w.heap.size+1,1,none⟩=some (.slice A' y.v.length c'))
  (first | (refine ⟨?_,?_,?_,?_⟩ <;> go_simp <;> done) | exact hx1.k4 (by assumption) | exact ((qad.refl _).alloc _).k4 (by assumption))
  (first | (go_at_call 120;refine (qe6 _ _ _).mono ?_;rintro e w' ⟨rfl,rfl⟩) | (go_at_call 121;refine (hcon _ qaj).mono ?_;rintro e w1 ⟨rfl,hx1⟩) | (go_at_call 119;refine (or_c (fun _=>True) [qah x.g y.g,qar x.v y.v] _ _ (qkw _ [qah x.g y.g,qar x.v y.v] 3 (by intro z hz;simp at hz;rcases hz with rfl | rfl <;> first | exact qfq _ _ | exact qiy _ _) (by simp))).mono ?_;rintro e w' ⟨rfl,rfl⟩))
 go_wp2_with fail
 go_ret
 exact ⟨rfl,qaj⟩
def qa5 (x y:Lb):Bool:=decide (qan x y=0)
theorem qnc (S:Nat->Prop) (x y:Lb) (cx cy:List Value) (w:World) (hx:RLb S w x cx) (hy:RLb S w y cy) :
  Calls Tryz.prog 37 #[.agg cx.toArray,.agg cy.toArray] w fun e w'=>e = .returned (.bool (qa5 x y))∧qad w w':=by
 have hcon:=fun W (hW:qad w W)=>qlz S x y cx cy W (RLb.good.ext hx hW) (RLb.good.ext hy hW)
 obtain ⟨_,vx,rfl,hx⟩:=hx
 obtain ⟨_,vy,rfl,hy⟩:=hy
 clear hx hy
 go_enter Tryz.func37,Tryz.ntmps37
 go_wp2_with fail
 refine (hcon _ qaj).mono ?_
 rintro e w1 ⟨rfl,hx1⟩
 go_wp2_with fail
 go_ret
 exact ⟨rfl,qaj⟩
def qbc (x y:Ed):Int:=orI [qah x.f y.f,qah x.l y.l,qah x.t y.t]
theorem qrq (S:Nat->Prop) (x y:Ed) (cx cy:List Value) (w:World) (hx:REd S w x cx) (hy:REd S w y cy) :
  Calls Tryz.prog 98 #[.agg cx.toArray,.agg cy.toArray] w fun e w'=>e = .returned (.int .i64 (qbc x y))∧qad w w':=by
 obtain ⟨_,_,_,rfl⟩:=hx
 obtain ⟨_,_,_,rfl⟩:=hy
 go_enter Tryz.func98,Tryz.ntmps98
 go_wp2_with fail
 go_region_held3 (fun W=>W.cell? ⟨w.heap.size,0,none⟩=some (.int .i64 x.f)∧W.cell? ⟨w.heap.size,1,none⟩=some (.int .i64 x.l)∧W.cell? ⟨w.heap.size,2,none⟩=some (.int .i64 x.t)∧W.cell? ⟨w.heap.size+1,0,none⟩=some (.int .i64 y.f)∧W.cell? ⟨w.heap.size+1,1,none⟩=some (.int .i64 y.l)∧W.cell? ⟨w.heap.size+1,2,none⟩=some (.int .i64 y.t))
  (first | (refine ⟨?_,?_,?_,?_,?_,?_⟩ <;> go_simp <;> done) | exact hx1.k6 (by assumption) | exact ((qad.refl _).alloc _).k6 (by assumption))
  (first | (go_at_call 120;refine (qe6 _ _ _).mono ?_;rintro e w' ⟨rfl,rfl⟩) | (go_at_call 119;refine (or_c (fun _=>True) [qah x.f y.f,qah x.l y.l,qah x.t y.t] _ _ (qnf _ [qah x.f y.f,qah x.l y.l,qah x.t y.t] 3 (by intro z hz;simp at hz;rcases hz with rfl | rfl | rfl <;> exact qfq _ _) (by simp) _ (by simp))).mono ?_;rintro e w' ⟨rfl,rfl⟩))
 go_wp2_with fail
 go_ret
 exact ⟨rfl,qaj⟩
end
section
set_option maxHeartbeats 1000000
set_option maxRecDepth 100000
/- suite: what a trace,a set,a test is. -/
def qa0 (g:Int):Bool:=decide (0<=g) || decide (g = -2)
theorem qic (g:Int) (v:Value) (w:World) :
  Calls Tryz.prog 176 #[.agg #[.int .i64 g,v]] w fun e w'=>e = .returned (.bool (qa0 g))∧Ext w w':=by
 by_cases h:0<=g
 ·have HV:=Hd (show qa0 g=true from by simp [qa0,h])
  go_enter Tryz.func176,Tryz.ntmps176
  go_wp2_with fail
  go_ret
  exact ⟨by rw [HV.out];rfl,bel⟩
 ·have HV:=Hd (show qa0 g=(g == -2) from by unfold qa0;rw [decide_eq_false h,Bool.false_or];rfl)
  go_enter Tryz.func176,Tryz.ntmps176
  go_wp2_with fail
  go_ret
  exact ⟨by rw [HV.out];simp,bel⟩
def okV (x:Lb):Bool:=qav x && qa0 x.g
theorem eg207:∀ args w,(callFunc 207 args).run Tryz.prog w = .ok (.enter 207 args) w:=enters_of Tryz.func207 (by kernel_rfl) rfl
theorem shown1_c (S:Nat->Prop) (x:Lb) (cs:List Value) (w:World) (hx:RLb S w x cs) :
  Calls Tryz.prog 207 #[.agg cs.toArray] w fun e w'=>e = .returned (.bool (!okV x))∧Ext w w':=by
 have hcon:=fun W h=>qmy S x cs W h
 obtain ⟨_,v,rfl,hv⟩:=id hx
 have HX:=Hd hx
 clear hx hv
 cases ho:qav x with
 | true =>
  have HV:=Hd (show (!okV x) = !qa0 x.g from by simp [okV,ho])
  have e:qc5 x=0:=by rw [qc5,if_pos ho]
  rw [e] at hcon
  clear e ho
  go_enter Tryz.func207,Tryz.ntmps207
  go_wp2_with fail
  refine (hcon _ (RLb.good.bel HX.out bel)).mono ?_
  rintro e w1 ⟨rfl,h1⟩
  have hc1:=h1.cells
  go_wp2_with fail
  refine (qic _ _ _).mono ?_
  rintro e w2 ⟨rfl,h2⟩
  go_wp2_with fail
  go_ret
  exact ⟨by rw [HV.out];rfl,bel⟩
 | false =>
  have HV:=Hd (show (!okV x)=true from by simp [okV,ho])
  have e:qc5 x=170:=by rw [qc5,if_neg (by simp [ho])]
  rw [e] at hcon
  clear e ho
  go_enter Tryz.func207,Tryz.ntmps207
  go_wp2_with fail
  refine (hcon _ (RLb.good.bel HX.out bel)).mono ?_
  rintro e w1 ⟨rfl,h1⟩
  go_wp2_with fail
  go_ret
  exact ⟨by rw [HV.out];rfl,bel⟩
theorem any_not {α:Type} (p:α->Bool) (l:List α):(!(l.any fun x=>!p x))=l.all p:=by
 induction l with
 | nil=>rfl
 | cons x xs ih=>rw [List.any_cons,List.all_cons,<- ih];cases p x <;> simp
theorem shown_c (S:Nat->Prop) (l:List Lb) (v:Value) (w:World) (hx:qaa S w l [v]) :
  Calls Tryz.prog 140 #[v] w fun e w'=>e = .returned (.bool (l.all okV))∧Ext w w':=by
 have hcon:=conPLb (fun x=>!okV x) S w l v hx 207 #[] eg207 (fun x hx cs W' hW hr=>shown1_c S x cs W' hr)
 obtain ⟨A,c,rfl,hc,hc0⟩:=hx.val
 have HV:=Hd (any_not okV l)
 clear hx
 go_enter Tryz.func140,Tryz.ntmps140
 go_wp2_with fail
 refine hcon.mono ?_
 rintro e w1 ⟨rfl,h1⟩
 go_wp2_with fail
 go_ret
 exact ⟨by rw [<- HV.out];rfl,bel⟩
def qbq (l:List Lb):Bool:=decide (l.length<=40) && l.all okV
theorem qkp (S:Nat->Prop) (l:List Lb) (v:Value) (w:World) (hx:qaa S w l [v]) :
  Calls Tryz.prog 79 #[v] w fun e w'=>e = .returned (.bool (qbq l))∧Ext w w':=by
 have hcon:=shown_c S l v w hx
 obtain ⟨A,c,rfl,hc,hc0⟩:=hx.val
 clear hx
 by_cases h:l.length<=40
 ·have HV:=Hd (show qbq l=l.all okV from by simp [qbq,h])
  go_enter Tryz.func79,Tryz.ntmps79
  go_wp2_with fail
  refine hcon.mono ?_
  rintro e w1 ⟨rfl,h1⟩
  go_wp2_with fail
  go_ret
  exact ⟨by rw [HV.out];rfl,bel⟩
 ·have HV:=Hd (show qbq l=false from by simp [qbq,h])
  go_enter Tryz.func79,Tryz.ntmps79
  go_wp2_with fail
  go_ret
  exact ⟨by rw [HV.out];rfl,bel⟩
def qfk:List Lb->Bool
 | []=>true
 | [_]=>true
 | a :: b :: r=>decide (qan a b<0) && qfk (b :: r)
def qcq (l:List Lb):Bool:=qfk l && decide (l.length<=64) && l.all okV
theorem qin:∀ l:List Lb,qfk l=true↔∀ i,(h:i+1<l.length)->qan l[i] l[i+1]<0
 | []=>by simp [qfk]
 | [_]=>by simp [qfk]
 | a :: b :: r=>by
  rw [qfk,Bool.and_eq_true,qin (b :: r),decide_eq_true_eq]
  constructor
  ·rintro ⟨h0,h⟩ i hi
   cases i with
   | zero=>exact h0
   | succ i=>exact h i (by simpa using hi)
  ·intro h
   exact ⟨h 0 (by simp),fun i hi=>h (i+1) (by simpa using hi)⟩
theorem isSet_c (S:Nat->Prop) (l:List Lb) (v:Value) (w:World) (hx:qaa S w l [v]) :
  Calls Tryz.prog 101 #[v] w fun e w'=>e = .returned (.bool (qcq l))∧Ext w w':=by
 have hcon:=fun W (hb:Ext w W)=>shown_c S l v W (qaa.good.bel hx hb)
 obtain ⟨A,c,rfl,hc,hc0⟩:=hx.val
 have HX:=Hd hx
 clear hx
 go_enter Tryz.func101,Tryz.ntmps101
 go_wp2_with fail
 go_loopw [2,3] (fun r i wr=>∃ k:Nat,1<=k∧(k=1∨k<=l.length)∧i = .int .i64 k∧r = .bool false∧qad w wr∧Hid (∀ j,(h:j+1<l.length)->j+1<k->qan l[j] l[j+1]<0)) (fun _ i _=>l.length-(intOf i).toNat)
 case atStart=>exact ⟨1,by omega,.inl rfl,rfl,rfl,qad.refl _,fun j _ hj=>absurd hj (by omega)⟩
 case round =>
  obtain ⟨k,hk1,hk,rfl,rfl,hE,hz⟩:=hrel
  by_cases hlt:k<l.length
  ·obtain ⟨k,rfl⟩:∃ m,k=m+1:=⟨k-1,by omega⟩
   have hk0:k<l.length:=by omega
   obtain ⟨b,off,cs,rfl,hb,hs,hl,hr,hcell⟩:=(qaa.good.ext HX.out hE).get k hk0
   obtain ⟨b',off',cs',he,hb',hs',hl',hr',hcell'⟩:=(qaa.good.ext HX.out hE).get (k+1) hlt
   injection he with he
   injection he with he1 he2
   subst he1 he2
   obtain ⟨_,v1,rfl,hv1⟩:=id hr
   obtain ⟨_,v2,rfl,hv2⟩:=id hr'
   have g0:=hcell.get 0 _
   have g1:=hcell.get 1 _
   have g0':=hcell'.get 0 _
   have g1':=hcell'.get 1 _
   simp only [Nat.add_zero] at g0 g0'
   have hcmp:=fun W (hW:qad wr W)=>qg9 S _ _ _ _ W (RLb.good.ext hr hW) (RLb.good.ext hr' hW)
   have z1:(0:Int)<=(k:Int):=by omega
   have z2:((k:Int)+1)<(l.length:Int):=by omega
   have z3:(0:Int)<=(k:Int)+1:=by omega
   have z4:(k:Int)<(l.length:Int):=by omega
   clear hcell hcell' hl hl' hs hs' hv1 hv2 hr hr' hcon
   have y1:IntKind.i64.wrap ((k:Int)+1-1)=(k:Int):=by rw [IntWalk.i64_in _ (by omega)];omega
   have y2:IntKind.i64.wrap (k:Int)=(k:Int):=IntWalk.i64_in _ (by omega)
   by_cases hc2:qan l[k] l[k+1]<0
   ·have HC:=Hd hc2
    have hd:decide (qan l[k] l[k+1] ≥ 0)=false:=by simp;omega
    have hd':decide (0<=qan l[k] l[k+1])=false:=by simp;omega
    clear hc2
    go_wp2_with fail
    go_region_held3 (fun W=>W.cell? ⟨b,off+k*2,none⟩=some (.int .i64 l[k].g)∧W.cell? ⟨b,off+k*2+1,none⟩=some v1∧W.cell? ⟨b,off+(k+1)*2,none⟩=some (.int .i64 l[k+1].g)∧W.cell? ⟨b,off+(k+1)*2+1,none⟩=some v2)
     (first | (refine ⟨?_,?_,?_,?_⟩ <;> go_simp <;> done) | exact hx1.k4 (by assumption) | exact ((qad.refl _).alloc _).k4 (by assumption))
     (first | (go_at_call 166;refine (hcmp _ qaj).mono ?_;rintro e w1 ⟨rfl,hx1⟩))
    clear y1 y2
    go_wp2_with fail
    go_roundw
    case rel =>
     refine ⟨k+1+1,by omega,.inr (by omega),by go_num,rfl,qaj,fun j h hj=>?_⟩
     rcases Nat.lt_or_ge j k with h' | h'
     ·exact hz j h (by omega)
     ·obtain rfl:j=k:=by omega
      exact HC.out
    case measure=>simp [intOf];omega
   ·have HC:=Hd (show qcq l=false from by
     unfold qcq
     have:qfk l=false:=by
      cases h:qfk l with
      | false=>rfl
      | true=>exact absurd ((qin l).1 h k hlt) hc2
     rw [this];rfl)
    have hd':0<=qan l[k] l[k+1]:=by omega
    clear hc2
    go_wp2_with fail
    go_region_held3 (fun W=>W.cell? ⟨b,off+k*2,none⟩=some (.int .i64 l[k].g)∧W.cell? ⟨b,off+k*2+1,none⟩=some v1∧W.cell? ⟨b,off+(k+1)*2,none⟩=some (.int .i64 l[k+1].g)∧W.cell? ⟨b,off+(k+1)*2+1,none⟩=some v2)
     (first | (refine ⟨?_,?_,?_,?_⟩ <;> go_simp <;> done) | exact hx1.k4 (by assumption) | exact ((qad.refl _).alloc _).k4 (by assumption))
     (first | (go_at_call 166;refine (hcmp _ qaj).mono ?_;rintro e w1 ⟨rfl,hx1⟩))
    clear y1 y2
    go_wp2_with fail
    go_ret
    exact ⟨by rw [HC.out];rfl,bel⟩
  ·have hinc:qfk l=true:=(qin l).2 fun i hi=>hz i hi (by omega)
   have hle:=hcon wr hE.ext
   clear hz hcon
   by_cases h:l.length<=64
   ·have HV:=Hd (show qcq l=l.all okV from by simp [qcq,h,hinc])
    clear hinc
    go_wp2_with fail
    refine hle.mono ?_
    rintro e w1 ⟨rfl,h1⟩
    go_wp2_with fail
    go_ret
    exact ⟨by rw [HV.out];rfl,bel⟩
   ·have HV:=Hd (show qcq l=false from by simp [qcq,h])
    clear hinc
    go_wp2_with fail
    go_ret
    exact ⟨by rw [HV.out];rfl,bel⟩
def qeh (t:Te):Bool:=qbq t.tr && decide (0<t.mu.length) && qcq t.mu
def ckTe (t:Te):Int:=if qeh t then 0 else 340
theorem qte (S:Nat->Prop) (t:Te) (cs:List Value) (w:World) (hx:RTe S w t cs) :
  Calls Tryz.prog 45 #[.agg cs.toArray] w fun e w'=>e = .returned (.int .i64 (ckTe t))∧Ext w w':=by
 obtain ⟨v,u,rfl,hv,hu⟩:=id hx
 have h1:=fun W (hb:Ext w W)=>qkp S t.tr v W (qaa.good.bel hv hb)
 have h2:=fun W (hb:Ext w W)=>isSet_c S t.mu u W (qaa.good.bel hu hb)
 obtain ⟨A,c,rfl,hc,hc0⟩:=hv.val
 obtain ⟨A',c',rfl,hc',hc0'⟩:=hu.val
 clear hx hv hu
 cases ha:qbq t.tr with
 | false =>
  have HV:=Hd (show ckTe t=340 from by simp [ckTe,qeh,ha])
  rw [ha] at h1
  clear ha
  go_enter Tryz.func45,Tryz.ntmps45
  go_wp2_with fail
  refine (h1 _ bel).mono ?_
  rintro e w1 ⟨rfl,hw1⟩
  go_wp2_with fail
  go_ret
  exact ⟨by rw [HV.out];rfl,bel⟩
 | true =>
  rw [ha] at h1
  by_cases hz:0<t.mu.length
  ·have hz':((t.mu.length:Int) == 0)=false:=beq_eq_false_iff_ne.2 (by omega)
   cases hb:qcq t.mu with
   | false =>
    have HV:=Hd (show ckTe t=340 from by simp [ckTe,qeh,hb])
    rw [hb] at h2
    clear ha hb
    go_enter Tryz.func45,Tryz.ntmps45
    go_wp2_with fail
    refine (h1 _ bel).mono ?_
    rintro e w1 ⟨rfl,hw1⟩
    have hc1:=hw1.cells
    go_wp2_with fail
    refine (h2 _ bel).mono ?_
    rintro e w2 ⟨rfl,hw2⟩
    go_wp2_with fail
    go_ret
    exact ⟨by rw [HV.out];rfl,bel⟩
   | true =>
    have HV:=Hd (show ckTe t=0 from by simp [ckTe,qeh,ha,hb,hz])
    rw [hb] at h2
    clear ha hb
    go_enter Tryz.func45,Tryz.ntmps45
    go_wp2_with fail
    refine (h1 _ bel).mono ?_
    rintro e w1 ⟨rfl,hw1⟩
    have hc1:=hw1.cells
    go_wp2_with fail
    refine (h2 _ bel).mono ?_
    rintro e w2 ⟨rfl,hw2⟩
    go_wp2_with fail
    go_ret
    exact ⟨by rw [HV.out];rfl,bel⟩
  ·have HV:=Hd (show ckTe t=340 from by simp [ckTe,qeh,hz])
   have hz':((t.mu.length:Int) == 0)=true:=beq_iff_eq.2 (by omega)
   clear ha
   go_enter Tryz.func45,Tryz.ntmps45
   go_wp2_with fail
   refine (h1 _ bel).mono ?_
   rintro e w1 ⟨rfl,hw1⟩
   have hc1:=hw1.cells
   go_wp2_with fail
   go_ret
   exact ⟨by rw [HV.out];rfl,bel⟩
end
end Go.Proofs.YtegenalcheooeaaGreat
