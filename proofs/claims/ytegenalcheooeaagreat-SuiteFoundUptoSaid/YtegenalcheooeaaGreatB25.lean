/- Of the proof of a law of the suites: Conforms, LawEval, LawSane1, LawSane0. -/
import Derived.Test.YtegenalcheooeaaGreatB05
import Derived.Test.YtegenalcheooeaaGreatB15
import Derived.Test.YtegenalcheooeaaGreatB17
import Derived.Test.YtegenalcheooeaaGreatB21
import Derived.Test.YtegenalcheooeaaGreatB22
import Derived.Test.YtegenalcheooeaaGreatB24
set_option linter.unusedSectionVars false
set_option linter.unusedSimpArgs false
set_option linter.unusedVariables false
namespace Go.Proofs.YtegenalcheooeaaGreat
open Go.RowKit
attribute [local go_sem] cell?_exto
section
open Go.Shelf
theorem qp6 (P:Te->Prop) (s:Sy):∀ (ps:List Pl) (out r:List Te),(∀ t∈out,P t)->out.length<=4000->(∀ p∈ps,∀ ms,qbk s p.st=some ms->∀ m∈ms,P ⟨p.tr,m⟩)->qdg s ps out=some r->(∀ t∈r,P t)∧r.length<=4000
 | [],out,r,h,hl,_,e=>by rw [qdg] at e;injection e with e;rw [<- e];exact ⟨h,hl⟩
 | p :: ps,out,r,h,hl,hp,e=>by
  rw [qdg] at e
  split at e
  ·cases e
  ·rename_i ms hms
   split at e
   ·cases e
   ·rename_i hlen
    refine qp6 P s ps _ r (fun t ht=>?_) (by omega) (fun q hq=>hp q (List.mem_cons_of_mem _ hq)) e
    rcases List.mem_append.1 ht with ht | ht
    ·exact h t ht
    ·obtain ⟨m,hm,rfl⟩:=List.mem_map.1 ht
     exact hp p (List.mem_cons_self ..) ms hms m hm
theorem qty (s:Sy) (d:Nat):(∀ t∈qbs (qb3 s d),t.tr.length<=d∧t.mu.length<=64∧(∀ x∈t.tr,x∈s.ls)∧(∀ x∈t.mu,x∈s.ls))∧(qbs (qb3 s d)).length<=4000:=by
 cases h:qb3 s d with
 | none=>simp [qbs]
 | some r =>
  have hpl:=qrt s d
  unfold qb3 at h
  split at h
  ·cases h
  ·rename_i pls hpls
   rw [hpls] at hpl
   exact qp6 (fun t=>t.tr.length<=d∧t.mu.length<=64∧(∀ x∈t.tr,x∈s.ls)∧(∀ x∈t.mu,x∈s.ls)) s pls [] r (by simp) (by simp) (fun p hp ms hms m hm=>by
    have h1:=qk3 s p.st
    have h2:=qnk s p.st
    rw [hms] at h1 h2
    have h3:=hpl.1 p hp
    exact ⟨h3.1,h1.2 m hm,h3.2.1,h2 m hm⟩) h
theorem RSl.avoid {α:Type} {R:Rdr α} {k:Nat} {S:Nat->Prop} {w:World} {g:Nat} (hg:∀ off n,w.cell? ⟨g,off,none⟩≠some (.int .i64 n)) {xs:List α} {v:Value} (h:RSl R k S w xs [v])
  (hR:∀ x∈xs,∀ cs,R S w x cs->R (fun b=>S b∧b≠g) w x cs∧∃ n,cs[0]? = some (.int .i64 n)):RSl R k (fun b=>S b∧b≠g) w xs [v]:=by
 obtain ⟨A,c,hv,h1,h0,h2⟩:=h
 refine ⟨A,c,hv,h1,h0,?_⟩
 rcases xs with _ | ⟨x,xs⟩
 ·exact .inl rfl
 right
 rcases h2 with h2 | ⟨b,off,e,hb,hs,hr⟩
 ·cases h2
 have hne:b≠g:=by
  rintro rfl
  obtain ⟨⟨cs,h3,h4,h5⟩,_⟩:=hr
  obtain ⟨_,n,hn⟩:=hR x (List.mem_cons_self ..) cs h4
  exact hg _ n (h5 0 _ hn)
 exact ⟨b,off,e,hb,⟨hs,hne⟩,hr.imp (fun y hy cs hc=>(hR y hy cs hc).1) rfl⟩
theorem RTm.avoid {w:World} {g:Nat} (hg:∀ off n,w.cell? ⟨g,off,none⟩≠some (.int .i64 n)):∀ (t:Tm),∀ {S:Nat->Prop} {cs},RTm S w t cs->RTm (fun b=>S b∧b≠g) w t cs:=by
 refine Tm.ind fun t ih S cs h=>?_
 obtain ⟨h1,h2,v,rfl,hv⟩:=(qaz ..).1 h
 exact (qaz ..).2 ⟨h1,h2,v,rfl,hv.avoid hg fun x hx cs hc=>⟨ih x hx hc,by obtain ⟨_,_,u,rfl,_⟩:=(qaz ..).1 hc;exact ⟨_,rfl⟩⟩⟩
theorem qaa.avoid {S:Nat->Prop} {w:World} {g:Nat} (hg:∀ off n,w.cell? ⟨g,off,none⟩≠some (.int .i64 n)) {xs:List Lb} {v:Value} (h:qaa S w xs [v]):qaa (fun b=>S b∧b≠g) w xs [v] :=
 RSl.avoid hg h fun x _ cs hc=>by
  obtain ⟨h1,u,rfl,hu⟩:=hc
  exact ⟨⟨h1,u,rfl,hu.avoid hg fun y _ cs hc=>⟨RTm.avoid hg y hc,by obtain ⟨_,_,u,rfl,_⟩:=(qaz ..).1 hc;exact ⟨_,rfl⟩⟩⟩,_,rfl⟩
theorem qj3 (S:Nat->Prop) (w:World):RTe S w ⟨[],[]⟩ [.slice none 0 0,.slice none 0 0]:=⟨_,_,rfl,⟨none,0,rfl,Nat.le_refl _,by decide,.inl rfl⟩,⟨none,0,rfl,Nat.le_refl _,by decide,.inl rfl⟩⟩
theorem qvi {fn:Func} {a p b:Tmp} (h:fn.results = #[.tmp a,.cell p 40,.tmp b]) (tmps:Array Value) (w:World) (g:Nat) (v u:Value) (hp:tmps.getD p undef = .pointer (some ⟨g,0,none⟩)) (h0:w.cell? ⟨g,0,none⟩=some v) (h1:w.cell? ⟨g,1,none⟩=some u) :
  (results fn tmps).run Tryz.prog w = .ok (.tuple #[tmps.getD a undef,.agg #[v,u],tmps.getD b undef]) w:=by
 have hp':tmps[p]?.getD undef = .pointer (some ⟨g,0,none⟩):=by simpa using hp
 simp [results,h,hp',asAddr,go_sem,h0,h1]
theorem two_set (w:World) (g:Nat) (v u a b:Value) (h0:w.cell? ⟨g,0,none⟩=some a) (h1:w.cell? ⟨g,1,none⟩=some b) :
  ((w.setCell ⟨g,0,none⟩ v).setCell ⟨g,1,none⟩ u).cell? ⟨g,0,none⟩=some v∧((w.setCell ⟨g,0,none⟩ v).setCell ⟨g,1,none⟩ u).cell? ⟨g,1,none⟩=some u:=by
 constructor <;> go_simp
theorem qig {w w1:World} {a b c x y z:Value} (h1:Ext (((w.alloc (.cells #[a,b,c] 25)).alloc (.cells #[x,y,z] 25)).alloc (.cells #[.slice none 0 0,.slice none 0 0] 40)) w1) :
  (w1.cell? ⟨w.heap.size+1+1,0,none⟩=some (.slice none 0 0)∧w1.cell? ⟨w.heap.size+1+1,1,none⟩=some (.slice none 0 0)∧w1.frozen? ⟨w.heap.size+1+1,0,none⟩=false∧w1.frozen? ⟨w.heap.size+1+1,1,none⟩=false) ∧
  (w1.cell? ⟨w.heap.size+1,0,none⟩=some x∧w1.cell? ⟨w.heap.size+1,1,none⟩=some y∧w1.cell? ⟨w.heap.size+1,2,none⟩=some z)∧(w1.cell? ⟨w.heap.size,0,none⟩=some a∧w1.cell? ⟨w.heap.size,1,none⟩=some b∧w1.cell? ⟨w.heap.size,2,none⟩=some c)∧Ext w w1∧w.heap.size+3<=w1.heap.size :=
 ⟨⟨Ext.keep h1 (by go_simp),Ext.keep h1 (by go_simp),qc6 h1 (by simp) (by go_simp),qc6 h1 (by simp) (by go_simp)⟩,⟨Ext.keep h1 (by go_simp),Ext.keep h1 (by go_simp),Ext.keep h1 (by go_simp)⟩,⟨Ext.keep h1 (by go_simp),Ext.keep h1 (by go_simp),Ext.keep h1 (by go_simp)⟩,bel,by have:=h1.size;simp at this;omega⟩
theorem qf2 {W W':World} {p q:Addr} {u v:Value} (h:Ext W W') (c0:W.cell? p=some u) (c1:W.cell? q=some v) (f0:W.frozen? p=false) (f1:W.frozen? q=false):W'.cell? p=some u∧W'.cell? q=some v∧W'.frozen? p=false∧W'.frozen? q=false :=
 ⟨Ext.keep h c0,Ext.keep h c1,qc6 h (World.block_lt_of_cell? _ _ c0) f0,qc6 h (World.block_lt_of_cell? _ _ c1) f1⟩
open Classical in
noncomputable def qcz (s k:Sy) (d:Int):Int:=if qag s then (if qag k then (if 0<=d∧d<=8 then errO (qb3 s d.toNat) else 1) else 8) else 8
def qf4 (s k:Sy) (d:Int):Int:=qa8 (qbg k) (qbs (qb3 s d.toNat))
noncomputable def qdo (s k:Sy) (d:Int):Bool:=decide (qcz s k d=0) && decide (qf4 s k d<0)
noncomputable def qdj (s k:Sy) (d:Int):Te:=if qcz s k d=0∧0<=qf4 s k d then (qbs (qb3 s d.toNat)).getD (qf4 s k d).toNat ⟨[],[]⟩ else ⟨[],[]⟩
def qqy (b:Bool) (t:Te) (err:Int) (w:World) (e:Ending) (w':World):Prop:=∃ v u,e = .returned (.tuple #[.bool b,.agg #[v,u],.int .i64 err])∧RTe (fun _=>True) w' t [v,u]∧Ext w w'
theorem qi0 {fn:Func} {a p b:Tmp} {tmps:Array Value} {w W:World} {g:Nat} {v u x y:Value} {bb:Bool} {t:Te} {err:Int} (h:fn.results = #[.tmp a,.cell p 40,.tmp b]) (hp:tmps.getD p undef = .pointer (some ⟨g,0,none⟩))
  (ha:tmps.getD a undef = .bool bb) (hb:tmps.getD b undef = .int .i64 err) (hg:w.heap.size<=g) (hW:Ext w W) (h0:W.cell? ⟨g,0,none⟩=some x) (h1:W.cell? ⟨g,1,none⟩=some y) (ht:RTe (fun b=>b≠g) W t [v,u]) :
  bodyPost Tryz.prog fn (qqy bb t err w) .ret { tmps:=tmps,defers:=[] } ((W.setCell ⟨g,0,none⟩ v).setCell ⟨g,1,none⟩ u):=by
 have h2:=two_set W g v u x y h0 h1
 refine bodyPost_ret (qvi h tmps _ g v u hp h2.1 h2.2) rfl ⟨v,u,by rw [ha,hb],?_,(hW.set hg _).set hg _⟩
 refine RTe.good.mono (RTe.good.move ht ?_) fun _ _ _=>trivial
 have hb:Bt (fun q=>q=g) W ((W.setCell ⟨g,0,none⟩ v).setCell ⟨g,1,none⟩ u):=Bt.set (Z:=fun q=>q=g) (p:=⟨g,1,none⟩) (Bt.set (Z:=fun q=>q=g) (p:=⟨g,0,none⟩) (Bt.refl _ _) (.inr rfl) v) (.inr rfl) u
 exact hb.kp fun k _ h=>h
set_option maxHeartbeats 1000000 in
set_option maxRecDepth 100000 in
theorem qsa (S:Nat->Prop) (s k:Sy) (hsm:qer s) (cs ck:List Value) (d:Int) (w:World) (hx:RSy S w s cs) (hy:RSy S w k ck) :
  Calls Tryz.prog 29 #[.agg cs.toArray,.agg ck.toArray,.int .i64 d] w (qqy (qdo s k d) (qdj s k d) (qcz s k d) w):=by
 obtain ⟨_,vl,ve,rfl,hvl,hve⟩:=id hx
 obtain ⟨Al,cl,rfl,_,_⟩:=hvl.val
 obtain ⟨Ae,ce,rfl,_,_⟩:=hve.val
 obtain ⟨_,vl2,ve2,rfl,hvl2,hve2⟩:=id hy
 obtain ⟨Al2,cl2,rfl,_,_⟩:=hvl2.val
 obtain ⟨Ae2,ce2,rfl,_,_⟩:=hve2.val
 have HX:=Hd hx
 have HY:=Hd hy
 clear hx hvl hve hy hvl2 hve2
 by_cases hok:qag s
 case neg =>
  have hcon:=fun W (hW:Ext w W)=>qht _ s _ W (RSy.good.bel HX.out hW) hok
  have hE:qcz s k d=8:=if_neg hok
  have HV:=Hd (And.intro hE (And.intro (show qdo s k d=false from by rw [qdo,hE];rfl) (show qdj s k d=⟨[],[]⟩ from by rw [qdj,if_neg];rw [hE];simp)))
  clear hE
  go_enter Tryz.func29,Tryz.ntmps29
  go_wp2_with fail
  refine (hcon _ bel).mono ?_
  rintro e w1 ⟨rfl,h1⟩
  obtain ⟨⟨c0,c1,f0,f1⟩,_,_,hX1,_⟩:=qig h1
  go_wp2_with fail
  rw [HV.out.1,HV.out.2.1,HV.out.2.2]
  refine qi0 (a:=6) (p:=7) (b:=8) ?_ ?_ ?_ ?_ (by omega) hX1 c0 c1 (qj3 ..) <;> rfl
 have hcon:=fun W (hW:Ext w W)=>qge S s _ W (RSy.good.bel HX.out hW) hok
 by_cases hok2:qag k
 case neg =>
  have hcon2:=fun W (hW:Ext w W)=>qht S k _ W (RSy.good.bel HY.out hW) hok2
  have hE:qcz s k d=8:=by rw [qcz,if_pos hok,if_neg hok2]
  have HV:=Hd (And.intro hE (And.intro (show qdo s k d=false from by rw [qdo,hE];rfl) (show qdj s k d=⟨[],[]⟩ from by rw [qdj,if_neg];rw [hE];simp)))
  clear hE
  go_enter Tryz.func29,Tryz.ntmps29
  go_wp2_with fail
  refine (hcon _ bel).mono ?_
  rintro e w1 ⟨g,rfl,h1,hg,hS⟩
  obtain ⟨⟨c0,c1,f0,f1⟩,⟨k0,k1,k2⟩,_,hX1,_⟩:=qig h1
  clear h1 hS
  go_wp2_with fail
  refine (hcon2 _ hX1).mono ?_
  rintro e w2 ⟨rfl,h2⟩
  obtain ⟨c0,c1,f0,f1⟩:=qf2 h2 c0 c1 f0 f1
  go_wp2_with fail
  rw [HV.out.1,HV.out.2.1,HV.out.2.2]
  refine qi0 (a:=6) (p:=7) (b:=8) ?_ ?_ ?_ ?_ (by omega) (hX1.trans' h2) c0 c1 (qj3 ..) <;> rfl
 have hcon2:=fun W (hW:Ext w W)=>qge S k _ W (RSy.good.bel HY.out hW) hok2
 by_cases hd:0<=d∧d<=8
 case neg =>
  have hE:qcz s k d=1:=by rw [qcz,if_pos hok,if_pos hok2,if_neg hd]
  have HV:=Hd (And.intro hE (And.intro (show qdo s k d=false from by rw [qdo,hE];rfl) (show qdj s k d=⟨[],[]⟩ from by rw [qdj,if_neg];rw [hE];simp)))
  clear hE
  rcases (show d<0∨(0<=d∧8<d) by omega) with hd | hd
  all_goals
   go_enter Tryz.func29,Tryz.ntmps29
   go_wp2_with fail
   refine (hcon _ bel).mono ?_
   rintro e w1 ⟨g,rfl,h1,hg,hS⟩
   obtain ⟨⟨c0,c1,f0,f1⟩,⟨k0,k1,k2⟩,_,hX1,hz1⟩:=qig h1
   have HS:=Hd (hS.mono (S':=fun _=>True) fun _ _ _=>trivial)
   clear h1 hS hg
   go_wp2_with fail
   refine (hcon2 _ hX1).mono ?_
   rintro e w2 ⟨g2,rfl,h2,hg2,hS2⟩
   obtain ⟨c0,c1,f0,f1⟩:=qf2 h2 c0 c1 f0 f1
   have HS2:=Hd (hS2.mono (S':=fun _=>True) fun _ _ _=>trivial)
   have hz2:=h2.size
   clear hg2 hS2
   go_wp2_with fail
   rw [HV.out.1,HV.out.2.1,HV.out.2.2]
   refine qi0 (a:=6) (p:=7) (b:=8) ?_ ?_ ?_ ?_ (by omega) (hX1.trans' h2) c0 c1 (qj3 ..) <;> rfl
 obtain ⟨hd0,hd8⟩:=hd
 have hE:qcz s k d=errO (qb3 s d.toNat):=by rw [qcz,if_pos hok,if_pos hok2,if_pos ⟨hd0,hd8⟩]
 have hgc:=fun W g (hg:qav (fun _=>True) W g s)=>qrf (fun _=>True) s hok hsm g d.toNat W hg (by omega)
 rw [Int.toNat_of_nonneg hd0] at hgc
 have hgok:=qty s d.toNat
 cases hgl:qb3 s d.toNat with
 | none =>
  rw [hgl] at hgc hE
  have HV:=Hd (And.intro (show qcz s k d=2 from hE) (And.intro (show qdo s k d=false from by rw [qdo,hE];rfl) (show qdj s k d=⟨[],[]⟩ from by rw [qdj,if_neg];rw [hE];simp [errO])))
  have hgc2:∀ W g,qav (fun _=>True) W g s->Calls Tryz.prog 88 #[.pointer (some ⟨g,0,none⟩),.int .i64 d] W fun e w'=>∃ A c,e = .returned (.tuple #[.slice A 0 c,.int .i64 2])∧qab RTe 2 40 W.heap.size (fun _=>True) w' [] (.slice A 0 c)∧Ext W w':=fun W g hg=>(hgc W g hg).mono fun _ _ h=>h
  clear hE hgl hgc hgok
  go_enter Tryz.func29,Tryz.ntmps29
  go_wp2_with fail
  refine (hcon _ bel).mono ?_
  rintro e w1 ⟨g,rfl,h1,hg,hS⟩
  obtain ⟨⟨c0,c1,f0,f1⟩,⟨k0,k1,k2⟩,_,hX1,hz1⟩:=qig h1
  have HS:=Hd (hS.mono (S':=fun _=>True) fun _ _ _=>trivial)
  clear h1 hS hg
  go_wp2_with fail
  refine (hcon2 _ hX1).mono ?_
  rintro e w2 ⟨g2,rfl,h2,hg2,hS2⟩
  obtain ⟨c0,c1,f0,f1⟩:=qf2 h2 c0 c1 f0 f1
  have HS2:=Hd (hS2.mono (S':=fun _=>True) fun _ _ _=>trivial)
  have hz2:=h2.size
  clear hg2 hS2
  go_wp2_with fail
  refine (hgc2 _ g (HS.out.bel h2)).mono ?_
  rintro e w3 ⟨A3,c3,rfl,ho3,h3⟩
  obtain ⟨c0,c1,f0,f1⟩:=qf2 h3 c0 c1 f0 f1
  clear ho3
  go_wp2_with fail
  rw [HV.out.1,HV.out.2.1,HV.out.2.2]
  refine qi0 (a:=6) (p:=7) (b:=8) ?_ ?_ ?_ ?_ (by omega) (hX1.trans' (h2.trans' h3)) c0 c1 (qj3 ..) <;> rfl
 | some ts =>
  rw [hgl] at hgc hE hgok
  have hI:qf4 s k d=qa8 (qbg k) ts:=by rw [qf4,hgl];rfl
  have hgc2:∀ W g,qav (fun _=>True) W g s->Calls Tryz.prog 88 #[.pointer (some ⟨g,0,none⟩),.int .i64 d] W fun e w'=>∃ A c,e = .returned (.tuple #[.slice A ts.length c,.int .i64 0])∧qab RTe 2 40 W.heap.size (fun _=>True) w' ts (.slice A ts.length c)∧Ext W w':=fun W g hg=>(hgc W g hg).mono fun _ _ h=>h
  have hfl:=fun W g v (hg:qav (fun _=>True) W g k) (hv:RSl RTe 2 (fun _=>True) W ts [v])=>qmh (fun _=>True) k hok2 g ts v W hg hv (fun t ht=>by have:=hgok.1 t ht;exact ⟨by omega,by omega⟩)
  have hb:=qjq (qbg k) ts
  have hB:qdo s k d=decide (qa8 (qbg k) ts<0):=by rw [qdo,hE,hI];rfl
  have hT:qdj s k d=if 0<=qa8 (qbg k) ts then ts.getD (qa8 (qbg k) ts).toNat ⟨[],[]⟩ else ⟨[],[]⟩:=by rw [qdj,hE,hI,hgl];simp [errO,qbs]
  obtain ⟨i,hi⟩:∃ i,qa8 (qbg k) ts=i:=⟨_,rfl⟩
  rw [hi] at hfl hb hB hT
  clear hgl hgc hgok hi hI
  by_cases h0:0<=i
  ·obtain ⟨n,rfl⟩:∃ n:Nat,i=n:=⟨i.toNat,by omega⟩
   have hn:n<ts.length:=by omega
   have HV:=Hd (And.intro (show qcz s k d=0 from hE) (And.intro (show qdo s k d=false from by rw [hB];simp) (show qdj s k d=ts[n] from by rw [hT,if_pos h0];simp [hn])))
   clear hE hB hT
   go_enter Tryz.func29,Tryz.ntmps29
   go_wp2_with fail
   refine (hcon _ bel).mono ?_
   rintro e w1 ⟨g,rfl,h1,hg,hS⟩
   have hb1:w1.heap[w.heap.size+1+1]? = some (.cells #[.slice none 0 0,.slice none 0 0] 40):=(h1.block _ (by simp)).trans (by
    have:=World.alloc_heap_new ((w.alloc (.cells #[.int .i64 s.n,.slice Al s.ls.length cl,.slice Ae s.es.length ce] 25)).alloc (.cells #[.int .i64 k.n,.slice Al2 k.ls.length cl2,.slice Ae2 k.es.length ce2] 25)) (.cells #[.slice none 0 0,.slice none 0 0] 40)
    rwa [World.size_alloc,World.size_alloc] at this)
   obtain ⟨⟨c0,c1,f0,f1⟩,⟨k0,k1,k2⟩,_,hX1,hz1⟩:=qig h1
   have HS:=Hd (hS.mono (S':=fun _=>True) fun _ _ _=>trivial)
   clear h1 hS hg
   go_wp2_with fail
   refine (hcon2 _ hX1).mono ?_
   rintro e w2 ⟨g2,rfl,h2,hg2,hS2⟩
   obtain ⟨c0,c1,f0,f1⟩:=qf2 h2 c0 c1 f0 f1
   have HS2:=Hd (hS2.mono (S':=fun _=>True) fun _ _ _=>trivial)
   have hz2:=h2.size
   clear hg2 hS2
   go_wp2_with fail
   refine (hgc2 _ g (HS.out.bel h2)).mono ?_
   rintro e w3 ⟨A3,c3,rfl,ho3,h3⟩
   obtain ⟨c0,c1,f0,f1⟩:=qf2 h3 c0 c1 f0 f1
   have HO3:=Hd ((RSl.good RTe.good).mono (ho3.sl RTe.good (by decide)) (S':=fun _=>True) fun _ _ _=>trivial)
   obtain ⟨b,off,cs,he,hbl,_,hl,hr,hcell⟩:=HO3.out.get n hn
   obtain rfl:=he
   obtain ⟨v0,v1,rfl,ha0,ha1⟩:=id hr
   obtain ⟨B0,d0,rfl,_,_⟩:=ha0.val
   obtain ⟨B1,d1,rfl,_,_⟩:=ha1.val
   have a0:=hcell.get 0 _
   have a1:=hcell.get 1 _
   simp only [Nat.add_zero] at a0
   have hgn:∀ off n,w3.cell? ⟨w.heap.size+1+1,off,none⟩≠some (.int .i64 n):=by
    intro off n
    have hb3:=(h3.block _ (by omega)).trans ((h2.block _ (by omega)).trans hb1)
    rw [cell_of_row w3 _ off _ _ _ hb3]
    rcases off with _ | _ | off <;> simp
   have hr:=(show RTe (fun b=>True∧b≠w.heap.size+1+1) w3 ts[n] _ from ⟨_,_,rfl,qaa.avoid hgn ha0,qaa.avoid hgn ha1⟩)
   have HR:=Hd hr
   clear ho3 hcell hl hr hbl ha0 ha1
   go_wp2_with fail
   refine (hfl _ g2 _ (HS2.out.bel h3) HO3.out).mono ?_
   rintro e w4 ⟨rfl,h4⟩
   obtain ⟨c0,c1,f0,f1⟩:=qf2 h4 c0 c1 f0 f1
   have a0:=Ext.keep h4 a0
   have a1:=Ext.keep h4 a1
   have f0d:w4.drew.frozen? ⟨w.heap.size+1+1,0,none⟩=false:=f0
   have f1d:w4.drew.frozen? ⟨w.heap.size+1+1,1,none⟩=false:=f1
   have c0d:w4.drew.cell? ⟨w.heap.size+1+1,0,none⟩=some (.slice none 0 0):=c0
   have c1d:w4.drew.cell? ⟨w.heap.size+1+1,1,none⟩=some (.slice none 0 0):=c1
   go_wp2_with fail
   go_region_with (fail)
   all_goals go_wp2_with fail
   all_goals rw [HV.out.1,HV.out.2.1,HV.out.2.2]
   all_goals refine qi0 (a:=6) (p:=7) (b:=8) ?_ ?_ ?_ ?_ (by omega) (Below.drew (hX1.trans' (h2.trans' (h3.trans' h4)))) c0d c1d (RTe.good.bel (RTe.good.mono HR.out fun _ _ h=>h.2) (Below.drew h4))
   all_goals rfl
  ·have HV:=Hd (And.intro (show qcz s k d=0 from hE) (And.intro (show qdo s k d=true from by rw [hB];simp;omega) (show qdj s k d=⟨[],[]⟩ from by rw [hT,if_neg h0])))
   clear hE hB hT
   go_enter Tryz.func29,Tryz.ntmps29
   go_wp2_with fail
   refine (hcon _ bel).mono ?_
   rintro e w1 ⟨g,rfl,h1,hg,hS⟩
   obtain ⟨⟨c0,c1,f0,f1⟩,⟨k0,k1,k2⟩,_,hX1,hz1⟩:=qig h1
   have HS:=Hd (hS.mono (S':=fun _=>True) fun _ _ _=>trivial)
   clear h1 hS hg
   go_wp2_with fail
   refine (hcon2 _ hX1).mono ?_
   rintro e w2 ⟨g2,rfl,h2,hg2,hS2⟩
   obtain ⟨c0,c1,f0,f1⟩:=qf2 h2 c0 c1 f0 f1
   have HS2:=Hd (hS2.mono (S':=fun _=>True) fun _ _ _=>trivial)
   have hz2:=h2.size
   clear hg2 hS2
   go_wp2_with fail
   refine (hgc2 _ g (HS.out.bel h2)).mono ?_
   rintro e w3 ⟨A3,c3,rfl,ho3,h3⟩
   obtain ⟨c0,c1,f0,f1⟩:=qf2 h3 c0 c1 f0 f1
   have HO3:=Hd ((RSl.good RTe.good).mono (ho3.sl RTe.good (by decide)) (S':=fun _=>True) fun _ _ _=>trivial)
   clear ho3
   go_wp2_with fail
   refine (hfl _ g2 _ (HS2.out.bel h3) HO3.out).mono ?_
   rintro e w4 ⟨rfl,h4⟩
   obtain ⟨c0,c1,f0,f1⟩:=qf2 h4 c0 c1 f0 f1
   go_wp2_with fail
   rw [HV.out.1,HV.out.2.1,HV.out.2.2]
   refine qi0 (a:=6) (p:=7) (b:=8) ?_ ?_ ?_ ?_ (by omega) (hX1.trans' (h2.trans' (h3.trans' h4))) c0 c1 (qj3 ..) <;> rfl
end
section
open Go.Sort
def lbg (g:Int):Lb:=⟨g,[]⟩
def ar (f g t:Int):Ar:=⟨f,lbg g,t⟩
def as4:List Ar:=[ar 0 0 1,ar 1 1 0,ar 1 2 0]
def as5:List Ar:=[ar 0 0 1,ar 0 0 2,ar 1 1 0,ar 2 2 0]
def sy4:Sy:=⟨2,[lbg 0,lbg 1,lbg 2],[⟨0,0,1⟩,⟨1,1,0⟩,⟨1,2,0⟩]⟩
def sy5:Sy:=⟨3,[lbg 0,lbg 1,lbg 2],[⟨0,0,1⟩,⟨0,0,2⟩,⟨1,1,0⟩,⟨2,2,0⟩]⟩
theorem add4:qao as4 [] []=([lbg 0,lbg 1,lbg 2],[⟨0,0,1⟩,⟨1,1,0⟩,⟨1,2,0⟩]):=by rfl
theorem add5:qao as5 [] []=([lbg 0,lbg 1,lbg 2],[⟨0,0,1⟩,⟨0,0,2⟩,⟨1,1,0⟩,⟨2,2,0⟩]):=by rfl
theorem e1:qal sy5 [lbg 0]=[1,2]:=by decide +kernel
theorem e2:qbx sy5 [1,2] [lbg 1]=true:=by decide +kernel
theorem e3:qbx sy5 [1,2] [lbg 1,lbg 2]=false:=by decide +kernel
theorem e4:qe4 sy5 ⟨[lbg 0],[lbg 1]⟩=[1,2]:=by decide +kernel
theorem e5:qe4 sy5 ⟨[lbg 0,lbg 1],[lbg 0]⟩=[1,3]:=by decide +kernel
theorem e6:qf4 sy4 sy5 1=1:=by decide +kernel
theorem e7:(qfy sy4 [⟨[lbg 0],[lbg 1]⟩]).l=[true,true,false]∧(qfy sy4 [⟨[lbg 0],[lbg 1]⟩]).e=[true,false,false]:=by decide +kernel
theorem m1:qbk sy4 (qal sy4 [lbg 0])=some [[lbg 1],[lbg 2]]:=by decide +kernel
theorem m2:qbk sy5 (qal sy5 [lbg 0])=some [[lbg 1,lbg 2]]:=by decide +kernel
instance:DecidableEq Te:=fun a b=>decidable_of_iff (a.tr=b.tr∧a.mu=b.mu) (by constructor;(rintro ⟨h1,h2⟩;cases a;cases b;simp_all);rintro rfl;exact ⟨rfl,rfl⟩)
theorem g1:qb3 sy4 1=some [⟨[],[lbg 0]⟩,⟨[lbg 0],[lbg 1]⟩,⟨[lbg 0],[lbg 2]⟩]:=by decide +kernel
instance:DecidableEq Ed:=fun a b=>decidable_of_iff (a.f=b.f∧a.l=b.l∧a.t=b.t) (by constructor;(rintro ⟨h1,h2,h3⟩;cases a;cases b;simp_all);rintro rfl;exact ⟨rfl,rfl,rfl⟩)
theorem ok4:qag sy4:=by
 refine ⟨by decide,by decide,by decide,by decide,fun j h=>?_,fun j h=>?_⟩
 ·have h3:j<3:=h
  have:j=0∨j=1∨j=2:=by omega
  rcases this with rfl | rfl | rfl
  ·exact ⟨(by decide +kernel:qax (lbg 0)=true),fun h0=>absurd h0 (by decide)⟩
  ·exact ⟨(by decide +kernel:qax (lbg 1)=true),fun _=>(by decide +kernel:qan (lbg 0) (lbg 1)<0)⟩
  ·exact ⟨(by decide +kernel:qax (lbg 2)=true),fun _=>(by decide +kernel:qan (lbg 1) (lbg 2)<0)⟩
 ·have h3:j<3:=h
  have:j=0∨j=1∨j=2:=by omega
  rcases this with rfl | rfl | rfl
  ·exact ⟨(by decide +kernel:qbw sy4 ⟨0,0,1⟩=true),fun h0=>absurd h0 (by decide)⟩
  ·exact ⟨(by decide +kernel:qbw sy4 ⟨1,1,0⟩=true),fun _=>(by decide +kernel:qbd ⟨0,0,1⟩ ⟨1,1,0⟩<0)⟩
  ·exact ⟨(by decide +kernel:qbw sy4 ⟨1,2,0⟩=true),fun _=>(by decide +kernel:qbd ⟨1,1,0⟩ ⟨1,2,0⟩<0)⟩
theorem ok5:qag sy5:=by
 refine ⟨by decide,by decide,by decide,by decide,fun j h=>?_,fun j h=>?_⟩
 ·have h3:j<3:=h
  have:j=0∨j=1∨j=2:=by omega
  rcases this with rfl | rfl | rfl
  ·exact ⟨(by decide +kernel:qax (lbg 0)=true),fun h0=>absurd h0 (by decide)⟩
  ·exact ⟨(by decide +kernel:qax (lbg 1)=true),fun _=>(by decide +kernel:qan (lbg 0) (lbg 1)<0)⟩
  ·exact ⟨(by decide +kernel:qax (lbg 2)=true),fun _=>(by decide +kernel:qan (lbg 1) (lbg 2)<0)⟩
 ·have h3:j<4:=h
  have:j=0∨j=1∨j=2∨j=3:=by omega
  rcases this with rfl | rfl | rfl | rfl
  ·exact ⟨(by decide +kernel:qbw sy5 ⟨0,0,1⟩=true),fun h0=>absurd h0 (by decide)⟩
  ·exact ⟨(by decide +kernel:qbw sy5 ⟨0,0,2⟩=true),fun _=>(by decide +kernel:qbd ⟨0,0,1⟩ ⟨0,0,2⟩<0)⟩
  ·exact ⟨(by decide +kernel:qbw sy5 ⟨1,1,0⟩=true),fun _=>(by decide +kernel:qbd ⟨0,0,2⟩ ⟨1,1,0⟩<0)⟩
  ·exact ⟨(by decide +kernel:qbw sy5 ⟨2,2,0⟩=true),fun _=>(by decide +kernel:qbd ⟨1,1,0⟩ ⟨2,2,0⟩<0)⟩
theorem build4:qdn 2 as4=sy4:=by
 unfold qdn qh4
 rw [add4]
 have h1:qcs [lbg 0,lbg 1,lbg 2]=[lbg 0,lbg 1,lbg 2]:=by decide +kernel
 have h2:qcu qbd (edR [lbg 0,lbg 1,lbg 2] [⟨0,0,1⟩,⟨1,1,0⟩,⟨1,2,0⟩])=sy4.es:=by decide +kernel
 simp only [h1,h2]
 rfl
theorem build5:qdn 3 as5=sy5:=by
 unfold qdn qh4
 rw [add5]
 have h1:qcs [lbg 0,lbg 1,lbg 2]=[lbg 0,lbg 1,lbg 2]:=by decide +kernel
 have h2:qcu qbd (edR [lbg 0,lbg 1,lbg 2] [⟨0,0,1⟩,⟨0,0,2⟩,⟨1,1,0⟩,⟨2,2,0⟩])=sy5.es:=by decide +kernel
 simp only [h1,h2]
 rfl
def t1':Te:=⟨[],[lbg 0]⟩
def t2':Te:=⟨[lbg 0],[lbg 1]⟩
def t3':Te:=⟨[lbg 0],[lbg 2]⟩
theorem v1:qfi sy5 [lbg 0]=[1,2]∧qfr sy5 [lbg 0]=0:=by
 constructor
 ·rw [qfi,if_pos ⟨ok5,by decide +kernel⟩];decide +kernel
 ·rw [qfr,if_pos ok5];decide +kernel
theorem v2:qc9 sy5 [lbg 0] [lbg 1]=true∧qce sy5 [lbg 0] [lbg 1]=0:=by
 constructor
 ·rw [qc9,if_pos ⟨ok5,by decide +kernel⟩];decide +kernel
 ·rw [qce,if_pos ok5];decide +kernel
theorem v3:qc9 sy5 [lbg 0] [lbg 1,lbg 2]=false∧qce sy5 [lbg 0] [lbg 1,lbg 2]=0:=by
 constructor
 ·rw [qc9,if_pos ⟨ok5,by decide +kernel⟩];decide +kernel
 ·rw [qce,if_pos ok5];decide +kernel
theorem v4:qd1 sy4 [lbg 0]=[[lbg 1],[lbg 2]]∧qe1 sy4 [lbg 0]=0:=by
 constructor
 ·rw [qd1,if_pos ⟨ok4,by decide +kernel⟩,m1];rfl
 ·rw [qe1,if_pos ok4,if_pos (by decide +kernel),m1];rfl
theorem v5:qd1 sy5 [lbg 0]=[[lbg 1,lbg 2]]∧qe1 sy5 [lbg 0]=0:=by
 constructor
 ·rw [qd1,if_pos ⟨ok5,by decide +kernel⟩,m2];rfl
 ·rw [qe1,if_pos ok5,if_pos (by decide +kernel),m2];rfl
theorem v6:qbi sy4 1=[t1',t2',t3']∧qee sy4 1=0:=by
 constructor
 ·rw [qbi,if_pos ⟨ok4,by decide,by decide⟩,show (1:Int).toNat=1 from rfl,g1];rfl
 ·rw [qee,if_pos ok4,if_pos (by decide),show (1:Int).toNat=1 from rfl,g1];rfl
theorem v7:qdy sy5 t2'=[1,2]∧qar sy5 [t2']=0:=by
 have h:qar sy5 [t2']=0:=by rw [qar,if_pos ok5];decide +kernel
 exact ⟨by rw [qdy,if_pos h];decide +kernel,h⟩
theorem v8:qdy sy5 ⟨[lbg 0,lbg 1],[lbg 0]⟩=[1,3]∧qar sy5 [⟨[lbg 0,lbg 1],[lbg 0]⟩]=0:=by
 have h:qar sy5 [⟨[lbg 0,lbg 1],[lbg 0]⟩]=0:=by rw [qar,if_pos ok5];decide +kernel
 exact ⟨by rw [qdy,if_pos h];decide +kernel,h⟩
theorem v9:qdo sy4 sy5 1=false∧qcz sy4 sy5 1=0∧qdj sy4 sy5 1=t2':=by
 have h:qcz sy4 sy5 1=0:=by rw [qcz,if_pos ok4,if_pos ok5,if_pos (by decide),show (1:Int).toNat=1 from rfl,g1];rfl
 have hi:qf4 sy4 sy5 1=1:=by decide +kernel
 refine ⟨?_,h,?_⟩
 ·rw [qdo,h,hi];rfl
 ·rw [qdj,if_pos ⟨h,by rw [hi];decide⟩,hi,show (1:Int).toNat=1 from rfl,g1];rfl
theorem v10:qdo sy5 sy4 1=true∧qcz sy5 sy4 1=0:=by
 have hg:qb3 sy5 1≠none:=by decide +kernel
 have h:qcz sy5 sy4 1=0:=by
  rw [qcz,if_pos ok5,if_pos ok4,if_pos (by decide),show (1:Int).toNat=1 from rfl]
  cases h:qb3 sy5 1 with
  | none=>exact absurd h hg
  | some _=>rfl
 have hi:qf4 sy5 sy4 1<0:=by decide +kernel
 exact ⟨by rw [qdo,h,decide_eq_true hi];rfl,h⟩
theorem v11:covR sy4 [t2']=⟨[true,true,false],[true,false,false]⟩∧qar sy4 [t2']=0:=by
 have h:qar sy4 [t2']=0:=by rw [qar,if_pos ok4];decide +kernel
 refine ⟨?_,h⟩
 rw [covR,if_pos h]
 have h1:(qfy sy4 [t2']).l=[true,true,false]:=by decide +kernel
 have h2:(qfy sy4 [t2']).e=[true,false,false]:=by decide +kernel
 cases hc:qfy sy4 [t2'] with
 | mk l e =>
  rw [hc] at h1 h2
  simp only at h1 h2
  rw [h1,h2]
theorem v12:qgq sy4 [t1',t2',t3']=[1,2]∧qar sy4 [t1',t2',t3']=0:=by
 have h:qar sy4 [t1',t2',t3']=0:=by rw [qar,if_pos ok4];decide +kernel
 exact ⟨by rw [qgq,if_pos h];decide +kernel,h⟩
theorem v13:qgq sy4 [t2',⟨[lbg 0,lbg 1],[lbg 0]⟩,⟨[lbg 2],[lbg 0]⟩]=[1]∧qar sy4 [t2',⟨[lbg 0,lbg 1],[lbg 0]⟩,⟨[lbg 2],[lbg 0]⟩]=0:=by
 have h:qar sy4 [t2',⟨[lbg 0,lbg 1],[lbg 0]⟩,⟨[lbg 2],[lbg 0]⟩]=0:=by rw [qar,if_pos ok4];decide +kernel
 exact ⟨by rw [qgq,if_pos h];decide +kernel,h⟩
end
section
open Go.Shelf
theorem qiv {α:Type} {R:Rdr α} {k:Nat} (hR:Good R k) (hk:0<k) {T:Nat->Prop} {W:World} {b:Nat} {e:TypeId} {xs:List α} {cs:List Value} (hF:Flat R k T W xs cs) (hT:∀ q,T q->q<b) (hb:W.heap[b]? = some (.cells cs.toArray e (0,0))) (hn:xs.length<=100000) :
  RSl R k (fun _=>True) W xs [.slice (some ⟨b,0,none⟩) xs.length xs.length]:=by
 have hl:=hF.len
 have h:qab R k e b T W xs (.slice (some ⟨b,0,none⟩) xs.length xs.length) :=
  ⟨cs,⟨hl,.inr ⟨b,xs.length,_,rfl,Nat.le_refl _,hb,Nat.le_refl _,by unfold maxLen;omega,by simpa using hl,by rw [<- hl,List.toList_toArray,List.take_length]⟩⟩,hF.imp fun x _ cs hx=>hR.mono hx fun q _ hq=>⟨hq,fun e=>by
   simp only [Value.ownBlock,Option.some.injEq] at e
   have:=hT q hq
   omega⟩⟩
 exact (RSl.good hR).mono (h.sl hR hk) fun _ _ _=>trivial
theorem rlbg (S:Nat->Prop) (W:World) (g:Int) (hg:I64 g):RLb S W (lbg g) [.int .i64 g,.slice none 0 0]:=⟨hg,_,rfl,none,0,rfl,Nat.le_refl _,by decide,.inl rfl⟩
theorem rar (S:Nat->Prop) (W:World) (f g t:Int) (hf:I64 f) (hg:I64 g) (ht:I64 t):RAr S W (ar f g t) [.int .i64 f,.int .i64 g,.slice none 0 0,.int .i64 t]:=⟨hf,ht,_,rfl,hg,none,0,rfl,Nat.le_refl _,by decide,.inl rfl⟩
theorem qh3 {α:Type} {R:Rdr α} {k:Nat} {S:Nat->Prop} {W:World} {x:α} {cs:List Value} (h:R S W x cs) (hl:cs.length=k):Flat R k S W [x] cs:=Flat.single h hl
theorem qiw {α:Type} {R:Rdr α} {k:Nat} {S:Nat->Prop} {W:World} {x:α} {xs:List α} {c cs:List Value} (h:R S W x c) (hl:c.length=k) (hs:Flat R k S W xs cs):Flat R k S W (x :: xs) (c++cs):=⟨c,cs,rfl,hl,h,hs⟩
def lbCs:List Int->List Value
 | []=>[]
 | g :: gs=>[.int .i64 g,.slice none 0 0]++lbCs gs
theorem qpn (S:Nat->Prop) (W:World):∀ gs:List Int,(∀ g∈gs,I64 g)->Flat RLb 2 S W (gs.map lbg) (lbCs gs)
 | [],_=>rfl
 | g :: gs,h=>qiw (rlbg S W g (h g (by simp))) rfl (qpn S W gs fun x hx=>h x (by simp [hx]))
theorem qdm {W:World} {b:Nat} (gs:List Int) (h:∀ g∈gs,I64 g) (hn:gs.length<=1000) (hb:W.heap[b]? = some (.cells (lbCs gs).toArray 61 (0,0))):qaa (fun _=>True) W (gs.map lbg) [.slice (some ⟨b,0,none⟩) gs.length gs.length]:=by
 have:=qiv RLb.good (by decide) (qpn (fun _=>False) W gs h) (fun _ h=>h.elim) hb (by simpa using (by omega:gs.length<=100000))
 simpa using this
def inCs (xs:List Int):List Value:=xs.map (Value.int .i64)
theorem qjs {W:World} {b:Nat} (xs:List Int) (h:∀ g∈xs,I64 g) (hn:xs.length<=1000) (hb:W.heap[b]? = some (.cells (inCs xs).toArray 3 (0,0))):RSl qac 1 (fun _=>True) W xs [.slice (some ⟨b,0,none⟩) xs.length xs.length] :=
 qiv qac.good (by decide) (Flat.of_ints (S:=fun _=>False) h) (fun _ h=>h.elim) hb (by omega)
def boCs (xs:List Bool):List Value:=xs.map Value.bool
theorem qp0 {W:World} {b:Nat} (xs:List Bool) (hn:xs.length<=1000) (hb:W.heap[b]? = some (.cells (boCs xs).toArray 4 (0,0))):RSl qae 1 (fun _=>True) W xs [.slice (some ⟨b,0,none⟩) xs.length xs.length] :=
 qiv qae.good (by decide) (qof (fun _=>False) W xs) (fun _ h=>h.elim) hb (by omega)
theorem ints_of {W:World} {base:Nat} {T:Nat->Prop} {xs:List Int} {v:Value} (h:qab qac 1 3 base T W xs v):RSl qac 1 (fun _=>True) W xs [v]:=(RSl.good qac.good).mono (h.sl qac.good (by decide)) fun _ _ _=>trivial
theorem qby (W:World) (o:Obj):(W.alloc o).heap[W.heap.size]? = some o:=World.alloc_heap_new W o
structure SanI (b1 b2 b3 b4 b5:Nat) (v4 u4 v5 u5 v6:Value) (W:World):Prop where
 x1:qaf W b1 61 [.int .i64 0,.slice none 0 0]
 x2:qaf W b2 61 [.int .i64 1,.slice none 0 0]
 x3:qaf W b3 61 [.int .i64 2,.slice none 0 0]
 x4:qaf W b4 25 [.int .i64 2,v4,u4]
 x5:qaf W b5 25 [.int .i64 3,v5,u5]
 s4:RSy (fun _=>True) W sy4 [.int .i64 2,v4,u4]
 s5:RSy (fun _=>True) W sy5 [.int .i64 3,v5,u5]
 l6:qaa (fun _=>True) W [lbg 0] [v6]
theorem SanI.ext {b1 b2 b3 b4 b5:Nat} {v4 u4 v5 u5 v6:Value} {W W':World} (h:SanI b1 b2 b3 b4 b5 v4 u4 v5 u5 v6 W) (he:Ext W W'):SanI b1 b2 b3 b4 b5 v4 u4 v5 u5 v6 W' :=
 ⟨h.x1.ext he,h.x2.ext he,h.x3.ext he,h.x4.ext he,h.x5.ext he,RSy.good.bel h.s4 he,RSy.good.bel h.s5 he,qaa.good.bel h.l6 he⟩
theorem qqg {l:List Ed} (h:(List.range (l.length-1)).all (fun k=>decide (l[k+1]? ≠ l[k]?))=true):qg3 l:=fun k hk e=>by
 have:=List.all_eq_true.1 h k (List.mem_range.2 (by omega))
 rw [List.getElem?_eq_getElem hk,List.getElem?_eq_getElem (by omega),e] at this
 simp at this
theorem nd4:qg3 (qcu qbd (edR (qao as4 [] []).1 (qao as4 [] []).2)):=qqg (by decide +kernel)
theorem nd5:qg3 (qcu qbd (edR (qao as5 [] []).1 (qao as5 [] []).2)):=qqg (by decide +kernel)
theorem built4 (S:Nat->Prop) (v:Value) (w:World) (hx:RSl RAr 4 S w as4 [v]):Calls Tryz.prog 74 #[.int .i64 2,v] w (qm1 sy4 w):=by
 have h:=built_c S 2 (by decide) as4 v w hx (by decide +kernel) (by decide +kernel) (by decide) (by rw [add4];decide) nd4
 rwa [build4] at h
theorem built5 (S:Nat->Prop) (v:Value) (w:World) (hx:RSl RAr 4 S w as5 [v]):Calls Tryz.prog 74 #[.int .i64 3,v] w (qm1 sy5 w):=by
 have h:=built_c S 3 (by decide) as5 v w hx (by decide +kernel) (by decide +kernel) (by decide) (by rw [add5];decide) nd5
 rwa [build5] at h
theorem alloc3 (w:World) (a b c:Obj):∃ W0,((w.alloc a).alloc b).alloc c=W0∧W0.heap[w.heap.size]? = some a∧W0.heap[w.heap.size+1]? = some b∧W0.heap[w.heap.size+1+1]? = some c∧Ext w W0∧W0.heap.size=w.heap.size+3:=by
 refine ⟨_,rfl,?_,qgx ..,qgo ..,(((Ext.refl w).alloc a).alloc b).alloc c,by simp⟩
 rw [Below.heap_alloc _ _ _ (by simp;omega),Below.heap_alloc _ _ _ (by simp)]
 exact World.alloc_heap_new _ _
def arCs:List Ar->List Value
 | []=>[]
 | a :: rs=>[.int .i64 a.f,.int .i64 a.l.g,.slice none 0 0,.int .i64 a.t]++arCs rs
theorem qm2 (S:Nat->Prop) (W:World):∀ l:List (Int×Int×Int),(∀ g∈l,I64 g.1∧I64 g.2.1∧I64 g.2.2)->Flat RAr 4 S W (l.map fun g=>ar g.1 g.2.1 g.2.2) (arCs (l.map fun g=>ar g.1 g.2.1 g.2.2))
 | [],_=>rfl
 | g :: gs,h=>qiw (rar S W g.1 g.2.1 g.2.2 (h g (by simp)).1 (h g (by simp)).2.1 (h g (by simp)).2.2) rfl (qm2 S W gs fun x hx=>h x (by simp [hx]))
theorem lit4 {W:World} {b:Nat} (hb:W.heap[b]? = some (.cells (arCs as4).toArray 106 (0,0))):RSl RAr 4 (fun _=>True) W as4 [.slice (some ⟨b,0,none⟩) 3 3] :=
 qiv RAr.good (by decide) (qm2 (fun _=>False) W [(0,0,1),(1,1,0),(1,2,0)] (by decide)) (fun _ h=>h.elim) hb (by decide)
theorem lit5 {W:World} {b:Nat} (hb:W.heap[b]? = some (.cells (arCs as5).toArray 106 (0,0))):RSl RAr 4 (fun _=>True) W as5 [.slice (some ⟨b,0,none⟩) 4 4] :=
 qiv RAr.good (by decide) (qm2 (fun _=>False) W [(0,0,1),(0,0,2),(1,1,0),(2,2,0)] (by decide)) (fun _ h=>h.elim) hb (by decide)
theorem qii {α:Type} {R:Rdr α} {k:Nat} (hR:Good R k) (hk:0<k) {W:World} {e:TypeId} {xs:List α} {cs:List Value} (hF:Flat R k (fun _=>True) W xs cs) (hn:xs.length<=100000) :
  RSl R k (fun _=>True) (W.alloc (.cells cs.toArray e)) xs [.slice (some ⟨W.heap.size,0,none⟩) xs.length xs.length] :=
 qiv hR hk (T:=fun q=>q<W.heap.size) (hF.imp fun x _ cs hx=>hR.bel (hR.mono hx fun b hb _=>hb) ((Ext.refl W).alloc _)) (fun _ h=>h) (qby W _) hn
theorem sm4:qer sy4:=by unfold qer;decide
theorem sm5:qer sy5:=by unfold qer;decide
end
section
open Go.Shelf
theorem qe0 {P:Program} {o:Oper} {ev:Operand->Value} {w w':World} {R:Value->World->Prop} {v:Value} (h:(execOp ev o).run P w = .ok (.value v) w') (hR:R v w'):vwp P o ev w R:=by unfold vwp;rw [h];exact hR
theorem qs3 {P:Program} {o:Oper} {ev:Operand->Value} {w:World} {R:Value->World->Prop} {f:Nat} {args:Array Value} (h:(execOp ev o).run P w = .ok (.enter f args) w) (hc:Calls P f args w fun e w''=>∃ v,e = .returned v∧R v w''):vwp P o ev w R:=by unfold vwp;rw [h];exact hc
def fV (x:Value):Value->World->Prop:=fun v _=>v=x
def qct (l:List Lb):Value->World->Prop:=fun v W=>qaa (fun _=>True) W l [v]
def fTe (t:Te):Value->World->Prop:=fun v W=>∃ x y,v = .agg #[x,y]∧RTe (fun _=>True) W t [x,y]
def fTes (ts:List Te):Value->World->Prop:=fun v W=>RSl RTe 2 (fun _=>True) W ts [v]
def Mv (f:Value->World->Prop):Prop:=∀ v A B,f v A->Ext A B->f v B
theorem mvV (x:Value):Mv (fV x):=fun _ _ _ h _=>h
theorem qhz (l:List Lb):Mv (qct l):=fun _ _ _ h he=>qaa.good.bel h he
theorem mvTe (t:Te):Mv (fTe t):=fun _ _ _ ⟨x,y,h,hr⟩ he=>⟨x,y,h,RTe.good.bel hr he⟩
theorem qh6 (ts:List Te):Mv (fTes ts):=fun _ _ _ h he=>(RSl.good RTe.good).bel h he
def qfp (xs:List Int):Value->World->Prop:=fun v W=>RSl qac 1 (fun _=>True) W xs [v]
def qf3 (xs:List Bool):Value->World->Prop:=fun v W=>RSl qae 1 (fun _=>True) W xs [v]
def qd9 (xs:List Int):Value->World->Prop:=fun v W=>∃ u,v = .tuple #[u,.int .i64 0]∧qfp xs u W
def qhc (xs ys:List Bool):Value->World->Prop:=fun v W=>∃ u t,v = .tuple #[u,t,.int .i64 0]∧qf3 xs u W∧qf3 ys t W
theorem qhp (xs:List Int):Mv (qfp xs):=fun _ _ _ h he=>(RSl.good qac.good).bel h he
theorem qgs (xs:List Bool):Mv (qf3 xs):=fun _ _ _ h he=>(RSl.good qae.good).bel h he
theorem qiz (xs:List Int):Mv (qd9 xs):=fun _ _ _ ⟨u,h,hr⟩ he=>⟨u,h,qhp xs _ _ _ hr he⟩
theorem qia (xs ys:List Bool):Mv (qhc xs ys):=fun _ _ _ ⟨u,t,h,hr,hs⟩ he=>⟨u,t,h,qgs xs _ _ _ hr he,qgs ys _ _ _ hs he⟩
theorem mv_nil:∀ f∈([]:List (Value->World->Prop)),Mv f:=by simp
theorem qik {f:Value->World->Prop} {l:List (Value->World->Prop)} (h:Mv f) (hs:∀ f∈l,Mv f):∀ g∈f :: l,Mv g:=fun g hg=>(List.mem_cons.1 hg).elim (fun e=>e ▸ h) (hs g)
section
variable {o:Oper} {ev:Operand->Value} {w:World} {R:Value->World->Prop} {x y z:Operand}
theorem qc1 (ho:o.op = .move x) {v:Value} (hx:ev x=v) (hR:R v w):vwp Tryz.prog o ev w R:=by
 refine qe0 (v:=v) (w':=w) ?_ hR
 simp [execOp,ho,hx,go_sem]
theorem qgh (ho:o.op = .assign x) {v:Value} (hx:ev x=v) (hR:R v w):vwp Tryz.prog o ev w R:=by
 refine qe0 (v:=v) (w':=w) ?_ hR
 simp [execOp,ho,hx,go_sem]
theorem vNeq (ho:o.op = .binOp .neq 31 x y 31) {a b:Int} (hx:ev x = .int .i64 a) (hy:ev y = .int .i64 b) (hR:R (.bool (decide (a≠b))) w):vwp Tryz.prog o ev w R:=by
 refine qe0 (v:=.bool (decide (a≠b))) (w':=w) ?_ hR
 have u:=Tryz.underlying31
 simp [execOp,ho,hx,hy,go_sem]
 by_cases h:a=b <;> simp [h]
theorem vNot (ho:o.op = .unOp .not 4 x) {b:Bool} (hx:ev x = .bool b) (hR:R (.bool (!b)) w):vwp Tryz.prog o ev w R:=by
 refine qe0 (v:=.bool (!b)) (w':=w) ?_ hR
 simp [execOp,ho,hx,go_sem]
theorem vPick (ho:o.op = .pick x y z) {b:Bool} {v u:Value} (hx:ev x = .bool b) (hy:ev y=v) (hz:ev z=u) (hR:R (if b then v else u) w):vwp Tryz.prog o ev w R:=by
 refine qe0 (v:=if b then v else u) (w':=w) ?_ hR
 cases b <;> simp [execOp,ho,hx,hy,hz,go_sem]
theorem qgi {k:Nat} (ho:o.op = .extract x k) {vs:Array Value} {v:Value} (hx:ev x = .tuple vs) (hv:vs[k]? = some v) (hR:R v w):vwp Tryz.prog o ev w R:=by
 refine qe0 (v:=v) (w':=w) ?_ hR
 simp [execOp,ho,hx,go_sem,hv]
theorem qel (ho:o.op = .load 61 x) {b:Nat} {v u:Value} (hx:ev x = .pointer (some ⟨b,0,none⟩)) (h0:w.cell? ⟨b,0,none⟩=some v) (h1:w.cell? ⟨b,1,none⟩=some u) (hR:R (.agg #[v,u]) w):vwp Tryz.prog o ev w R:=by
 refine qe0 (v:=.agg #[v,u]) (w':=w) ?_ hR
 simp [execOp,ho,hx,go_sem,h0,h1]
theorem vLoad40 (ho:o.op = .load 40 x) {b:Nat} {v u:Value} (hx:ev x = .pointer (some ⟨b,0,none⟩)) (h0:w.cell? ⟨b,0,none⟩=some v) (h1:w.cell? ⟨b,1,none⟩=some u) (hR:R (.agg #[v,u]) w):vwp Tryz.prog o ev w R:=by
 refine qe0 (v:=.agg #[v,u]) (w':=w) ?_ hR
 simp [execOp,ho,hx,go_sem,h0,h1]
theorem qlv (ho:o.op = .load 25 x) {b:Nat} {v u t:Value} (hx:ev x = .pointer (some ⟨b,0,none⟩)) (h0:w.cell? ⟨b,0,none⟩=some v) (h1:w.cell? ⟨b,1,none⟩=some u) (h2:w.cell? ⟨b,2,none⟩=some t) (hR:R (.agg #[v,u,t]) w):vwp Tryz.prog o ev w R:=by
 refine qe0 (v:=.agg #[v,u,t]) (w':=w) ?_ hR
 simp [execOp,ho,hx,go_sem,h0,h1,h2]
theorem qfq (ho:o.op = .buildSlice 22 1 #[(0,x)]) {v u:Value} (hx:ev x = .agg #[v,u]) (hR:R (.slice (some ⟨w.heap.size,0,none⟩) 1 1) (w.alloc (.cells #[v,u] 61))):vwp Tryz.prog o ev w R:=by
 refine qe0 ?_ hR
 simp [execOp,ho,hx,go_sem]
theorem vLit2 (ho:o.op = .buildSlice 22 2 #[(0,x),(1,y)]) {v u v' u':Value} (hx:ev x = .agg #[v,u]) (hy:ev y = .agg #[v',u']) (hR:R (.slice (some ⟨w.heap.size,0,none⟩) 2 2) (w.alloc (.cells #[v,u,v',u'] 61))):vwp Tryz.prog o ev w R:=by
 refine qe0 ?_ hR
 simp [execOp,ho,hx,hy,go_sem]
theorem vTes1 (ho:o.op = .buildSlice 34 1 #[(0,x)]) {v u:Value} (hx:ev x = .agg #[v,u]) (hR:R (.slice (some ⟨w.heap.size,0,none⟩) 1 1) (w.alloc (.cells #[v,u] 40))):vwp Tryz.prog o ev w R:=by
 refine qe0 ?_ hR
 simp [execOp,ho,hx,go_sem]
theorem vTes3 (ho:o.op = .buildSlice 34 3 #[(0,x),(1,y),(2,z)]) {v u v' u' v2 u2:Value} (hx:ev x = .agg #[v,u]) (hy:ev y = .agg #[v',u']) (hz:ev z = .agg #[v2,u2]) (hR:R (.slice (some ⟨w.heap.size,0,none⟩) 3 3) (w.alloc (.cells #[v,u,v',u',v2,u2] 40))):vwp Tryz.prog o ev w R:=by
 refine qe0 ?_ hR
 simp [execOp,ho,hx,hy,hz,go_sem]
theorem qeb {f:Nat} {ts:Array TypeId} (ho:o.op = .call { callee:=.value (.func f),args:=#[x,y],argTypes:=ts }) (he:∀ args w,(callFunc f args).run Tryz.prog w = .ok (.enter f args) w) {v u:Value} (hx:ev x=v) (hy:ev y=u) (hev:ev (.func f) = .func (.func f) #[] #[])
  (hc:Calls Tryz.prog f #[v,u] w fun e w''=>∃ v,e = .returned v∧R v w''):vwp Tryz.prog o ev w R:=by
 refine qs3 (f:=f) (args:=#[v,u]) ?_ hc
 simp [execOp,ho,hx,hy,hev,go_sem,he,resolve,invoke]
theorem vCall3 {f:Nat} {ts:Array TypeId} (ho:o.op = .call { callee:=.value (.func f),args:=#[x,y,z],argTypes:=ts }) (he:∀ args w,(callFunc f args).run Tryz.prog w = .ok (.enter f args) w) {v u t:Value} (hx:ev x=v) (hy:ev y=u) (hz:ev z=t) (hev:ev (.func f) = .func (.func f) #[] #[])
  (hc:Calls Tryz.prog f #[v,u,t] w fun e w''=>∃ v,e = .returned v∧R v w''):vwp Tryz.prog o ev w R:=by
 refine qs3 (f:=f) (args:=#[v,u,t]) ?_ hc
 simp [execOp,ho,hx,hy,hz,hev,go_sem,he,resolve,invoke]
end
theorem eg76:∀ args w,(callFunc 76 args).run Tryz.prog w = .ok (.enter 76 args) w:=enters_of Tryz.func76 (by kernel_rfl) rfl
theorem eg23:∀ args w,(callFunc 23 args).run Tryz.prog w = .ok (.enter 23 args) w:=enters_of Tryz.func23 (by kernel_rfl) rfl
theorem eg31:∀ args w,(callFunc 31 args).run Tryz.prog w = .ok (.enter 31 args) w:=enters_of Tryz.func31 (by kernel_rfl) rfl
theorem eg48:∀ args w,(callFunc 48 args).run Tryz.prog w = .ok (.enter 48 args) w:=enters_of Tryz.func48 (by kernel_rfl) rfl
theorem eg53:∀ args w,(callFunc 53 args).run Tryz.prog w = .ok (.enter 53 args) w:=enters_of Tryz.func53 (by kernel_rfl) rfl
theorem qf7 {w:World} {tr mu:List Lb} {x y:Value} (hx:qct tr x w) (hy:qct mu y w):Calls Tryz.prog 76 #[x,y] w fun e w'=>∃ v,e = .returned v∧Ext w w'∧fTe ⟨tr,mu⟩ v w':=by
 obtain ⟨A,c,rfl,_,_⟩:=RSl.val hx
 obtain ⟨B,d,rfl,_,_⟩:=RSl.val hy
 exact (test_c _ _ A B _ _ c d rfl rfl w).mono fun e w' h=>⟨_,h.1,h.2,_,_,rfl,_,_,rfl,qaa.good.bel hx h.2,qaa.good.bel hy h.2⟩
theorem nil_lbs (W:World):qct [] (.slice none 0 0) W:=⟨none,0,rfl,Nat.le_refl _,by decide,.inl rfl⟩
theorem tes3 {W:World} {a b c:Value} {s t u:Te} (ha:fTe s a W) (hb:fTe t b W) (hc:fTe u c W):∃ x1 y1 x2 y2 x3 y3,a = .agg #[x1,y1]∧b = .agg #[x2,y2]∧c = .agg #[x3,y3]∧fTes [s,t,u] (.slice (some ⟨W.heap.size,0,none⟩) 3 3) (W.alloc (.cells #[x1,y1,x2,y2,x3,y3] 40)):=by
 obtain ⟨x1,y1,e1,r1⟩:=ha
 obtain ⟨x2,y2,e2,r2⟩:=hb
 obtain ⟨x3,y3,e3,r3⟩:=hc
 exact ⟨x1,y1,x2,y2,x3,y3,e1,e2,e3,qii RTe.good (by decide) (qiw r1 rfl (qiw r2 rfl (qh3 r3 rfl))) (by simp)⟩
theorem leq3:leq qiy [t1',t2',t3'] [t1',t2',t3']=true:=by decide +kernel
theorem qpo {r:List Int} {w w':World} {e:Ending} (h:qm7 r 0 w e w'):∃ v,e = .returned v∧Ext w w'∧qd9 r v w':=by
 obtain ⟨A,c,rfl,h1,h2⟩:=h
 exact ⟨_,rfl,h2,_,rfl,ints_of h1⟩
theorem qpl {W:World} {base:Nat} {xs:List Bool} {v:Value} (h:RBs base W xs v):qf3 xs v W:=(RSl.good qae.good).mono (h.sl qae.good (by decide)) fun _ _ _=>trivial
theorem cv_post {c:Cv} {w w':World} {e:Ending} (h:CvPost c 0 w e w'):∃ v,e = .returned v∧Ext w w'∧qhc c.l c.e v w':=by
 obtain ⟨v1,v2,rfl,h1,h2,h3⟩:=h
 exact ⟨_,rfl,h3,_,_,rfl,qpl h1,qpl h2⟩
theorem qqx (t:Te) (r:List Int) (hr:qdy sy5 t=r∧qar sy5 [t]=0) {W:World} {x y v u:Value} (ht:RTe (fun _=>True) W t [x,y]) (hs:RSy (fun _=>True) W sy5 [.int .i64 3,v,u]) :
  Calls Tryz.prog 31 #[.agg #[x,y],.agg #[.int .i64 3,v,u]] W fun e w'=>∃ v,e = .returned v∧Ext W w'∧qd9 r v w':=by
 have h:=qtp (fun _=>True) sy5 _ _ t W hs ht
 rw [hr.1,hr.2] at h
 exact h.mono fun e w' h=>qpo h
theorem qsn (ts:List Te) (r:List Int) (hr:qgq sy4 ts=r∧qar sy4 ts=0) {W:World} {x v u:Value} (ht:fTes ts x W) (hs:RSy (fun _=>True) W sy4 [.int .i64 2,v,u]) :
  Calls Tryz.prog 53 #[.agg #[.int .i64 2,v,u],x] W fun e w'=>∃ v,e = .returned v∧Ext W w'∧qd9 r v w':=by
 have h:=Choose_c (fun _=>True) sy4 _ ts x W hs ht
 rw [hr.1,hr.2] at h
 exact h.mono fun e w' h=>qpo h
theorem cov_call {W:World} {x v u:Value} (ht:fTes [t2'] x W) (hs:RSy (fun _=>True) W sy4 [.int .i64 2,v,u]) :
  Calls Tryz.prog 48 #[.agg #[.int .i64 2,v,u],x] W fun e w'=>∃ v,e = .returned v∧Ext W w'∧qhc [true,true,false] [true,false,false] v w':=by
 have h:=Covers_c (fun _=>True) sy4 _ [t2'] x W hs ht
 rw [v11.1,v11.2] at h
 exact h.mono fun e w' h=>cv_post h
theorem tes1 {W:World} {a:Value} {s:Te} (ha:fTe s a W):∃ x1 y1,a = .agg #[x1,y1]∧fTes [s] (.slice (some ⟨W.heap.size,0,none⟩) 1 1) (W.alloc (.cells #[x1,y1] 40)):=by
 obtain ⟨x1,y1,e1,r1⟩:=ha
 exact ⟨x1,y1,e1,qii RTe.good (by decide) (qh3 r1 rfl) (by simp)⟩
end
end Go.Proofs.YtegenalcheooeaaGreat
