/- Of the proof of a law of the suites: Conforms. -/
import Derived.Test.YtegenalcheooeaaGreatB18
import Derived.Test.YtegenalcheooeaaGreatB23
set_option linter.unusedSectionVars false
set_option linter.unusedSimpArgs false
set_option linter.unusedVariables false
namespace Go.Proofs.YtegenalcheooeaaGreat
open Go.RowKit
attribute [local go_sem] cell?_exto
section
open Go.Shelf
theorem qpn (P:Te→Prop) (s:Sy):∀ (ps:List Pl) (out r:List Te),(∀ t∈out,P t)→out.length≤4000→(∀ p∈ps,∀ ms,qbg s p.st=some ms→∀ m∈ms,P ⟨p.tr,m⟩)→qbe s ps out=some r→(∀ t∈r,P t)∧r.length≤4000
 | [],out,r,h,hl,_,e=>by rw [qbe] at e;injection e with e;rw [← e];exact ⟨h,hl⟩
 | p :: ps,out,r,h,hl,hp,e=>by
  rw [qbe] at e
  split at e
  ·cases e
  ·rename_i ms hms
   split at e
   ·cases e
   ·rename_i hlen
    refine qpn P s ps _ r (fun t ht=>?_) (by omega) (fun q hq=>hp q (List.mem_cons_of_mem _ hq)) e
    rcases List.mem_append.1 ht with ht | ht
    ·exact h t ht
    ·obtain ⟨m,hm,rfl⟩:=List.mem_map.1 ht
     exact hp p (List.mem_cons_self ..) ms hms m hm
theorem qug (s:Sy) (d:Nat):(∀ t∈qa2 (qbm s d),t.tr.length≤d∧t.mu.length≤64∧(∀ x∈t.tr,x∈s.ls)∧(∀ x∈t.mu,x∈s.ls))∧(qa2 (qbm s d)).length≤4000:=by
 cases h:qbm s d with
 | none=>simp [qa2]
 | some r =>
  have hpl:=qq3 s d
  unfold qbm at h
  split at h
  ·cases h
  ·rename_i pls hpls
   rw [hpls] at hpl
   exact qpn (fun t=>t.tr.length≤d∧t.mu.length≤64∧(∀ x∈t.tr,x∈s.ls)∧(∀ x∈t.mu,x∈s.ls)) s pls [] r (by simp) (by simp) (fun p hp ms hms m hm=>by
    have h1:=qkp s p.st
    have h2:=qnw s p.st
    rw [hms] at h1 h2
    have h3:=hpl.1 p hp
    exact ⟨h3.1,h1.2 m hm,h3.2.1,h2 m hm⟩) h
theorem RSl.avoid {α:Type} {R:Rdr α} {k:Nat} {S:Nat→Prop} {w:World} {g:Nat} (hg:∀ off n,w.cell? ⟨g,off,none⟩≠some (.int .i64 n)) {xs:List α} {v:Value} (h:RSl R k S w xs [v])
  (hR:∀ x∈xs,∀ cs,R S w x cs→R (fun b=>S b∧b≠g) w x cs∧∃ n,cs[0]? = some (.int .i64 n)):RSl R k (fun b=>S b∧b≠g) w xs [v]:=by
 obtain ⟨A,c,hv,h1,h0,h2⟩:=h
 refine ⟨A,c,hv,h1,h0,?_⟩
 rcases xs with _ | ⟨x,xs⟩
 ·exact .inl rfl
 right
 rcases h2 with h2 | ⟨b,off,e,hb,hs,hr⟩
 ·cases h2
 have hne:b≠g:=by
  rintro rfl
  obtain ⟨⟨cs,h3,h4,h5⟩,_⟩:=hr
  obtain ⟨_,n,hn⟩:=hR x (List.mem_cons_self ..) cs h4
  exact hg _ n (h5 0 _ hn)
 exact ⟨b,off,e,hb,⟨hs,hne⟩,hr.imp (fun y hy cs hc=>(hR y hy cs hc).1) rfl⟩
theorem RTm.avoid {w:World} {g:Nat} (hg:∀ off n,w.cell? ⟨g,off,none⟩≠some (.int .i64 n)):∀ (t:Tm),∀ {S:Nat→Prop} {cs},RTm S w t cs→RTm (fun b=>S b∧b≠g) w t cs:=by
 refine Tm.ind fun t ih S cs h=>?_
 obtain ⟨h1,h2,v,rfl,hv⟩:=(qay ..).1 h
 exact (qay ..).2 ⟨h1,h2,v,rfl,hv.avoid hg fun x hx cs hc=>⟨ih x hx hc,by obtain ⟨_,_,u,rfl,_⟩:=(qay ..).1 hc;exact ⟨_,rfl⟩⟩⟩
theorem qaa.avoid {S:Nat→Prop} {w:World} {g:Nat} (hg:∀ off n,w.cell? ⟨g,off,none⟩≠some (.int .i64 n)) {xs:List Lb} {v:Value} (h:qaa S w xs [v]):qaa (fun b=>S b∧b≠g) w xs [v] :=
 RSl.avoid hg h fun x _ cs hc=>by
  obtain ⟨h1,u,rfl,hu⟩:=hc
  exact ⟨⟨h1,u,rfl,hu.avoid hg fun y _ cs hc=>⟨RTm.avoid hg y hc,by obtain ⟨_,_,u,rfl,_⟩:=(qay ..).1 hc;exact ⟨_,rfl⟩⟩⟩,_,rfl⟩
theorem qhz (S:Nat→Prop) (w:World):RTe S w ⟨[],[]⟩ [.slice none 0 0,.slice none 0 0]:=⟨_,_,rfl,⟨none,0,rfl,Nat.le_refl _,by decide,.inl rfl⟩,⟨none,0,rfl,Nat.le_refl _,by decide,.inl rfl⟩⟩
theorem qvk {fn:Func} {a p b:Tmp} (h:fn.results = #[.tmp a,.cell p 40,.tmp b]) (tmps:Array Value) (w:World) (g:Nat) (v u:Value) (hp:tmps.getD p undef = .pointer (some ⟨g,0,none⟩)) (h0:w.cell? ⟨g,0,none⟩=some v) (h1:w.cell? ⟨g,1,none⟩=some u) :
  (results fn tmps).run Tryz.prog w = .ok (.tuple #[tmps.getD a undef,.agg #[v,u],tmps.getD b undef]) w:=by
 have hp':tmps[p]?.getD undef = .pointer (some ⟨g,0,none⟩):=by simpa using hp
 simp [results,h,hp',asAddr,go_sem,h0,h1]
theorem two_set (w:World) (g:Nat) (v u a b:Value) (h0:w.cell? ⟨g,0,none⟩=some a) (h1:w.cell? ⟨g,1,none⟩=some b) :
  ((w.setCell ⟨g,0,none⟩ v).setCell ⟨g,1,none⟩ u).cell? ⟨g,0,none⟩=some v∧((w.setCell ⟨g,0,none⟩ v).setCell ⟨g,1,none⟩ u).cell? ⟨g,1,none⟩=some u:=by
 constructor <;> go_simp
open Classical in
noncomputable def qda (s k:Sy) (d:Int):Int:=if qai s then (if qai k then (if 0≤d∧d≤8 then qes (qbm s d.toNat) else 1) else 8) else 8
def qgv (s k:Sy) (d:Int):Int:=qbs (qcq k) (qa2 (qbm s d.toNat))
noncomputable def qdq (s k:Sy) (d:Int):Bool:=decide (qda s k d=0) && decide (qgv s k d<0)
noncomputable def qdl (s k:Sy) (d:Int):Te:=if qda s k d=0∧0≤qgv s k d then (qa2 (qbm s d.toNat)).getD (qgv s k d).toNat ⟨[],[]⟩ else ⟨[],[]⟩
def qsh (b:Bool) (t:Te) (err:Int) (w:World) (e:Ending) (w':World):Prop:=∃ v u,e = .returned (.tuple #[.bool b,.agg #[v,u],.int .i64 err])∧RTe (fun _=>True) w' t [v,u]∧Ext w w'
theorem qha {fn:Func} {a p b:Tmp} {tmps:Array Value} {w W:World} {g:Nat} {v u x y:Value} {bb:Bool} {t:Te} {err:Int} (h:fn.results = #[.tmp a,.cell p 40,.tmp b]) (hp:tmps.getD p undef = .pointer (some ⟨g,0,none⟩))
  (ha:tmps.getD a undef = .bool bb) (hb:tmps.getD b undef = .int .i64 err) (hg:w.heap.size≤g) (hW:Ext w W) (h0:W.cell? ⟨g,0,none⟩=some x) (h1:W.cell? ⟨g,1,none⟩=some y) (ht:RTe (fun b=>b≠g) W t [v,u]) :
  bodyPost Tryz.prog fn (qsh bb t err w) .ret { tmps:=tmps,defers:=[] } ((W.setCell ⟨g,0,none⟩ v).setCell ⟨g,1,none⟩ u):=by
 have h2:=two_set W g v u x y h0 h1
 refine bodyPost_ret (qvk h tmps _ g v u hp h2.1 h2.2) rfl ⟨v,u,by rw [ha,hb],?_,(hW.set hg _).set hg _⟩
 refine RTe.good.mono (RTe.good.move ht ?_) fun _ _ _=>trivial
 have hb:Bt (fun q=>q=g) W ((W.setCell ⟨g,0,none⟩ v).setCell ⟨g,1,none⟩ u):=Bt.set (Z:=fun q=>q=g) (p:=⟨g,1,none⟩) (Bt.set (Z:=fun q=>q=g) (p:=⟨g,0,none⟩) (Bt.refl _ _) (.inr rfl) v) (.inr rfl) u
 exact hb.kp fun k _ h=>h
set_option maxHeartbeats 1000000 in
set_option maxRecDepth 100000 in
theorem qo5 (S:Nat→Prop) (s k:Sy) (hsm:qf0 s) (cs ck:List Value) (d:Int) (w:World) (hx:RSy S w s cs) (hy:RSy S w k ck) :
  Calls Tryz.prog 29 #[.agg cs.toArray,.agg ck.toArray,.int .i64 d] w (qsh (qdq s k d) (qdl s k d) (qda s k d) w):=by
 obtain ⟨_,vl,ve,rfl,hvl,hve⟩:=id hx
 obtain ⟨Al,cl,rfl,_,_⟩:=hvl.val
 obtain ⟨Ae,ce,rfl,_,_⟩:=hve.val
 obtain ⟨_,vl2,ve2,rfl,hvl2,hve2⟩:=id hy
 obtain ⟨Al2,cl2,rfl,_,_⟩:=hvl2.val
 obtain ⟨Ae2,ce2,rfl,_,_⟩:=hve2.val
 have HX:=Hd hx
 have HY:=Hd hy
 clear hx hvl hve hy hvl2 hve2
 by_cases hok:qai s
 case neg =>
  have hcon:=fun W (hW:Ext w W)=>qht _ s _ W (RSy.good.bel HX.out hW) hok
  have hE:qda s k d=8:=if_neg hok
  have HV:=Hd (And.intro hE (And.intro (show qdq s k d=false from by rw [qdq,hE];rfl) (show qdl s k d=⟨[],[]⟩ from by rw [qdl,if_neg];rw [hE];simp)))
  clear hE
  go_enter Tryz.func29,Tryz.ntmps29
  go_wp2_with fail
  refine (hcon _ bel).mono ?_
  rintro e w1 ⟨rfl,h1⟩
  have c0:w1.cell? ⟨w.heap.size+1+1,0,none⟩=some (.slice none 0 0):=Ext.keep h1 (by go_simp)
  have c1:w1.cell? ⟨w.heap.size+1+1,1,none⟩=some (.slice none 0 0):=Ext.keep h1 (by go_simp)
  have f0:w1.frozen? ⟨w.heap.size+1+1,0,none⟩=false:=qa4 h1 (by simp) (by go_simp)
  have f1:w1.frozen? ⟨w.heap.size+1+1,1,none⟩=false:=qa4 h1 (by simp) (by go_simp)
  have hX1:Ext w w1:=bel
  go_wp2_with fail
  rw [HV.out.1,HV.out.2.1,HV.out.2.2]
  refine qha (a:=6) (p:=7) (b:=8) ?_ ?_ ?_ ?_ (by omega) hX1 c0 c1 (qhz ..) <;> rfl
 have hcon:=fun W (hW:Ext w W)=>qhu S s _ W (RSy.good.bel HX.out hW) hok
 by_cases hok2:qai k
 case neg =>
  have hcon2:=fun W (hW:Ext w W)=>qht S k _ W (RSy.good.bel HY.out hW) hok2
  have hE:qda s k d=8:=by rw [qda,if_pos hok,if_neg hok2]
  have HV:=Hd (And.intro hE (And.intro (show qdq s k d=false from by rw [qdq,hE];rfl) (show qdl s k d=⟨[],[]⟩ from by rw [qdl,if_neg];rw [hE];simp)))
  clear hE
  go_enter Tryz.func29,Tryz.ntmps29
  go_wp2_with fail
  refine (hcon _ bel).mono ?_
  rintro e w1 ⟨g,rfl,h1,hg,hS⟩
  have c0:w1.cell? ⟨w.heap.size+1+1,0,none⟩=some (.slice none 0 0):=Ext.keep h1 (by go_simp)
  have c1:w1.cell? ⟨w.heap.size+1+1,1,none⟩=some (.slice none 0 0):=Ext.keep h1 (by go_simp)
  have f0:w1.frozen? ⟨w.heap.size+1+1,0,none⟩=false:=qa4 h1 (by simp) (by go_simp)
  have f1:w1.frozen? ⟨w.heap.size+1+1,1,none⟩=false:=qa4 h1 (by simp) (by go_simp)
  have k0:w1.cell? ⟨w.heap.size+1,0,none⟩=some (.int .i64 k.n):=Ext.keep h1 (by go_simp)
  have k1:w1.cell? ⟨w.heap.size+1,1,none⟩=some (.slice Al2 k.ls.length cl2):=Ext.keep h1 (by go_simp)
  have k2:w1.cell? ⟨w.heap.size+1,2,none⟩=some (.slice Ae2 k.es.length ce2):=Ext.keep h1 (by go_simp)
  have hX1:Ext w w1:=bel
  clear h1 hS
  go_wp2_with fail
  refine (hcon2 _ hX1).mono ?_
  rintro e w2 ⟨rfl,h2⟩
  have f0:=qa4 h2 (World.block_lt_of_cell? _ _ c0) f0
  have f1:=qa4 h2 (World.block_lt_of_cell? _ _ c1) f1
  have c0:=Ext.keep h2 c0
  have c1:=Ext.keep h2 c1
  go_wp2_with fail
  rw [HV.out.1,HV.out.2.1,HV.out.2.2]
  refine qha (a:=6) (p:=7) (b:=8) ?_ ?_ ?_ ?_ (by omega) (hX1.trans' h2) c0 c1 (qhz ..) <;> rfl
 have hcon2:=fun W (hW:Ext w W)=>qhu S k _ W (RSy.good.bel HY.out hW) hok2
 by_cases hd0:0≤d
 case neg =>
  have hE:qda s k d=1:=by rw [qda,if_pos hok,if_pos hok2,if_neg fun h=>hd0 h.1]
  have HV:=Hd (And.intro hE (And.intro (show qdq s k d=false from by rw [qdq,hE];rfl) (show qdl s k d=⟨[],[]⟩ from by rw [qdl,if_neg];rw [hE];simp)))
  clear hE
  go_enter Tryz.func29,Tryz.ntmps29
  go_wp2_with fail
  refine (hcon _ bel).mono ?_
  rintro e w1 ⟨g,rfl,h1,hg,hS⟩
  have c0:w1.cell? ⟨w.heap.size+1+1,0,none⟩=some (.slice none 0 0):=Ext.keep h1 (by go_simp)
  have c1:w1.cell? ⟨w.heap.size+1+1,1,none⟩=some (.slice none 0 0):=Ext.keep h1 (by go_simp)
  have f0:w1.frozen? ⟨w.heap.size+1+1,0,none⟩=false:=qa4 h1 (by simp) (by go_simp)
  have f1:w1.frozen? ⟨w.heap.size+1+1,1,none⟩=false:=qa4 h1 (by simp) (by go_simp)
  have k0:w1.cell? ⟨w.heap.size+1,0,none⟩=some (.int .i64 k.n):=Ext.keep h1 (by go_simp)
  have k1:w1.cell? ⟨w.heap.size+1,1,none⟩=some (.slice Al2 k.ls.length cl2):=Ext.keep h1 (by go_simp)
  have k2:w1.cell? ⟨w.heap.size+1,2,none⟩=some (.slice Ae2 k.es.length ce2):=Ext.keep h1 (by go_simp)
  have hX1:Ext w w1:=bel
  have hz1:w.heap.size+3≤w1.heap.size:=by have:=h1.size;simp at this;omega
  have HS:=Hd (hS.mono (S':=fun _=>True) fun _ _ _=>trivial)
  clear h1 hS hg
  go_wp2_with fail
  refine (hcon2 _ hX1).mono ?_
  rintro e w2 ⟨g2,rfl,h2,hg2,hS2⟩
  have f0:=qa4 h2 (World.block_lt_of_cell? _ _ c0) f0
  have f1:=qa4 h2 (World.block_lt_of_cell? _ _ c1) f1
  have c0:=Ext.keep h2 c0
  have c1:=Ext.keep h2 c1
  have HS2:=Hd (hS2.mono (S':=fun _=>True) fun _ _ _=>trivial)
  have hz2:=h2.size
  clear hg2 hS2
  go_wp2_with fail
  rw [HV.out.1,HV.out.2.1,HV.out.2.2]
  refine qha (a:=6) (p:=7) (b:=8) ?_ ?_ ?_ ?_ (by omega) (hX1.trans' h2) c0 c1 (qhz ..) <;> rfl
 by_cases hd8:d≤8
 case neg =>
  have hE:qda s k d=1:=by rw [qda,if_pos hok,if_pos hok2,if_neg fun h=>hd8 h.2]
  have HV:=Hd (And.intro hE (And.intro (show qdq s k d=false from by rw [qdq,hE];rfl) (show qdl s k d=⟨[],[]⟩ from by rw [qdl,if_neg];rw [hE];simp)))
  clear hE
  go_enter Tryz.func29,Tryz.ntmps29
  go_wp2_with fail
  refine (hcon _ bel).mono ?_
  rintro e w1 ⟨g,rfl,h1,hg,hS⟩
  have c0:w1.cell? ⟨w.heap.size+1+1,0,none⟩=some (.slice none 0 0):=Ext.keep h1 (by go_simp)
  have c1:w1.cell? ⟨w.heap.size+1+1,1,none⟩=some (.slice none 0 0):=Ext.keep h1 (by go_simp)
  have f0:w1.frozen? ⟨w.heap.size+1+1,0,none⟩=false:=qa4 h1 (by simp) (by go_simp)
  have f1:w1.frozen? ⟨w.heap.size+1+1,1,none⟩=false:=qa4 h1 (by simp) (by go_simp)
  have k0:w1.cell? ⟨w.heap.size+1,0,none⟩=some (.int .i64 k.n):=Ext.keep h1 (by go_simp)
  have k1:w1.cell? ⟨w.heap.size+1,1,none⟩=some (.slice Al2 k.ls.length cl2):=Ext.keep h1 (by go_simp)
  have k2:w1.cell? ⟨w.heap.size+1,2,none⟩=some (.slice Ae2 k.es.length ce2):=Ext.keep h1 (by go_simp)
  have hX1:Ext w w1:=bel
  have hz1:w.heap.size+3≤w1.heap.size:=by have:=h1.size;simp at this;omega
  have HS:=Hd (hS.mono (S':=fun _=>True) fun _ _ _=>trivial)
  clear h1 hS hg
  go_wp2_with fail
  refine (hcon2 _ hX1).mono ?_
  rintro e w2 ⟨g2,rfl,h2,hg2,hS2⟩
  have f0:=qa4 h2 (World.block_lt_of_cell? _ _ c0) f0
  have f1:=qa4 h2 (World.block_lt_of_cell? _ _ c1) f1
  have c0:=Ext.keep h2 c0
  have c1:=Ext.keep h2 c1
  have HS2:=Hd (hS2.mono (S':=fun _=>True) fun _ _ _=>trivial)
  have hz2:=h2.size
  clear hg2 hS2
  go_wp2_with fail
  rw [HV.out.1,HV.out.2.1,HV.out.2.2]
  refine qha (a:=6) (p:=7) (b:=8) ?_ ?_ ?_ ?_ (by omega) (hX1.trans' h2) c0 c1 (qhz ..) <;> rfl
 have hE:qda s k d=qes (qbm s d.toNat):=by rw [qda,if_pos hok,if_pos hok2,if_pos ⟨hd0,hd8⟩]
 have hgc:=fun W g (hg:qau (fun _=>True) W g s)=>qr3 (fun _=>True) s hok hsm g d.toNat W hg (by omega)
 rw [Int.toNat_of_nonneg hd0] at hgc
 have hgok:=qug s d.toNat
 cases hgl:qbm s d.toNat with
 | none =>
  rw [hgl] at hgc hE
  have HV:=Hd (And.intro (show qda s k d=2 from hE) (And.intro (show qdq s k d=false from by rw [qdq,hE];rfl) (show qdl s k d=⟨[],[]⟩ from by rw [qdl,if_neg];rw [hE];simp [qes])))
  have hgc2:∀ W g,qau (fun _=>True) W g s→Calls Tryz.prog 88 #[.pointer (some ⟨g,0,none⟩),.int .i64 d] W fun e w'=>∃ A c,e = .returned (.tuple #[.slice A 0 c,.int .i64 2])∧qab RTe 2 40 W.heap.size (fun _=>True) w' [] (.slice A 0 c)∧Ext W w':=fun W g hg=>(hgc W g hg).mono fun _ _ h=>h
  clear hE hgl hgc hgok
  go_enter Tryz.func29,Tryz.ntmps29
  go_wp2_with fail
  refine (hcon _ bel).mono ?_
  rintro e w1 ⟨g,rfl,h1,hg,hS⟩
  have c0:w1.cell? ⟨w.heap.size+1+1,0,none⟩=some (.slice none 0 0):=Ext.keep h1 (by go_simp)
  have c1:w1.cell? ⟨w.heap.size+1+1,1,none⟩=some (.slice none 0 0):=Ext.keep h1 (by go_simp)
  have f0:w1.frozen? ⟨w.heap.size+1+1,0,none⟩=false:=qa4 h1 (by simp) (by go_simp)
  have f1:w1.frozen? ⟨w.heap.size+1+1,1,none⟩=false:=qa4 h1 (by simp) (by go_simp)
  have k0:w1.cell? ⟨w.heap.size+1,0,none⟩=some (.int .i64 k.n):=Ext.keep h1 (by go_simp)
  have k1:w1.cell? ⟨w.heap.size+1,1,none⟩=some (.slice Al2 k.ls.length cl2):=Ext.keep h1 (by go_simp)
  have k2:w1.cell? ⟨w.heap.size+1,2,none⟩=some (.slice Ae2 k.es.length ce2):=Ext.keep h1 (by go_simp)
  have hX1:Ext w w1:=bel
  have hz1:w.heap.size+3≤w1.heap.size:=by have:=h1.size;simp at this;omega
  have HS:=Hd (hS.mono (S':=fun _=>True) fun _ _ _=>trivial)
  clear h1 hS hg
  go_wp2_with fail
  refine (hcon2 _ hX1).mono ?_
  rintro e w2 ⟨g2,rfl,h2,hg2,hS2⟩
  have f0:=qa4 h2 (World.block_lt_of_cell? _ _ c0) f0
  have f1:=qa4 h2 (World.block_lt_of_cell? _ _ c1) f1
  have c0:=Ext.keep h2 c0
  have c1:=Ext.keep h2 c1
  have HS2:=Hd (hS2.mono (S':=fun _=>True) fun _ _ _=>trivial)
  have hz2:=h2.size
  clear hg2 hS2
  go_wp2_with fail
  refine (hgc2 _ g (HS.out.bel h2)).mono ?_
  rintro e w3 ⟨A3,c3,rfl,ho3,h3⟩
  have f0:=qa4 h3 (World.block_lt_of_cell? _ _ c0) f0
  have f1:=qa4 h3 (World.block_lt_of_cell? _ _ c1) f1
  have c0:=Ext.keep h3 c0
  have c1:=Ext.keep h3 c1
  clear ho3
  go_wp2_with fail
  rw [HV.out.1,HV.out.2.1,HV.out.2.2]
  refine qha (a:=6) (p:=7) (b:=8) ?_ ?_ ?_ ?_ (by omega) (hX1.trans' (h2.trans' h3)) c0 c1 (qhz ..) <;> rfl
 | some ts =>
  rw [hgl] at hgc hE hgok
  have hI:qgv s k d=qbs (qcq k) ts:=by rw [qgv,hgl];rfl
  have hgc2:∀ W g,qau (fun _=>True) W g s→Calls Tryz.prog 88 #[.pointer (some ⟨g,0,none⟩),.int .i64 d] W fun e w'=>∃ A c,e = .returned (.tuple #[.slice A ts.length c,.int .i64 0])∧qab RTe 2 40 W.heap.size (fun _=>True) w' ts (.slice A ts.length c)∧Ext W w':=fun W g hg=>(hgc W g hg).mono fun _ _ h=>h
  have hfl:=fun W g v (hg:qau (fun _=>True) W g k) (hv:RSl RTe 2 (fun _=>True) W ts [v])=>fails_c (fun _=>True) k hok2 g ts v W hg hv (fun t ht=>by have:=hgok.1 t ht;exact ⟨by omega,by omega⟩)
  have hb:=qmm (qcq k) ts
  have hB:qdq s k d=decide (qbs (qcq k) ts<0):=by rw [qdq,hE,hI];rfl
  have hT:qdl s k d=if 0≤qbs (qcq k) ts then ts.getD (qbs (qcq k) ts).toNat ⟨[],[]⟩ else ⟨[],[]⟩:=by rw [qdl,hE,hI,hgl];simp [qes,qa2]
  obtain ⟨i,hi⟩:∃ i,qbs (qcq k) ts=i:=⟨_,rfl⟩
  rw [hi] at hfl hb hB hT
  clear hgl hgc hgok hi hI
  by_cases h0:0≤i
  ·obtain ⟨n,rfl⟩:∃ n:Nat,i=n:=⟨i.toNat,by omega⟩
   have hn:n<ts.length:=by omega
   have HV:=Hd (And.intro (show qda s k d=0 from hE) (And.intro (show qdq s k d=false from by rw [hB];simp) (show qdl s k d=ts[n] from by rw [hT,if_pos h0];simp [hn])))
   clear hE hB hT
   go_enter Tryz.func29,Tryz.ntmps29
   go_wp2_with fail
   refine (hcon _ bel).mono ?_
   rintro e w1 ⟨g,rfl,h1,hg,hS⟩
   have c0:w1.cell? ⟨w.heap.size+1+1,0,none⟩=some (.slice none 0 0):=Ext.keep h1 (by go_simp)
   have c1:w1.cell? ⟨w.heap.size+1+1,1,none⟩=some (.slice none 0 0):=Ext.keep h1 (by go_simp)
   have f0:w1.frozen? ⟨w.heap.size+1+1,0,none⟩=false:=qa4 h1 (by simp) (by go_simp)
   have f1:w1.frozen? ⟨w.heap.size+1+1,1,none⟩=false:=qa4 h1 (by simp) (by go_simp)
   have k0:w1.cell? ⟨w.heap.size+1,0,none⟩=some (.int .i64 k.n):=Ext.keep h1 (by go_simp)
   have k1:w1.cell? ⟨w.heap.size+1,1,none⟩=some (.slice Al2 k.ls.length cl2):=Ext.keep h1 (by go_simp)
   have k2:w1.cell? ⟨w.heap.size+1,2,none⟩=some (.slice Ae2 k.es.length ce2):=Ext.keep h1 (by go_simp)
   have hb1:w1.heap[w.heap.size+1+1]? = some (.cells #[.slice none 0 0,.slice none 0 0] 40):=(h1.block _ (by simp)).trans (by
    have:=World.alloc_heap_new ((w.alloc (.cells #[.int .i64 s.n,.slice Al s.ls.length cl,.slice Ae s.es.length ce] 25)).alloc (.cells #[.int .i64 k.n,.slice Al2 k.ls.length cl2,.slice Ae2 k.es.length ce2] 25)) (.cells #[.slice none 0 0,.slice none 0 0] 40)
    rwa [World.size_alloc,World.size_alloc] at this)
   have hX1:Ext w w1:=bel
   have hz1:w.heap.size+3≤w1.heap.size:=by have:=h1.size;simp at this;omega
   have HS:=Hd (hS.mono (S':=fun _=>True) fun _ _ _=>trivial)
   clear h1 hS hg
   go_wp2_with fail
   refine (hcon2 _ hX1).mono ?_
   rintro e w2 ⟨g2,rfl,h2,hg2,hS2⟩
   have f0:=qa4 h2 (World.block_lt_of_cell? _ _ c0) f0
   have f1:=qa4 h2 (World.block_lt_of_cell? _ _ c1) f1
   have c0:=Ext.keep h2 c0
   have c1:=Ext.keep h2 c1
   have HS2:=Hd (hS2.mono (S':=fun _=>True) fun _ _ _=>trivial)
   have hz2:=h2.size
   clear hg2 hS2
   go_wp2_with fail
   refine (hgc2 _ g (HS.out.bel h2)).mono ?_
   rintro e w3 ⟨A3,c3,rfl,ho3,h3⟩
   have f0:=qa4 h3 (World.block_lt_of_cell? _ _ c0) f0
   have f1:=qa4 h3 (World.block_lt_of_cell? _ _ c1) f1
   have c0:=Ext.keep h3 c0
   have c1:=Ext.keep h3 c1
   have HO3:=Hd ((RSl.good RTe.good).mono (ho3.sl RTe.good (by decide)) (S':=fun _=>True) fun _ _ _=>trivial)
   obtain ⟨b,off,cs,he,hbl,_,hl,hr,hcell⟩:=HO3.out.get n hn
   obtain rfl:=he
   obtain ⟨v0,v1,rfl,ha0,ha1⟩:=id hr
   obtain ⟨B0,d0,rfl,_,_⟩:=ha0.val
   obtain ⟨B1,d1,rfl,_,_⟩:=ha1.val
   have a0:=hcell.get 0 _
   have a1:=hcell.get 1 _
   simp only [Nat.add_zero] at a0
   have hgn:∀ off n,w3.cell? ⟨w.heap.size+1+1,off,none⟩≠some (.int .i64 n):=by
    intro off n
    have hb3:=(h3.block _ (by omega)).trans ((h2.block _ (by omega)).trans hb1)
    rw [cell_of_row w3 _ off _ _ _ hb3]
    rcases off with _ | _ | off <;> simp
   have hr:=(show RTe (fun b=>True∧b≠w.heap.size+1+1) w3 ts[n] _ from ⟨_,_,rfl,qaa.avoid hgn ha0,qaa.avoid hgn ha1⟩)
   have HR:=Hd hr
   clear ho3 hcell hl hr hbl ha0 ha1
   go_wp2_with fail
   refine (hfl _ g2 _ (HS2.out.bel h3) HO3.out).mono ?_
   rintro e w4 ⟨rfl,h4⟩
   have f0:=qa4 h4 (World.block_lt_of_cell? _ _ c0) f0
   have f1:=qa4 h4 (World.block_lt_of_cell? _ _ c1) f1
   have c0:=Ext.keep h4 c0
   have c1:=Ext.keep h4 c1
   have a0:=Ext.keep h4 a0
   have a1:=Ext.keep h4 a1
   have f0d:w4.drew.frozen? ⟨w.heap.size+1+1,0,none⟩=false:=f0
   have f1d:w4.drew.frozen? ⟨w.heap.size+1+1,1,none⟩=false:=f1
   have c0d:w4.drew.cell? ⟨w.heap.size+1+1,0,none⟩=some (.slice none 0 0):=c0
   have c1d:w4.drew.cell? ⟨w.heap.size+1+1,1,none⟩=some (.slice none 0 0):=c1
   go_wp2_with fail
   go_region_with (fail)
   all_goals go_wp2_with fail
   all_goals rw [HV.out.1,HV.out.2.1,HV.out.2.2]
   all_goals refine qha (a:=6) (p:=7) (b:=8) ?_ ?_ ?_ ?_ (by omega) (Below.drew (hX1.trans' (h2.trans' (h3.trans' h4)))) c0d c1d (RTe.good.bel (RTe.good.mono HR.out fun _ _ h=>h.2) (Below.drew h4))
   all_goals rfl
  ·have HV:=Hd (And.intro (show qda s k d=0 from hE) (And.intro (show qdq s k d=true from by rw [hB];simp;omega) (show qdl s k d=⟨[],[]⟩ from by rw [hT,if_neg h0])))
   clear hE hB hT
   go_enter Tryz.func29,Tryz.ntmps29
   go_wp2_with fail
   refine (hcon _ bel).mono ?_
   rintro e w1 ⟨g,rfl,h1,hg,hS⟩
   have c0:w1.cell? ⟨w.heap.size+1+1,0,none⟩=some (.slice none 0 0):=Ext.keep h1 (by go_simp)
   have c1:w1.cell? ⟨w.heap.size+1+1,1,none⟩=some (.slice none 0 0):=Ext.keep h1 (by go_simp)
   have f0:w1.frozen? ⟨w.heap.size+1+1,0,none⟩=false:=qa4 h1 (by simp) (by go_simp)
   have f1:w1.frozen? ⟨w.heap.size+1+1,1,none⟩=false:=qa4 h1 (by simp) (by go_simp)
   have k0:w1.cell? ⟨w.heap.size+1,0,none⟩=some (.int .i64 k.n):=Ext.keep h1 (by go_simp)
   have k1:w1.cell? ⟨w.heap.size+1,1,none⟩=some (.slice Al2 k.ls.length cl2):=Ext.keep h1 (by go_simp)
   have k2:w1.cell? ⟨w.heap.size+1,2,none⟩=some (.slice Ae2 k.es.length ce2):=Ext.keep h1 (by go_simp)
   have hX1:Ext w w1:=bel
   have hz1:w.heap.size+3≤w1.heap.size:=by have:=h1.size;simp at this;omega
   have HS:=Hd (hS.mono (S':=fun _=>True) fun _ _ _=>trivial)
   clear h1 hS hg
   go_wp2_with fail
   refine (hcon2 _ hX1).mono ?_
   rintro e w2 ⟨g2,rfl,h2,hg2,hS2⟩
   have f0:=qa4 h2 (World.block_lt_of_cell? _ _ c0) f0
   have f1:=qa4 h2 (World.block_lt_of_cell? _ _ c1) f1
   have c0:=Ext.keep h2 c0
   have c1:=Ext.keep h2 c1
   have HS2:=Hd (hS2.mono (S':=fun _=>True) fun _ _ _=>trivial)
   have hz2:=h2.size
   clear hg2 hS2
   go_wp2_with fail
   refine (hgc2 _ g (HS.out.bel h2)).mono ?_
   rintro e w3 ⟨A3,c3,rfl,ho3,h3⟩
   have f0:=qa4 h3 (World.block_lt_of_cell? _ _ c0) f0
   have f1:=qa4 h3 (World.block_lt_of_cell? _ _ c1) f1
   have c0:=Ext.keep h3 c0
   have c1:=Ext.keep h3 c1
   have HO3:=Hd ((RSl.good RTe.good).mono (ho3.sl RTe.good (by decide)) (S':=fun _=>True) fun _ _ _=>trivial)
   clear ho3
   go_wp2_with fail
   refine (hfl _ g2 _ (HS2.out.bel h3) HO3.out).mono ?_
   rintro e w4 ⟨rfl,h4⟩
   have f0:=qa4 h4 (World.block_lt_of_cell? _ _ c0) f0
   have f1:=qa4 h4 (World.block_lt_of_cell? _ _ c1) f1
   have c0:=Ext.keep h4 c0
   have c1:=Ext.keep h4 c1
   go_wp2_with fail
   rw [HV.out.1,HV.out.2.1,HV.out.2.2]
   refine qha (a:=6) (p:=7) (b:=8) ?_ ?_ ?_ ?_ (by omega) (hX1.trans' (h2.trans' (h3.trans' h4))) c0 c1 (qhz ..) <;> rfl
end
end Go.Proofs.YtegenalcheooeaaGreat
