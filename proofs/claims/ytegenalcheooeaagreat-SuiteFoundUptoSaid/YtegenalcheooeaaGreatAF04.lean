/- Of the proof of a law of the suites: LCompL, LCompI, RPlain, RPlain2, RPlain3, RPlain4, LSmall2, OpenM. -/
import Derived.Test.YtegenalcheooeaaGreatAF02
import Derived.Test.YtegenalcheooeaaGreatAF03
import Derived.Test.YtegenalcheooeaaGreatB03
import Derived.Test.YtegenalcheooeaaGreatB09
import Derived.Test.YtegenalcheooeaaGreatB12
import Derived.Test.YtegenalcheooeaaGreatB13
import Derived.Test.YtegenalcheooeaaGreatB21
set_option linter.unusedSectionVars false
set_option linter.unusedSimpArgs false
set_option linter.unusedVariables false
namespace Go.Proofs.YtegenalcheooeaaGreat
open Go.RowKit
attribute [local go_sem] cell?_exto
section
open Go.Shelf
theorem qoj (w:World) (t e ty:TypeId) (z:Value) (k:Nat) (ht:Tryz.prog.underlying t=some (.slice e)) (hv:∀ w,(zeroValue e).run Tryz.prog w = .ok z w) (hzk:z.cells.size=k) (hk:0<k) (h1:∀ v∈z.cells.toList,v.oneCell'=true) (b o n c:Nat) (hn:0<n)
  (hc:∀ j,j<n*k->(w.cell? ⟨b,o+j,none⟩).isSome=true∧w.frozen? ⟨b,o+j,none⟩=false) :
  ∃ vs,(Builtin.clear_ #[t] ty #[.slice (some ⟨b,o,none⟩) n c]).run Tryz.prog w = .ok (.tuple #[]) (w.setCells b o vs):=by
 have hlen:(Builtin.zeroCells z.cells n).toList.length=n*k:=by simp [Builtin.zeroCells,hzk]
 have hall:∀ v∈(Builtin.zeroCells z.cells n).toList,v.oneCell'=true:=fun v hv=>by
  simp only [Builtin.zeroCells,Array.toList_map,List.mem_map] at hv
  obtain ⟨i,_,rfl⟩:=hv
  have hlt:i % z.cells.size<z.cells.size:=Nat.mod_lt _ (by omega)
  rw [getElem!_pos z.cells _ hlt]
  exact h1 _ (by simp)
 have hst:=run_storeCells_cells (P:=Tryz.prog) b o (Builtin.zeroCells z.cells n).toList 0 w (by rw [hlen];simpa using fun j hj=>(hc j hj).1) (by rw [hlen];simpa using fun j hj=>(hc j hj).2) hall
 simp only [Nat.add_zero] at hst
 obtain ⟨m,rfl⟩:∃ m,n=m+1:=⟨n-1,by omega⟩
 exact ⟨(Builtin.zeroCells z.cells (m+1)).toList,by simp [Builtin.clear_,run_underlying ht,hv,hst]⟩
end
section
open Go.Shelf
end
section
end
section

theorem mvL_iff (s:Sy) (x:Lb) (bs:List Bool) (y:Int):y∈mvL s x bs s.es.length↔∃ j:Fin s.es.length,mvB s x bs s.es[j]=true∧s.es[j].t=y:=by
 rw [mvL,List.take_length,List.mem_map]
 constructor
 ·rintro ⟨e,he,rfl⟩
  obtain ⟨h1,h2⟩:=List.mem_filter.1 he
  obtain ⟨i,hi,rfl⟩:=List.getElem_of_mem h1
  exact ⟨⟨i,hi⟩,h2,rfl⟩
 ·rintro ⟨j,h,rfl⟩
  exact ⟨s.es[j],List.mem_filter.2 ⟨List.getElem_mem _,h⟩,rfl⟩
theorem qed {s:Sy} (h:qag s) (j:Fin s.es.length):0<=s.es[j].f∧s.es[j].f<s.n∧0<=s.es[j].t∧s.es[j].t<s.n∧0<=s.es[j].l∧s.es[j].l<s.ls.length:=by
 have:=(h.2.2.2.2.2 j.1 j.2).1
 rwa [qhs] at this
end
section
end
section
end
section
open Go.Shelf
def SmallPost (xs:List Sy) (w:World) (e:Ending) (w':World):Prop:=∃ b,e = .returned (.bool b)∧Ext w w'∧(b=true->∀ x∈xs,x.ls.length<=16∧x.es.length<=120)
set_option maxHeartbeats 1000000 in
set_option maxRecDepth 100000 in
theorem small2_c (S:Nat->Prop) (m:Int) (xs:List Sy) (v:Value) (w:World) (hx:RSl RSy 3 S w xs [v]):Calls Tryz.prog 15 #[.int .i64 m,v] w (SmallPost xs w):=by
 obtain ⟨A,c,rfl,hc,hc0⟩:=hx.val
 have HX:=Hd hx
 clear hx
 go_enter Tryz.func15,Tryz.ntmps15
 go_wp2_with fail
 go_loopw [9] (fun vi wr=>∃ k:Nat,k<=xs.length∧vi = .int .i64 k∧Ext w wr∧Hid (∀ j,(h:j<k)->(h':j<xs.length)->xs[j].ls.length<=16∧xs[j].es.length<=120)) (fun vi _=>xs.length-(intOf vi).toNat)
 case atStart=>exact ⟨0,Nat.zero_le _,rfl,Ext.refl _,fun j h _=>absurd h (by omega)⟩
 case round =>
  obtain ⟨k,hk,rfl,hE,hQ⟩:=hrel
  by_cases hlt:k<xs.length
  ·obtain ⟨b,off,cs,rfl,hb,hSb,hl,hr,hcell⟩:=((RSl.good RSy.good).bel HX.out hE).get k hlt
   obtain ⟨j1,u1,u2,rfl,hu1,hu2⟩:=id hr
   have a0:=hcell.get 0 _
   have a1:=hcell.get 1 _
   have a2:=hcell.get 2 _
   simp only [Nat.add_zero] at a0
   obtain ⟨A1,c1,rfl,hc1,hc10⟩:=hu1.val
   obtain ⟨A2,c2,rfl,hc2,hc20⟩:=hu2.val
   have hsl:=fun (h:xs[k].ls.length<=16) W (hW:Ext wr W)=>qmm S _ _ W (qaa.good.bel hu1 hW) (by omega)
   obtain ⟨s,hse⟩:∃ s,xs[k]=s:=⟨_,rfl⟩
   rw [hse] at a0 a1 a2 hsl hc1 hc2
   have HSE:=Hd hse
   clear hr hu1 hu2 hl hcell hSb hse
   by_cases h1:m<s.n
   all_goals by_cases h2:s.n<=20000
   all_goals by_cases h3:16<s.ls.length
   all_goals by_cases h4:120<s.es.length
   all_goals first
    | (have hs2:=hsl (by omega)
       clear hsl
       go_wp2_with fail
       refine (hs2 _ bel).mono ?_
       rintro e w5 ⟨rfl,h5⟩
       obtain ⟨bb,hbb⟩:∃ bb,qet s.ls=bb:=⟨_,rfl⟩
       rw [hbb]
       clear hbb
       cases bb
       ·go_wp2_with fail
        go_ret
        exact ⟨_,rfl,bel,fun h=>(by cases h)⟩
       ·go_wp2_with fail
        go_roundw
        case rel=>exact ⟨k+1,by omega,by go_num,bel,fun j h h'=>by
         by_cases e:j=k
         ·subst e;rw [HSE.out];omega
         ·exact hQ.out j (by omega) h'⟩
        case measure=>simp [intOf];omega)
    | (clear hsl
       go_wp2_with fail
       go_ret
       exact ⟨_,rfl,bel,fun h=>(by cases h)⟩)
  ·go_wp2_with fail
   go_ret
   exact ⟨_,rfl,hE,fun _ x hx=>by
    obtain ⟨j,hj,rfl⟩:=List.getElem_of_mem hx
    exact hQ.out j (by omega) hj⟩
end
section
open Go.ChangeShapes Go.WideShapes Go.ChangeAt
section
variable {H:Type} {enc:TypeId×Value->H} {W:World} {sp:Nat->Bool} {held:Bool}
theorem k94:Tryz.prog.cellsOf 94=4:=by kernel_rfl
theorem list4 {α:Type}:∀ {l:List α},l.length=4->∃ a b c d,l=[a,b,c,d]
 | [a,b,c,d],_=>⟨a,b,c,d,rfl⟩
theorem open_mu (fuel:Nat) (cs:List Value) (x:DataW H×List MemPlace) (h:DataW.trod enc Tryz.prog W 0 sp held fuel 94 cs=some x):cs.length=4∧∃ a:Mu,RMu (fun _=>True) W a cs∧1<=Rows.uptoBulk x.1:=by
 obtain ⟨xs,n,rfl,rfl,hl,hlen,hf⟩:=DataW.trod_struct Tryz.underlying94 h
 have hl3:cs.length=4:=by rw [hl,k94]
 obtain ⟨c0,c1,c2,c3,rfl⟩:=list4 hl3
 obtain ⟨y0,y1,y2,y3,rfl⟩:=list4 (show xs.length=4 from hlen)
 clear hl hlen hl3
 have g0:DataW.trod enc Tryz.prog W 0 sp held n 3 (([c0,c1,c2,c3].drop 0).take (Tryz.prog.cellsOf 3))=some y0:=hf 0 _ rfl
 rw [k3] at g0
 have g1:DataW.trod enc Tryz.prog W 0 sp held n 3 (([c0,c1,c2,c3].drop 1).take (Tryz.prog.cellsOf 3))=some y1:=hf 1 _ rfl
 rw [k3] at g1
 have g2:DataW.trod enc Tryz.prog W 0 sp held n 3 (([c0,c1,c2,c3].drop 2).take (Tryz.prog.cellsOf 3))=some y2:=hf 2 _ rfl
 rw [k3] at g2
 have g3:DataW.trod enc Tryz.prog W 0 sp held n 3 (([c0,c1,c2,c3].drop 3).take (Tryz.prog.cellsOf 3))=some y3:=hf 3 _ rfl
 rw [k3] at g3
 obtain ⟨n0,e0,_,w0⟩:=DataW.trod_int Tryz.underlying3 g0
 obtain ⟨n1,e1,_,w1⟩:=DataW.trod_int Tryz.underlying3 g1
 obtain ⟨n2,e2,_,w2⟩:=DataW.trod_int Tryz.underlying3 g2
 obtain ⟨n3,e3,_,w3⟩:=DataW.trod_int Tryz.underlying3 g3
 have f0:c0 = .int .i64 n0:=by injection e0
 have f1:c1 = .int .i64 n1:=by injection e1
 have f2:c2 = .int .i64 n2:=by injection e2
 have f3:c3 = .int .i64 n3:=by injection e3
 subst f0 f1 f2 f3
 refine ⟨rfl,⟨n0,n1,n2,n3⟩,⟨qfk w0,qfk w1,qfk w2,qfk w3,rfl⟩,?_⟩
 simp only [Rows.uptoBulk]
 omega
theorem open_mus (fuel:Nat) (cs:List Value) (x:DataW H×List MemPlace) (h:DataW.trod enc Tryz.prog W 0 sp held fuel 96 cs=some x):∃ l v,cs=[v]∧RSl RMu 4 (fun _=>True) W l [v]:=by
 obtain ⟨l,v,rfl,hr,_⟩:=qgu (R:=RMu) (k:=4) (by decide) (fun _=>1) Tryz.underlying96 k94 h (fun m _ cs y hy=>open_mu m cs y hy)
 exact ⟨l,v,rfl,hr⟩
end
end
end Go.Proofs.YtegenalcheooeaaGreat
