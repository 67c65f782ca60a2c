/- Of the proof of a law of the suites: LSmall2. -/
import Derived.Test.YtegenalcheooeaaGreatB21
set_option linter.unusedSectionVars false
set_option linter.unusedSimpArgs false
set_option linter.unusedVariables false
namespace Go.Proofs.YtegenalcheooeaaGreat
open Go.RowKit
attribute [local go_sem] cell?_exto
section
open Go.Shelf
def SmallPost (xs:List Sy) (w:World) (e:Ending) (w':World):Prop:=∃ b,e = .returned (.bool b)∧Ext w w'∧(b=true->∀ x∈xs,x.ls.length<=16∧x.es.length<=120)
set_option maxHeartbeats 1000000 in
set_option maxRecDepth 100000 in
theorem small2_c (S:Nat->Prop) (m:Int) (xs:List Sy) (v:Value) (w:World) (hx:RSl RSy 3 S w xs [v]):Calls Tryz.prog 15 #[.int .i64 m,v] w (SmallPost xs w):=by
 obtain ⟨A,c,rfl,hc,hc0⟩:=hx.val
 have HX:=Hd hx
 clear hx
 go_enter Tryz.func15,Tryz.ntmps15
 go_wp2_with fail
 go_loopw [9] (fun vi wr=>∃ k:Nat,k<=xs.length∧vi = .int .i64 k∧Ext w wr∧Hid (∀ j,(h:j<k)->(h':j<xs.length)->xs[j].ls.length<=16∧xs[j].es.length<=120)) (fun vi _=>xs.length-(intOf vi).toNat)
 case atStart=>exact ⟨0,Nat.zero_le _,rfl,Ext.refl _,fun j h _=>absurd h (by omega)⟩
 case round =>
  obtain ⟨k,hk,rfl,hE,hQ⟩:=hrel
  by_cases hlt:k<xs.length
  ·obtain ⟨b,off,cs,rfl,hb,hSb,hl,hr,hcell⟩:=((RSl.good RSy.good).bel HX.out hE).get k hlt
   obtain ⟨j1,u1,u2,rfl,hu1,hu2⟩:=id hr
   have a0:=hcell.get 0 _
   have a1:=hcell.get 1 _
   have a2:=hcell.get 2 _
   simp only [Nat.add_zero] at a0
   obtain ⟨A1,c1,rfl,hc1,hc10⟩:=hu1.val
   obtain ⟨A2,c2,rfl,hc2,hc20⟩:=hu2.val
   have hsl:=fun (h:xs[k].ls.length<=16) W (hW:Ext wr W)=>qnb S _ _ W (qaa.good.bel hu1 hW) (by omega)
   obtain ⟨s,hse⟩:∃ s,xs[k]=s:=⟨_,rfl⟩
   rw [hse] at a0 a1 a2 hsl hc1 hc2
   have HSE:=Hd hse
   clear hr hu1 hu2 hl hcell hSb hse
   by_cases h1:m<s.n
   all_goals by_cases h2:s.n<=20000
   all_goals by_cases h3:16<s.ls.length
   all_goals by_cases h4:120<s.es.length
   all_goals first
    | (have hs2:=hsl (by omega)
       clear hsl
       go_wp2_with fail
       refine (hs2 _ bel).mono ?_
       rintro e w5 ⟨rfl,h5⟩
       obtain ⟨bb,hbb⟩:∃ bb,qe5 s.ls=bb:=⟨_,rfl⟩
       rw [hbb]
       clear hbb
       cases bb
       ·go_wp2_with fail
        go_ret
        exact ⟨_,rfl,bel,fun h=>(by cases h)⟩
       ·go_wp2_with fail
        go_roundw
        case rel=>exact ⟨k+1,by omega,by go_num,bel,fun j h h'=>by
         by_cases e:j=k
         ·subst e;rw [HSE.out];omega
         ·exact hQ.out j (by omega) h'⟩
        case measure=>simp [intOf];omega)
    | (clear hsl
       go_wp2_with fail
       go_ret
       exact ⟨_,rfl,bel,fun h=>(by cases h)⟩)
  ·go_wp2_with fail
   go_ret
   exact ⟨_,rfl,hE,fun _ x hx=>by
    obtain ⟨j,hj,rfl⟩:=List.getElem_of_mem hx
    exact hQ.out j (by omega) hj⟩
end
end Go.Proofs.YtegenalcheooeaaGreat
