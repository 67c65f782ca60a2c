/- Of the proof of a law of the suites: LawFew3, LawEval, LawSane1, LawSane0. -/
import Derived.Test.YtegenalcheooeaaGreatB04
import Derived.Test.YtegenalcheooeaaGreatB23
import Derived.Test.YtegenalcheooeaaGreatB25
import Derived.Test.YtegenalcheooeaaGreatB29
import Derived.Test.YtegenalcheooeaaGreatB30
import Derived.Test.YtegenalcheooeaaGreatB31
import Derived.Test.YtegenalcheooeaaGreatB32
set_option linter.unusedSectionVars false
set_option linter.unusedSimpArgs false
set_option linter.unusedVariables false
namespace Go.Proofs.YtegenalcheooeaaGreat
open Go.RowKit
attribute [local go_sem] cell?_exto
section
set_option maxHeartbeats 1000000
set_option maxRecDepth 100000
/- The law's slight,small,light: walked. -/
open Go.Shelf
theorem wpList_append_run {P:Program} {w w':World} {ops:Array Oper} {rest:List Oper} {o:Oper} {a:Act} {Q:Exit→Act→World→Prop} (hgd:o.guard=none) (s x:Operand) (t:TypeId)
  (ho:o.op = .call { callee:=.builtin .append,args:=#[s,x],argTypes:=#[t,t] }) (v u r:Value) (hs:a.eval s=v) (hx:a.eval x=u) (hr:(Builtin.append_ #[t,t] o.type #[v,u]).run P w = .ok r w')
  (h:wpList P ops Q rest (a.put o.dst r) w'):wpList P ops Q (o :: rest) a w:=by
 refine wpList_plain hgd fun K hK=>?_
 unfold Oper.wp execOp
 simp only [ho,resolve,invoke,builtin,Sem.run_bind,Sem.run_pure,Result.andThen_ok,List.map_toArray,List.map_cons,List.map_nil,hs,hx,hr]
 exact hK _ _ h
def qs9 (w:World) (e:Ending) (w':World):Prop:=∃ b,e = .returned (.bool b)∧Ext w w'
def qfm (ls:List Lb):Bool:=!(ls.any fun x=>decide (20<x.v.length)) && (decide (ls.length≤100) && fewB 600 (ls.flatMap (·.v)))
theorem take_map {ls:List Lb} {k:Nat} (h:k<ls.length):(ls.take k).flatMap (·.v)++ls[k].v=(ls.take (k+1)).flatMap (·.v)∧(ls.take (k+1)).any (fun x=>decide (20<x.v.length))=((ls.take k).any (fun x=>decide (20<x.v.length)) || decide (20<ls[k].v.length)):=by
 rw [List.take_succ_eq_append_getElem h,List.flatMap_append,List.any_append]
 refine ⟨?_,?_⟩
 ·rw [List.flatMap_cons,List.flatMap_nil,List.append_nil]
 ·rw [List.any_cons,List.any_nil,Bool.or_false]
theorem qr7 (S:Nat→Prop) (ls:List Lb) (v:Value) (w:World) (hx:qaa S w ls [v]) (hlen:ls.length≤4000000):Calls Tryz.prog 16 #[v] w fun e w'=>e = .returned (.bool (qfm ls))∧Ext w w':=by
 obtain ⟨A,c,rfl,hc,hc0⟩:=hx.val
 have hx2:qaa (fun q=>q<w.heap.size) w ls [.slice A ls.length c]:=qaa.good.mono hx fun b hb _=>hb
 have HX:=Hd hx2
 clear hx hx2
 go_enter Tryz.func16,Tryz.ntmps16
 go_wp2_with fail
 go_loopw [3,8] (fun v3 vi wr=>∃ (k:Nat) (ys:List Tm) (Ao:Option Addr) (co:Nat),k≤ls.length∧vi = .int .i64 k∧v3 = .slice Ao ys.length co∧ys.length≤20*k∧Ext w wr∧Hid (qab RTm 3 159 w.heap.size (fun q=>q<w.heap.size) wr ys (.slice Ao ys.length co))∧Hid (ys=(ls.take k).flatMap (·.v)∧(ls.take k).any (fun x=>decide (20<x.v.length))=false)) (fun _ vi _=>ls.length-(intOf vi).toNat)
 case atStart=>exact ⟨0,[],none,0,Nat.zero_le _,rfl,rfl,by simp,Ext.refl _,qab.nil ..,by simp,by simp⟩
 case round =>
  obtain ⟨k,ys,Ao,co,hk,rfl,rfl,hyl,hE,hO,hY⟩:=hrel
  by_cases hlt:k<ls.length
  ·obtain ⟨b,off,cs,rfl,hb,hSb,hl,hr,hcell⟩:=(qaa.good.bel HX.out hE).get k hlt
   obtain ⟨j1,u,rfl,hu⟩:=id hr
   have a0:=hcell.get 0 _
   have a1:=hcell.get 1 _
   simp only [Nat.add_zero] at a0
   obtain ⟨Au,cu,rfl,hcu,hcu0⟩:=hu.val
   have HTM:=Hd (take_map hlt)
   have HIN:=Hd (List.getElem_mem hlt)
   obtain ⟨x,hxe⟩:∃ x,ls[k]=x:=⟨_,rfl⟩
   rw [hxe] at a0 a1 hu hcu HTM HIN
   by_cases h20:20<x.v.length
   ·have HV:Hid (qfm ls=false):=by
     show _=_
     have:ls.any (fun x=>decide (20<x.v.length))=true:=List.any_eq_true.2 ⟨x,HIN.out,decide_eq_true h20⟩
     rw [qfm,this]
     rfl
    clear hr hu hl hcell hSb hxe hO hY HTM HIN
    go_wp2_with fail
    go_ret
    exact ⟨by rw [HV.out];rfl,bel⟩
   ·have hEa:Ext wr (wr.alloc (.cells #[.int .i64 x.g,.slice Au x.v.length cu] 61)):=(Ext.refl wr).alloc _
    obtain ⟨A2,c2,w2,hr2,ho2,hb2⟩:=pushN RTm.good (by decide) w.heap.size 159 59 (.agg #[.int .i64 0,.int .i64 0,.slice none 0 0]) 40 Tryz.underlying59 qjz rfl (by decide) (fun q=>q<w.heap.size) _ ys x.v (.slice Ao ys.length co) _ (hO.out.ext RTm.good hEa)
     ((RSl.good RTm.good).mono ((RSl.good RTm.good).bel hu hEa) fun b _ h=>⟨h,fun e=>by have:=(hO.out.own_lt e).1;omega⟩) (by have:=hE.size;simp;omega) (by omega)
    have HO2:=Hd ho2
    have hlo:∀ q,(Value.slice Ao ys.length co).ownBlock=some q→w.heap.size≤q:=fun q e=>(hO.out.own_lt e).1
    have HB2:Hid (Ext w w2):=Bt.new (hE.trans' hEa) hb2 fun q _ h=>hlo q h
    have hyl2:(ys++x.v).length≤20*(k+1):=by rw [List.length_append];omega
    have HY2:Hid (ys++x.v=(ls.take (k+1)).flatMap (·.v)∧(ls.take (k+1)).any (fun x=>decide (20<x.v.length))=false):=by
     refine ⟨?_,?_⟩
     ·rw [← HTM.out.1,hY.out.1]
     ·rw [HTM.out.2,hY.out.2,decide_eq_false h20]
      rfl
    clear hr hu hl hcell hSb hxe hO ho2 hb2 hlo hY HTM HIN
    go_wp2_with (at_builtin;refine wpList_append_run rfl _ _ _ rfl _ _ _ rfl rfl hr2 ?_;clear hr2)
    go_roundw
    case rel=>exact ⟨k+1,ys++x.v,A2,c2,by omega,by go_num,by rw [List.length_append],hyl2,HB2.out,HO2.out,HY2.out⟩
    case measure=>simp [intOf];omega
  ·have hfew:=fun W (hW:Ext wr W)=>few_c _ 600 (by unfold I64;omega) ys _ W ((RSl.good RTm.good).bel (hO.out.sl RTm.good (by decide)) hW)
   have HV:Hid (qfm ls=(decide (ls.length≤100) && fewB 600 ys)):=by
    show _=_
    have h1:=hY.out.1
    have h2:=hY.out.2
    rw [List.take_of_length_le (by omega)] at h1 h2
    rw [qfm,h2,h1]
    rfl
   by_cases h100:ls.length≤100
   ·have HV2:Hid (qfm ls=fewB 600 ys):=by
     show _=_
     rw [HV.out,decide_eq_true h100,Bool.true_and]
    clear hO hY HV
    go_wp2_with fail
    refine (hfew _ bel).mono ?_
    rintro e w5 ⟨rfl,h5⟩
    go_wp2_with fail
    go_ret
    exact ⟨by rw [HV2.out];rfl,bel⟩
   ·have HV2:Hid (qfm ls=false):=by
     show _=_
     rw [HV.out,decide_eq_false h100,Bool.false_and]
    clear hO hY HV
    go_wp2_with fail
    go_ret
    exact ⟨by rw [HV2.out];rfl,bel⟩
theorem small_c (S:Nat→Prop) (m:Int) (xs:List Sy) (v:Value) (w:World) (hx:RSl RSy 3 S w xs [v]):Calls Tryz.prog 15 #[.int .i64 m,v] w (qs9 w):=by
 obtain ⟨A,c,rfl,hc,hc0⟩:=hx.val
 have HX:=Hd hx
 clear hx
 go_enter Tryz.func15,Tryz.ntmps15
 go_wp2_with fail
 go_loopw [9] (fun vi wr=>∃ k:Nat,k≤xs.length∧vi = .int .i64 k∧Ext w wr) (fun vi _=>xs.length-(intOf vi).toNat)
 case atStart=>exact ⟨0,Nat.zero_le _,rfl,Ext.refl _⟩
 case round =>
  obtain ⟨k,hk,rfl,hE⟩:=hrel
  by_cases hlt:k<xs.length
  ·obtain ⟨b,off,cs,rfl,hb,hSb,hl,hr,hcell⟩:=((RSl.good RSy.good).bel HX.out hE).get k hlt
   obtain ⟨j1,u1,u2,rfl,hu1,hu2⟩:=id hr
   have a0:=hcell.get 0 _
   have a1:=hcell.get 1 _
   have a2:=hcell.get 2 _
   simp only [Nat.add_zero] at a0
   obtain ⟨A1,c1,rfl,hc1,hc10⟩:=hu1.val
   obtain ⟨A2,c2,rfl,hc2,hc20⟩:=hu2.val
   have hsl:=fun (h:xs[k].ls.length≤16) W (hW:Ext wr W)=>qr7 S _ _ W (qaa.good.bel hu1 hW) (by omega)
   obtain ⟨s,hse⟩:∃ s,xs[k]=s:=⟨_,rfl⟩
   rw [hse] at a0 a1 a2 hsl hc1 hc2
   clear hr hu1 hu2 hl hcell hSb hse
   by_cases h1:m<s.n
   all_goals by_cases h2:s.n≤20000
   all_goals by_cases h3:16<s.ls.length
   all_goals by_cases h4:120<s.es.length
   all_goals first
    | (have hs2:=hsl (by omega)
       clear hsl
       go_wp2_with fail
       refine (hs2 _ bel).mono ?_
       rintro e w5 ⟨rfl,h5⟩
       obtain ⟨bb,hbb⟩:∃ bb,qfm s.ls=bb:=⟨_,rfl⟩
       rw [hbb]
       clear hbb
       cases bb
       ·go_wp2_with fail
        go_ret
        exact ⟨_,rfl,bel⟩
       ·go_wp2_with fail
        go_roundw
        case rel=>exact ⟨k+1,by omega,by go_num,bel⟩
        case measure=>simp [intOf];omega)
    | (clear hsl
       go_wp2_with fail
       go_ret
       exact ⟨_,rfl,bel⟩)
  ·go_wp2_with fail
   go_ret
   exact ⟨_,rfl,hE⟩
theorem light_c (S:Nat→Prop) (s:Sy) (cs:List Value) (d:Int) (w:World) (hx:RSy S w s cs):Calls Tryz.prog 17 #[.agg cs.toArray,.int .i64 d] w (qs9 w):=by
 obtain ⟨j1,u1,u2,rfl,hu1,hu2⟩:=hx
 obtain ⟨A1,c1,rfl,hc1,hc10⟩:=hu1.val
 obtain ⟨A2,c2,rfl,hc2,hc20⟩:=hu2.val
 have HX:=Hd hu1
 clear hu1 hu2
 go_enter Tryz.func17,Tryz.ntmps17
 go_wp2_with fail
 go_loopw [5,11] (fun v5 vi wr=>∃ (k:Nat) (q:Int),k≤s.ls.length∧vi = .int .i64 k∧v5 = .int .i64 q∧0≤q∧q≤k∧Ext w wr) (fun _ vi _=>s.ls.length-(intOf vi).toNat)
 case atStart=>exact ⟨0,0,Nat.zero_le _,rfl,rfl,by omega,by omega,bel⟩
 case round =>
  obtain ⟨k,q,hk,rfl,rfl,hq0,hq1,hE⟩:=hrel
  by_cases hlt:k<s.ls.length
  ·obtain ⟨b,off,cs,rfl,hb,hSb,hl,hr,hcell⟩:=(qaa.good.bel HX.out hE).get k hlt
   obtain ⟨j2,u,rfl,hu⟩:=id hr
   have a0:=hcell.get 0 _
   have a1:=hcell.get 1 _
   simp only [Nat.add_zero] at a0
   obtain ⟨Au,cu,rfl,_,_⟩:=hu.val
   obtain ⟨x,hxe⟩:∃ x,s.ls[k]=x:=⟨_,rfl⟩
   rw [hxe] at a0 a1
   clear hr hu hl hcell hSb hxe
   by_cases h1:0≤x.g
   all_goals by_cases h2:x.g = -2
   all_goals try (exfalso;omega)
   all_goals go_wp2_with fail
   all_goals go_roundw
   all_goals first
    | exact ⟨k+1,q+1,by omega,by go_num,by go_num,by omega,by omega,bel⟩
    | exact ⟨k+1,q,by omega,by go_num,by go_num,by omega,by omega,bel⟩
    | (simp [intOf];omega)
  ·by_cases h1:d≤2
   all_goals by_cases h2:8<d
   all_goals by_cases h3:q≤3
   all_goals by_cases h4:d≤4
   all_goals try (exfalso;omega)
   all_goals go_wp2_with fail
   all_goals go_ret
   all_goals first
    | exact ⟨_,rfl,hE⟩
    | omega
end
section
open Go.Sort
def lbg (g:Int):Lb:=⟨g,[]⟩
def ar (f g t:Int):Ar:=⟨f,lbg g,t⟩
def as4:List Ar:=[ar 0 0 1,ar 1 1 0,ar 1 2 0]
def as5:List Ar:=[ar 0 0 1,ar 0 0 2,ar 1 1 0,ar 2 2 0]
def sy4:Sy:=⟨2,[lbg 0,lbg 1,lbg 2],[⟨0,0,1⟩,⟨1,1,0⟩,⟨1,2,0⟩]⟩
def sy5:Sy:=⟨3,[lbg 0,lbg 1,lbg 2],[⟨0,0,1⟩,⟨0,0,2⟩,⟨1,1,0⟩,⟨2,2,0⟩]⟩
theorem add4:qbk as4 [] []=([lbg 0,lbg 1,lbg 2],[⟨0,0,1⟩,⟨1,1,0⟩,⟨1,2,0⟩]):=by rfl
theorem add5:qbk as5 [] []=([lbg 0,lbg 1,lbg 2],[⟨0,0,1⟩,⟨0,0,2⟩,⟨1,1,0⟩,⟨2,2,0⟩]):=by rfl
theorem e1:qan sy5 [lbg 0]=[1,2]:=by decide +kernel
theorem e2:qb8 sy5 [1,2] [lbg 1]=true:=by decide +kernel
theorem e3:qb8 sy5 [1,2] [lbg 1,lbg 2]=false:=by decide +kernel
theorem e4:qe8 sy5 ⟨[lbg 0],[lbg 1]⟩=[1,2]:=by decide +kernel
theorem e5:qe8 sy5 ⟨[lbg 0,lbg 1],[lbg 0]⟩=[1,3]:=by decide +kernel
theorem e6:qgv sy4 sy5 1=1:=by decide +kernel
theorem e7:(qf6 sy4 [⟨[lbg 0],[lbg 1]⟩]).l=[true,true,false]∧(qf6 sy4 [⟨[lbg 0],[lbg 1]⟩]).e=[true,false,false]:=by decide +kernel
theorem e8:qhv sy4 [⟨[],[lbg 0]⟩,⟨[lbg 0],[lbg 1]⟩,⟨[lbg 0],[lbg 2]⟩]=[1,2]:=by decide +kernel
theorem m1:qbg sy4 (qan sy4 [lbg 0])=some [[lbg 1],[lbg 2]]:=by decide +kernel
theorem m2:qbg sy5 (qan sy5 [lbg 0])=some [[lbg 1,lbg 2]]:=by decide +kernel
instance:DecidableEq Te:=fun a b=>decidable_of_iff (a.tr=b.tr∧a.mu=b.mu) (by constructor;(rintro ⟨h1,h2⟩;cases a;cases b;simp_all);rintro rfl;exact ⟨rfl,rfl⟩)
theorem g1:qbm sy4 1=some [⟨[],[lbg 0]⟩,⟨[lbg 0],[lbg 1]⟩,⟨[lbg 0],[lbg 2]⟩]:=by decide +kernel
instance:DecidableEq Ed:=fun a b=>decidable_of_iff (a.f=b.f∧a.l=b.l∧a.t=b.t) (by constructor;(rintro ⟨h1,h2,h3⟩;cases a;cases b;simp_all);rintro rfl;exact ⟨rfl,rfl,rfl⟩)
theorem ok4:qai sy4:=by
 refine ⟨by decide,by decide,by decide,by decide,fun j h=>?_,fun j h=>?_⟩
 ·have h3:j<3:=h
  have:j=0∨j=1∨j=2:=by omega
  rcases this with rfl | rfl | rfl
  ·exact ⟨(by decide +kernel:qax (lbg 0)=true),fun h0=>absurd h0 (by decide)⟩
  ·exact ⟨(by decide +kernel:qax (lbg 1)=true),fun _=>(by decide +kernel:qao (lbg 0) (lbg 1)<0)⟩
  ·exact ⟨(by decide +kernel:qax (lbg 2)=true),fun _=>(by decide +kernel:qao (lbg 1) (lbg 2)<0)⟩
 ·have h3:j<3:=h
  have:j=0∨j=1∨j=2:=by omega
  rcases this with rfl | rfl | rfl
  ·exact ⟨(by decide +kernel:qb1 sy4 ⟨0,0,1⟩=true),fun h0=>absurd h0 (by decide)⟩
  ·exact ⟨(by decide +kernel:qb1 sy4 ⟨1,1,0⟩=true),fun _=>(by decide +kernel:qbn ⟨0,0,1⟩ ⟨1,1,0⟩<0)⟩
  ·exact ⟨(by decide +kernel:qb1 sy4 ⟨1,2,0⟩=true),fun _=>(by decide +kernel:qbn ⟨1,1,0⟩ ⟨1,2,0⟩<0)⟩
theorem ok5:qai sy5:=by
 refine ⟨by decide,by decide,by decide,by decide,fun j h=>?_,fun j h=>?_⟩
 ·have h3:j<3:=h
  have:j=0∨j=1∨j=2:=by omega
  rcases this with rfl | rfl | rfl
  ·exact ⟨(by decide +kernel:qax (lbg 0)=true),fun h0=>absurd h0 (by decide)⟩
  ·exact ⟨(by decide +kernel:qax (lbg 1)=true),fun _=>(by decide +kernel:qao (lbg 0) (lbg 1)<0)⟩
  ·exact ⟨(by decide +kernel:qax (lbg 2)=true),fun _=>(by decide +kernel:qao (lbg 1) (lbg 2)<0)⟩
 ·have h3:j<4:=h
  have:j=0∨j=1∨j=2∨j=3:=by omega
  rcases this with rfl | rfl | rfl | rfl
  ·exact ⟨(by decide +kernel:qb1 sy5 ⟨0,0,1⟩=true),fun h0=>absurd h0 (by decide)⟩
  ·exact ⟨(by decide +kernel:qb1 sy5 ⟨0,0,2⟩=true),fun _=>(by decide +kernel:qbn ⟨0,0,1⟩ ⟨0,0,2⟩<0)⟩
  ·exact ⟨(by decide +kernel:qb1 sy5 ⟨1,1,0⟩=true),fun _=>(by decide +kernel:qbn ⟨0,0,2⟩ ⟨1,1,0⟩<0)⟩
  ·exact ⟨(by decide +kernel:qb1 sy5 ⟨2,2,0⟩=true),fun _=>(by decide +kernel:qbn ⟨1,1,0⟩ ⟨2,2,0⟩<0)⟩
theorem build4:qg3 2 as4=sy4:=by
 unfold qg3 usedS
 rw [add4]
 have h1:labR [lbg 0,lbg 1,lbg 2]=[lbg 0,lbg 1,lbg 2]:=by decide +kernel
 have h2:qdx qbn (edR [lbg 0,lbg 1,lbg 2] [⟨0,0,1⟩,⟨1,1,0⟩,⟨1,2,0⟩])=sy4.es:=by decide +kernel
 simp only [h1,h2]
 rfl
theorem build5:qg3 3 as5=sy5:=by
 unfold qg3 usedS
 rw [add5]
 have h1:labR [lbg 0,lbg 1,lbg 2]=[lbg 0,lbg 1,lbg 2]:=by decide +kernel
 have h2:qdx qbn (edR [lbg 0,lbg 1,lbg 2] [⟨0,0,1⟩,⟨0,0,2⟩,⟨1,1,0⟩,⟨2,2,0⟩])=sy5.es:=by decide +kernel
 simp only [h1,h2]
 rfl
def t1':Te:=⟨[],[lbg 0]⟩
def t2':Te:=⟨[lbg 0],[lbg 1]⟩
def t3':Te:=⟨[lbg 0],[lbg 2]⟩
theorem v1:qdm sy5 [lbg 0]=[1,2]∧qds sy5 [lbg 0]=0:=by
 constructor
 ·rw [qdm,if_pos ⟨ok5,by decide +kernel⟩];decide +kernel
 ·rw [qds,if_pos ok5];decide +kernel
theorem v2:qet sy5 [lbg 0] [lbg 1]=true∧qdw sy5 [lbg 0] [lbg 1]=0:=by
 constructor
 ·rw [qet,if_pos ⟨ok5,by decide +kernel⟩];decide +kernel
 ·rw [qdw,if_pos ok5];decide +kernel
theorem v3:qet sy5 [lbg 0] [lbg 1,lbg 2]=false∧qdw sy5 [lbg 0] [lbg 1,lbg 2]=0:=by
 constructor
 ·rw [qet,if_pos ⟨ok5,by decide +kernel⟩];decide +kernel
 ·rw [qdw,if_pos ok5];decide +kernel
theorem v4:qcj sy4 [lbg 0]=[[lbg 1],[lbg 2]]∧qcz sy4 [lbg 0]=0:=by
 constructor
 ·rw [qcj,if_pos ⟨ok4,by decide +kernel⟩,m1];rfl
 ·rw [qcz,if_pos ok4,if_pos (by decide +kernel),m1];rfl
theorem v5:qcj sy5 [lbg 0]=[[lbg 1,lbg 2]]∧qcz sy5 [lbg 0]=0:=by
 constructor
 ·rw [qcj,if_pos ⟨ok5,by decide +kernel⟩,m2];rfl
 ·rw [qcz,if_pos ok5,if_pos (by decide +kernel),m2];rfl
theorem v6:qep sy4 1=[t1',t2',t3']∧qdn sy4 1=0:=by
 constructor
 ·rw [qep,if_pos ⟨ok4,by decide,by decide⟩,show (1:Int).toNat=1 from rfl,g1];rfl
 ·rw [qdn,if_pos ok4,if_pos (by decide),show (1:Int).toNat=1 from rfl,g1];rfl
theorem v7:qem sy5 t2'=[1,2]∧qa3 sy5 [t2']=0:=by
 have h:qa3 sy5 [t2']=0:=by rw [qa3,if_pos ok5];decide +kernel
 exact ⟨by rw [qem,if_pos h];decide +kernel,h⟩
theorem v8:qem sy5 ⟨[lbg 0,lbg 1],[lbg 0]⟩=[1,3]∧qa3 sy5 [⟨[lbg 0,lbg 1],[lbg 0]⟩]=0:=by
 have h:qa3 sy5 [⟨[lbg 0,lbg 1],[lbg 0]⟩]=0:=by rw [qa3,if_pos ok5];decide +kernel
 exact ⟨by rw [qem,if_pos h];decide +kernel,h⟩
theorem v9:qdq sy4 sy5 1=false∧qda sy4 sy5 1=0∧qdl sy4 sy5 1=t2':=by
 have h:qda sy4 sy5 1=0:=by rw [qda,if_pos ok4,if_pos ok5,if_pos (by decide),show (1:Int).toNat=1 from rfl,g1];rfl
 have hi:qgv sy4 sy5 1=1:=by decide +kernel
 refine ⟨?_,h,?_⟩
 ·rw [qdq,h,hi];rfl
 ·rw [qdl,if_pos ⟨h,by rw [hi];decide⟩,hi,show (1:Int).toNat=1 from rfl,g1];rfl
theorem v10:qdq sy5 sy4 1=true∧qda sy5 sy4 1=0:=by
 have hg:qbm sy5 1≠none:=by decide +kernel
 have h:qda sy5 sy4 1=0:=by
  rw [qda,if_pos ok5,if_pos ok4,if_pos (by decide),show (1:Int).toNat=1 from rfl]
  cases h:qbm sy5 1 with
  | none=>exact absurd h hg
  | some _=>rfl
 have hi:qgv sy5 sy4 1<0:=by decide +kernel
 exact ⟨by rw [qdq,h,decide_eq_true hi];rfl,h⟩
theorem v11:covR sy4 [t2']=⟨[true,true,false],[true,false,false]⟩∧qa3 sy4 [t2']=0:=by
 have h:qa3 sy4 [t2']=0:=by rw [qa3,if_pos ok4];decide +kernel
 refine ⟨?_,h⟩
 rw [covR,if_pos h]
 have h1:(qf6 sy4 [t2']).l=[true,true,false]:=by decide +kernel
 have h2:(qf6 sy4 [t2']).e=[true,false,false]:=by decide +kernel
 cases hc:qf6 sy4 [t2'] with
 | mk l e =>
  rw [hc] at h1 h2
  simp only at h1 h2
  rw [h1,h2]
theorem v12:qg1 sy4 [t1',t2',t3']=[1,2]∧qa3 sy4 [t1',t2',t3']=0:=by
 have h:qa3 sy4 [t1',t2',t3']=0:=by rw [qa3,if_pos ok4];decide +kernel
 exact ⟨by rw [qg1,if_pos h];decide +kernel,h⟩
theorem v13:qg1 sy4 [t2',⟨[lbg 0,lbg 1],[lbg 0]⟩,⟨[lbg 2],[lbg 0]⟩]=[1]∧qa3 sy4 [t2',⟨[lbg 0,lbg 1],[lbg 0]⟩,⟨[lbg 2],[lbg 0]⟩]=0:=by
 have h:qa3 sy4 [t2',⟨[lbg 0,lbg 1],[lbg 0]⟩,⟨[lbg 2],[lbg 0]⟩]=0:=by rw [qa3,if_pos ok4];decide +kernel
 exact ⟨by rw [qg1,if_pos h];decide +kernel,h⟩
end
section
open Go.Shelf
theorem qh9 {α:Type} {R:Rdr α} {k:Nat} (hR:Good R k) (hk:0<k) {T:Nat→Prop} {W:World} {b:Nat} {e:TypeId} {xs:List α} {cs:List Value} (hF:Flat R k T W xs cs) (hT:∀ q,T q→q<b) (hb:W.heap[b]? = some (.cells cs.toArray e (0,0))) (hn:xs.length≤100000) :
  RSl R k (fun _=>True) W xs [.slice (some ⟨b,0,none⟩) xs.length xs.length]:=by
 have hl:=hF.len
 have h:qab R k e b T W xs (.slice (some ⟨b,0,none⟩) xs.length xs.length) :=
  ⟨cs,⟨hl,.inr ⟨b,xs.length,_,rfl,Nat.le_refl _,hb,Nat.le_refl _,by unfold maxLen;omega,by simpa using hl,by rw [← hl,List.toList_toArray,List.take_length]⟩⟩,hF.imp fun x _ cs hx=>hR.mono hx fun q _ hq=>⟨hq,fun e=>by
   simp only [Value.ownBlock,Option.some.injEq] at e
   have:=hT q hq
   omega⟩⟩
 exact (RSl.good hR).mono (h.sl hR hk) fun _ _ _=>trivial
theorem rlbg (S:Nat→Prop) (W:World) (g:Int) (hg:I64 g):RLb S W (lbg g) [.int .i64 g,.slice none 0 0]:=⟨hg,_,rfl,none,0,rfl,Nat.le_refl _,by decide,.inl rfl⟩
theorem rar (S:Nat→Prop) (W:World) (f g t:Int) (hf:I64 f) (hg:I64 g) (ht:I64 t):RAr S W (ar f g t) [.int .i64 f,.int .i64 g,.slice none 0 0,.int .i64 t]:=⟨hf,ht,_,rfl,hg,none,0,rfl,Nat.le_refl _,by decide,.inl rfl⟩
theorem flat1 {α:Type} {R:Rdr α} {k:Nat} {S:Nat→Prop} {W:World} {x:α} {cs:List Value} (h:R S W x cs) (hl:cs.length=k):Flat R k S W [x] cs:=Flat.single h hl
theorem qji {α:Type} {R:Rdr α} {k:Nat} {S:Nat→Prop} {W:World} {x:α} {xs:List α} {c cs:List Value} (h:R S W x c) (hl:c.length=k) (hs:Flat R k S W xs cs):Flat R k S W (x :: xs) (c++cs):=⟨c,cs,rfl,hl,h,hs⟩
def lbCs:List Int→List Value
 | []=>[]
 | g :: gs=>[.int .i64 g,.slice none 0 0]++lbCs gs
theorem qq9 (S:Nat→Prop) (W:World):∀ gs:List Int,(∀ g∈gs,I64 g)→Flat RLb 2 S W (gs.map lbg) (lbCs gs)
 | [],_=>rfl
 | g :: gs,h=>qji (rlbg S W g (h g (by simp))) rfl (qq9 S W gs fun x hx=>h x (by simp [hx]))
theorem qdr {W:World} {b:Nat} (gs:List Int) (h:∀ g∈gs,I64 g) (hn:gs.length≤1000) (hb:W.heap[b]? = some (.cells (lbCs gs).toArray 61 (0,0))):qaa (fun _=>True) W (gs.map lbg) [.slice (some ⟨b,0,none⟩) gs.length gs.length]:=by
 have:=qh9 RLb.good (by decide) (qq9 (fun _=>False) W gs h) (fun _ h=>h.elim) hb (by simpa using (by omega:gs.length≤100000))
 simpa using this
def inCs (xs:List Int):List Value:=xs.map (Value.int .i64)
theorem qjx {W:World} {b:Nat} (xs:List Int) (h:∀ g∈xs,I64 g) (hn:xs.length≤1000) (hb:W.heap[b]? = some (.cells (inCs xs).toArray 3 (0,0))):RSl qac 1 (fun _=>True) W xs [.slice (some ⟨b,0,none⟩) xs.length xs.length] :=
 qh9 qac.good (by decide) (Flat.of_ints (S:=fun _=>False) h) (fun _ h=>h.elim) hb (by omega)
def boCs (xs:List Bool):List Value:=xs.map Value.bool
theorem qrl {W:World} {b:Nat} (xs:List Bool) (hn:xs.length≤1000) (hb:W.heap[b]? = some (.cells (boCs xs).toArray 4 (0,0))):RSl qad 1 (fun _=>True) W xs [.slice (some ⟨b,0,none⟩) xs.length xs.length] :=
 qh9 qad.good (by decide) (qml (fun _=>False) W xs) (fun _ h=>h.elim) hb (by omega)
theorem ints_of {W:World} {base:Nat} {T:Nat→Prop} {xs:List Int} {v:Value} (h:qab qac 1 3 base T W xs v):RSl qac 1 (fun _=>True) W xs [v]:=(RSl.good qac.good).mono (h.sl qac.good (by decide)) fun _ _ _=>trivial
theorem qbx (W:World) (o:Obj):(W.alloc o).heap[W.heap.size]? = some o:=World.alloc_heap_new W o
structure SanI (b1 b2 b3 b4 b5:Nat) (v4 u4 v5 u5 v6:Value) (W:World):Prop where
 x1:qah W b1 61 [.int .i64 0,.slice none 0 0]
 x2:qah W b2 61 [.int .i64 1,.slice none 0 0]
 x3:qah W b3 61 [.int .i64 2,.slice none 0 0]
 x4:qah W b4 25 [.int .i64 2,v4,u4]
 x5:qah W b5 25 [.int .i64 3,v5,u5]
 s4:RSy (fun _=>True) W sy4 [.int .i64 2,v4,u4]
 s5:RSy (fun _=>True) W sy5 [.int .i64 3,v5,u5]
 l6:qaa (fun _=>True) W [lbg 0] [v6]
theorem SanI.ext {b1 b2 b3 b4 b5:Nat} {v4 u4 v5 u5 v6:Value} {W W':World} (h:SanI b1 b2 b3 b4 b5 v4 u4 v5 u5 v6 W) (he:Ext W W'):SanI b1 b2 b3 b4 b5 v4 u4 v5 u5 v6 W' :=
 ⟨h.x1.ext he,h.x2.ext he,h.x3.ext he,h.x4.ext he,h.x5.ext he,RSy.good.bel h.s4 he,RSy.good.bel h.s5 he,qaa.good.bel h.l6 he⟩
theorem qo2 {l:List Ed} (h:(List.range (l.length-1)).all (fun k=>decide (l[k+1]? ≠ l[k]?))=true):qg5 l:=fun k hk e=>by
 have:=List.all_eq_true.1 h k (List.mem_range.2 (by omega))
 rw [List.getElem?_eq_getElem hk,List.getElem?_eq_getElem (by omega),e] at this
 simp at this
theorem nd4:qg5 (qdx qbn (edR (qbk as4 [] []).1 (qbk as4 [] []).2)):=qo2 (by decide +kernel)
theorem nd5:qg5 (qdx qbn (edR (qbk as5 [] []).1 (qbk as5 [] []).2)):=qo2 (by decide +kernel)
theorem built4 (S:Nat→Prop) (v:Value) (w:World) (hx:RSl RAr 4 S w as4 [v]):Calls Tryz.prog 74 #[.int .i64 2,v] w (qnp sy4 w):=by
 have h:=built_c S 2 (by decide) as4 v w hx (by decide +kernel) (by decide +kernel) (by decide) (by rw [add4];decide) nd4
 rwa [build4] at h
theorem built5 (S:Nat→Prop) (v:Value) (w:World) (hx:RSl RAr 4 S w as5 [v]):Calls Tryz.prog 74 #[.int .i64 3,v] w (qnp sy5 w):=by
 have h:=built_c S 3 (by decide) as5 v w hx (by decide +kernel) (by decide +kernel) (by decide) (by rw [add5];decide) nd5
 rwa [build5] at h
theorem alloc3 (w:World) (a b c:Obj):∃ W0,((w.alloc a).alloc b).alloc c=W0∧W0.heap[w.heap.size]? = some a∧W0.heap[w.heap.size+1]? = some b∧W0.heap[w.heap.size+1+1]? = some c∧Ext w W0∧W0.heap.size=w.heap.size+3:=by
 refine ⟨_,rfl,?_,qjh ..,qi6 ..,(((Ext.refl w).alloc a).alloc b).alloc c,by simp⟩
 rw [Below.heap_alloc _ _ _ (by simp;omega),Below.heap_alloc _ _ _ (by simp)]
 exact World.alloc_heap_new _ _
def arCs:List Ar→List Value
 | []=>[]
 | a :: rs=>[.int .i64 a.f,.int .i64 a.l.g,.slice none 0 0,.int .i64 a.t]++arCs rs
theorem qoa (S:Nat→Prop) (W:World):∀ l:List (Int×Int×Int),(∀ g∈l,I64 g.1∧I64 g.2.1∧I64 g.2.2)→Flat RAr 4 S W (l.map fun g=>ar g.1 g.2.1 g.2.2) (arCs (l.map fun g=>ar g.1 g.2.1 g.2.2))
 | [],_=>rfl
 | g :: gs,h=>qji (rar S W g.1 g.2.1 g.2.2 (h g (by simp)).1 (h g (by simp)).2.1 (h g (by simp)).2.2) rfl (qoa S W gs fun x hx=>h x (by simp [hx]))
theorem lit4 {W:World} {b:Nat} (hb:W.heap[b]? = some (.cells (arCs as4).toArray 106 (0,0))):RSl RAr 4 (fun _=>True) W as4 [.slice (some ⟨b,0,none⟩) 3 3] :=
 qh9 RAr.good (by decide) (qoa (fun _=>False) W [(0,0,1),(1,1,0),(1,2,0)] (by decide)) (fun _ h=>h.elim) hb (by decide)
theorem lit5 {W:World} {b:Nat} (hb:W.heap[b]? = some (.cells (arCs as5).toArray 106 (0,0))):RSl RAr 4 (fun _=>True) W as5 [.slice (some ⟨b,0,none⟩) 4 4] :=
 qh9 RAr.good (by decide) (qoa (fun _=>False) W [(0,0,1),(0,0,2),(1,1,0),(2,2,0)] (by decide)) (fun _ h=>h.elim) hb (by decide)
theorem qir {α:Type} {R:Rdr α} {k:Nat} (hR:Good R k) (hk:0<k) {W:World} {e:TypeId} {xs:List α} {cs:List Value} (hF:Flat R k (fun _=>True) W xs cs) (hn:xs.length≤100000) :
  RSl R k (fun _=>True) (W.alloc (.cells cs.toArray e)) xs [.slice (some ⟨W.heap.size,0,none⟩) xs.length xs.length] :=
 qh9 hR hk (T:=fun q=>q<W.heap.size) (hF.imp fun x _ cs hx=>hR.bel (hR.mono hx fun b hb _=>hb) ((Ext.refl W).alloc _)) (fun _ h=>h) (qbx W _) hn
theorem sm4:qf0 sy4:=by unfold qf0;decide
theorem sm5:qf0 sy5:=by unfold qf0;decide
end
section
open Go.Shelf
theorem qe6 {P:Program} {o:Oper} {ev:Operand→Value} {w w':World} {R:Value→World→Prop} {v:Value} (h:(execOp ev o).run P w = .ok (.value v) w') (hR:R v w'):vwp P o ev w R:=by unfold vwp;rw [h];exact hR
theorem qrr {P:Program} {o:Oper} {ev:Operand→Value} {w:World} {R:Value→World→Prop} {f:Nat} {args:Array Value} (h:(execOp ev o).run P w = .ok (.enter f args) w) (hc:Calls P f args w fun e w''=>∃ v,e = .returned v∧R v w''):vwp P o ev w R:=by unfold vwp;rw [h];exact hc
def fV (x:Value):Value→World→Prop:=fun v _=>v=x
def qcr (l:List Lb):Value→World→Prop:=fun v W=>qaa (fun _=>True) W l [v]
def fTe (t:Te):Value→World→Prop:=fun v W=>∃ x y,v = .agg #[x,y]∧RTe (fun _=>True) W t [x,y]
def fTes (ts:List Te):Value→World→Prop:=fun v W=>RSl RTe 2 (fun _=>True) W ts [v]
def Mv (f:Value→World→Prop):Prop:=∀ v A B,f v A→Ext A B→f v B
theorem mvV (x:Value):Mv (fV x):=fun _ _ _ h _=>h
theorem qid (l:List Lb):Mv (qcr l):=fun _ _ _ h he=>qaa.good.bel h he
theorem mvTe (t:Te):Mv (fTe t):=fun _ _ _ ⟨x,y,h,hr⟩ he=>⟨x,y,h,RTe.good.bel hr he⟩
theorem qh4 (ts:List Te):Mv (fTes ts):=fun _ _ _ h he=>(RSl.good RTe.good).bel h he
def qfu (xs:List Int):Value→World→Prop:=fun v W=>RSl qac 1 (fun _=>True) W xs [v]
def qfx (xs:List Bool):Value→World→Prop:=fun v W=>RSl qad 1 (fun _=>True) W xs [v]
def qd2 (xs:List Int):Value→World→Prop:=fun v W=>∃ u,v = .tuple #[u,.int .i64 0]∧qfu xs u W
def qgk (xs ys:List Bool):Value→World→Prop:=fun v W=>∃ u t,v = .tuple #[u,t,.int .i64 0]∧qfx xs u W∧qfx ys t W
theorem qhn (xs:List Int):Mv (qfu xs):=fun _ _ _ h he=>(RSl.good qac.good).bel h he
theorem qgr (xs:List Bool):Mv (qfx xs):=fun _ _ _ h he=>(RSl.good qad.good).bel h he
theorem qh2 (xs:List Int):Mv (qd2 xs):=fun _ _ _ ⟨u,h,hr⟩ he=>⟨u,h,qhn xs _ _ _ hr he⟩
theorem qh3 (xs ys:List Bool):Mv (qgk xs ys):=fun _ _ _ ⟨u,t,h,hr,hs⟩ he=>⟨u,t,h,qgr xs _ _ _ hr he,qgr ys _ _ _ hs he⟩
theorem mv_nil:∀ f∈([]:List (Value→World→Prop)),Mv f:=by simp
theorem qif {f:Value→World→Prop} {l:List (Value→World→Prop)} (h:Mv f) (hs:∀ f∈l,Mv f):∀ g∈f :: l,Mv g:=fun g hg=>(List.mem_cons.1 hg).elim (fun e=>e ▸ h) (hs g)
section
variable {o:Oper} {ev:Operand→Value} {w:World} {R:Value→World→Prop} {x y z:Operand}
theorem qc7 (ho:o.op = .move x) {v:Value} (hx:ev x=v) (hR:R v w):vwp Tryz.prog o ev w R:=by
 refine qe6 (v:=v) (w':=w) ?_ hR
 simp [execOp,ho,hx,go_sem]
theorem qga (ho:o.op = .assign x) {v:Value} (hx:ev x=v) (hR:R v w):vwp Tryz.prog o ev w R:=by
 refine qe6 (v:=v) (w':=w) ?_ hR
 simp [execOp,ho,hx,go_sem]
theorem vNeq (ho:o.op = .binOp .neq 31 x y 31) {a b:Int} (hx:ev x = .int .i64 a) (hy:ev y = .int .i64 b) (hR:R (.bool (decide (a≠b))) w):vwp Tryz.prog o ev w R:=by
 refine qe6 (v:=.bool (decide (a≠b))) (w':=w) ?_ hR
 have u:=Tryz.underlying31
 simp [execOp,ho,hx,hy,go_sem]
 by_cases h:a=b <;> simp [h]
theorem vNot (ho:o.op = .unOp .not 4 x) {b:Bool} (hx:ev x = .bool b) (hR:R (.bool (!b)) w):vwp Tryz.prog o ev w R:=by
 refine qe6 (v:=.bool (!b)) (w':=w) ?_ hR
 simp [execOp,ho,hx,go_sem]
theorem vPick (ho:o.op = .pick x y z) {b:Bool} {v u:Value} (hx:ev x = .bool b) (hy:ev y=v) (hz:ev z=u) (hR:R (if b then v else u) w):vwp Tryz.prog o ev w R:=by
 refine qe6 (v:=if b then v else u) (w':=w) ?_ hR
 cases b <;> simp [execOp,ho,hx,hy,hz,go_sem]
theorem qgi {k:Nat} (ho:o.op = .extract x k) {vs:Array Value} {v:Value} (hx:ev x = .tuple vs) (hv:vs[k]? = some v) (hR:R v w):vwp Tryz.prog o ev w R:=by
 refine qe6 (v:=v) (w':=w) ?_ hR
 simp [execOp,ho,hx,go_sem,hv]
theorem qee (ho:o.op = .load 61 x) {b:Nat} {v u:Value} (hx:ev x = .pointer (some ⟨b,0,none⟩)) (h0:w.cell? ⟨b,0,none⟩=some v) (h1:w.cell? ⟨b,1,none⟩=some u) (hR:R (.agg #[v,u]) w):vwp Tryz.prog o ev w R:=by
 refine qe6 (v:=.agg #[v,u]) (w':=w) ?_ hR
 simp [execOp,ho,hx,go_sem,h0,h1]
theorem vLoad40 (ho:o.op = .load 40 x) {b:Nat} {v u:Value} (hx:ev x = .pointer (some ⟨b,0,none⟩)) (h0:w.cell? ⟨b,0,none⟩=some v) (h1:w.cell? ⟨b,1,none⟩=some u) (hR:R (.agg #[v,u]) w):vwp Tryz.prog o ev w R:=by
 refine qe6 (v:=.agg #[v,u]) (w':=w) ?_ hR
 simp [execOp,ho,hx,go_sem,h0,h1]
theorem qj4 (ho:o.op = .load 25 x) {b:Nat} {v u t:Value} (hx:ev x = .pointer (some ⟨b,0,none⟩)) (h0:w.cell? ⟨b,0,none⟩=some v) (h1:w.cell? ⟨b,1,none⟩=some u) (h2:w.cell? ⟨b,2,none⟩=some t) (hR:R (.agg #[v,u,t]) w):vwp Tryz.prog o ev w R:=by
 refine qe6 (v:=.agg #[v,u,t]) (w':=w) ?_ hR
 simp [execOp,ho,hx,go_sem,h0,h1,h2]
theorem qft (ho:o.op = .buildSlice 22 1 #[(0,x)]) {v u:Value} (hx:ev x = .agg #[v,u]) (hR:R (.slice (some ⟨w.heap.size,0,none⟩) 1 1) (w.alloc (.cells #[v,u] 61))):vwp Tryz.prog o ev w R:=by
 refine qe6 ?_ hR
 simp [execOp,ho,hx,go_sem]
theorem vLit2 (ho:o.op = .buildSlice 22 2 #[(0,x),(1,y)]) {v u v' u':Value} (hx:ev x = .agg #[v,u]) (hy:ev y = .agg #[v',u']) (hR:R (.slice (some ⟨w.heap.size,0,none⟩) 2 2) (w.alloc (.cells #[v,u,v',u'] 61))):vwp Tryz.prog o ev w R:=by
 refine qe6 ?_ hR
 simp [execOp,ho,hx,hy,go_sem]
theorem vTes1 (ho:o.op = .buildSlice 34 1 #[(0,x)]) {v u:Value} (hx:ev x = .agg #[v,u]) (hR:R (.slice (some ⟨w.heap.size,0,none⟩) 1 1) (w.alloc (.cells #[v,u] 40))):vwp Tryz.prog o ev w R:=by
 refine qe6 ?_ hR
 simp [execOp,ho,hx,go_sem]
theorem vTes3 (ho:o.op = .buildSlice 34 3 #[(0,x),(1,y),(2,z)]) {v u v' u' v2 u2:Value} (hx:ev x = .agg #[v,u]) (hy:ev y = .agg #[v',u']) (hz:ev z = .agg #[v2,u2]) (hR:R (.slice (some ⟨w.heap.size,0,none⟩) 3 3) (w.alloc (.cells #[v,u,v',u',v2,u2] 40))):vwp Tryz.prog o ev w R:=by
 refine qe6 ?_ hR
 simp [execOp,ho,hx,hy,hz,go_sem]
theorem qeg {f:Nat} {ts:Array TypeId} (ho:o.op = .call { callee:=.value (.func f),args:=#[x,y],argTypes:=ts }) (he:∀ args w,(callFunc f args).run Tryz.prog w = .ok (.enter f args) w) {v u:Value} (hx:ev x=v) (hy:ev y=u) (hev:ev (.func f) = .func (.func f) #[] #[])
  (hc:Calls Tryz.prog f #[v,u] w fun e w''=>∃ v,e = .returned v∧R v w''):vwp Tryz.prog o ev w R:=by
 refine qrr (f:=f) (args:=#[v,u]) ?_ hc
 simp [execOp,ho,hx,hy,hev,go_sem,he,resolve,invoke]
theorem vCall3 {f:Nat} {ts:Array TypeId} (ho:o.op = .call { callee:=.value (.func f),args:=#[x,y,z],argTypes:=ts }) (he:∀ args w,(callFunc f args).run Tryz.prog w = .ok (.enter f args) w) {v u t:Value} (hx:ev x=v) (hy:ev y=u) (hz:ev z=t) (hev:ev (.func f) = .func (.func f) #[] #[])
  (hc:Calls Tryz.prog f #[v,u,t] w fun e w''=>∃ v,e = .returned v∧R v w''):vwp Tryz.prog o ev w R:=by
 refine qrr (f:=f) (args:=#[v,u,t]) ?_ hc
 simp [execOp,ho,hx,hy,hz,hev,go_sem,he,resolve,invoke]
end
theorem eg76:∀ args w,(callFunc 76 args).run Tryz.prog w = .ok (.enter 76 args) w:=enters_of Tryz.func76 (by kernel_rfl) rfl
theorem eg23:∀ args w,(callFunc 23 args).run Tryz.prog w = .ok (.enter 23 args) w:=enters_of Tryz.func23 (by kernel_rfl) rfl
theorem eg31:∀ args w,(callFunc 31 args).run Tryz.prog w = .ok (.enter 31 args) w:=enters_of Tryz.func31 (by kernel_rfl) rfl
theorem eg48:∀ args w,(callFunc 48 args).run Tryz.prog w = .ok (.enter 48 args) w:=enters_of Tryz.func48 (by kernel_rfl) rfl
theorem eg53:∀ args w,(callFunc 53 args).run Tryz.prog w = .ok (.enter 53 args) w:=enters_of Tryz.func53 (by kernel_rfl) rfl
theorem qf7 {w:World} {tr mu:List Lb} {x y:Value} (hx:qcr tr x w) (hy:qcr mu y w):Calls Tryz.prog 76 #[x,y] w fun e w'=>∃ v,e = .returned v∧Ext w w'∧fTe ⟨tr,mu⟩ v w':=by
 obtain ⟨A,c,rfl,_,_⟩:=RSl.val hx
 obtain ⟨B,d,rfl,_,_⟩:=RSl.val hy
 exact (test_c _ _ A B _ _ c d rfl rfl w).mono fun e w' h=>⟨_,h.1,h.2,_,_,rfl,_,_,rfl,qaa.good.bel hx h.2,qaa.good.bel hy h.2⟩
theorem nil_lbs (W:World):qcr [] (.slice none 0 0) W:=⟨none,0,rfl,Nat.le_refl _,by decide,.inl rfl⟩
theorem tes3 {W:World} {a b c:Value} {s t u:Te} (ha:fTe s a W) (hb:fTe t b W) (hc:fTe u c W):∃ x1 y1 x2 y2 x3 y3,a = .agg #[x1,y1]∧b = .agg #[x2,y2]∧c = .agg #[x3,y3]∧fTes [s,t,u] (.slice (some ⟨W.heap.size,0,none⟩) 3 3) (W.alloc (.cells #[x1,y1,x2,y2,x3,y3] 40)):=by
 obtain ⟨x1,y1,e1,r1⟩:=ha
 obtain ⟨x2,y2,e2,r2⟩:=hb
 obtain ⟨x3,y3,e3,r3⟩:=hc
 exact ⟨x1,y1,x2,y2,x3,y3,e1,e2,e3,qir RTe.good (by decide) (qji r1 rfl (qji r2 rfl (flat1 r3 rfl))) (by simp)⟩
theorem leq3:leq qgl [t1',t2',t3'] [t1',t2',t3']=true:=by decide +kernel
theorem qp0 {r:List Int} {w w':World} {e:Ending} (h:qor r 0 w e w'):∃ v,e = .returned v∧Ext w w'∧qd2 r v w':=by
 obtain ⟨A,c,rfl,h1,h2⟩:=h
 exact ⟨_,rfl,h2,_,rfl,ints_of h1⟩
theorem qqd {W:World} {base:Nat} {xs:List Bool} {v:Value} (h:RBs base W xs v):qfx xs v W:=(RSl.good qad.good).mono (h.sl qad.good (by decide)) fun _ _ _=>trivial
theorem cv_post {c:Cv} {w w':World} {e:Ending} (h:CvPost c 0 w e w'):∃ v,e = .returned v∧Ext w w'∧qgk c.l c.e v w':=by
 obtain ⟨v1,v2,rfl,h1,h2,h3⟩:=h
 exact ⟨_,rfl,h3,_,_,rfl,qqd h1,qqd h2⟩
theorem qow (t:Te) (r:List Int) (hr:qem sy5 t=r∧qa3 sy5 [t]=0) {W:World} {x y v u:Value} (ht:RTe (fun _=>True) W t [x,y]) (hs:RSy (fun _=>True) W sy5 [.int .i64 3,v,u]) :
  Calls Tryz.prog 31 #[.agg #[x,y],.agg #[.int .i64 3,v,u]] W fun e w'=>∃ v,e = .returned v∧Ext W w'∧qd2 r v w':=by
 have h:=qu3 (fun _=>True) sy5 _ _ t W hs ht
 rw [hr.1,hr.2] at h
 exact h.mono fun e w' h=>qp0 h
theorem qrk (ts:List Te) (r:List Int) (hr:qg1 sy4 ts=r∧qa3 sy4 ts=0) {W:World} {x v u:Value} (ht:fTes ts x W) (hs:RSy (fun _=>True) W sy4 [.int .i64 2,v,u]) :
  Calls Tryz.prog 53 #[.agg #[.int .i64 2,v,u],x] W fun e w'=>∃ v,e = .returned v∧Ext W w'∧qd2 r v w':=by
 have h:=Choose_c (fun _=>True) sy4 _ ts x W hs ht
 rw [hr.1,hr.2] at h
 exact h.mono fun e w' h=>qp0 h
theorem cov_call {W:World} {x v u:Value} (ht:fTes [t2'] x W) (hs:RSy (fun _=>True) W sy4 [.int .i64 2,v,u]) :
  Calls Tryz.prog 48 #[.agg #[.int .i64 2,v,u],x] W fun e w'=>∃ v,e = .returned v∧Ext W w'∧qgk [true,true,false] [true,false,false] v w':=by
 have h:=Covers_c (fun _=>True) sy4 _ [t2'] x W hs ht
 rw [v11.1,v11.2] at h
 exact h.mono fun e w' h=>cv_post h
theorem tes1 {W:World} {a:Value} {s:Te} (ha:fTe s a W):∃ x1 y1,a = .agg #[x1,y1]∧fTes [s] (.slice (some ⟨W.heap.size,0,none⟩) 1 1) (W.alloc (.cells #[x1,y1] 40)):=by
 obtain ⟨x1,y1,e1,r1⟩:=ha
 exact ⟨x1,y1,e1,qir RTe.good (by decide) (flat1 r1 rfl) (by simp)⟩
end
end Go.Proofs.YtegenalcheooeaaGreat
