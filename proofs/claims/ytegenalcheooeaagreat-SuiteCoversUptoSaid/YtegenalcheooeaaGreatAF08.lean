/- Of the proof of a law of the suites: LCompF. -/
import Derived.Test.YtegenalcheooeaaGreatAF07
import Derived.Test.YtegenalcheooeaaGreatB13
import Derived.Laws.StructEq
set_option linter.unusedSectionVars false
set_option linter.unusedSimpArgs false
set_option linter.unusedVariables false
namespace Go.Proofs.YtegenalcheooeaaGreat
open Go.RowKit
attribute [local go_sem] cell?_exto
set_option maxHeartbeats 16000000
set_option maxRecDepth 100000
section
open Go.Shelf
theorem qab.get3 {α:Type} {R:Rdr α} {e:TypeId} {f:Nat} {T:Nat->Prop} {w:World} {xs:List α} {g n q:Nat} (h:qab R 3 e f T w xs (.slice (some ⟨g,0,none⟩) n q)) (i:Nat) (hi:i<xs.length) :
  ∃u v z,(w.cell? ⟨g,i*3,none⟩=some u/\w.cell? ⟨g,i*3+1,none⟩=some v/\w.cell? ⟨g,i*3+2,none⟩=some z)/\R (λb=>T b/\b≠g) w xs[i] [u,v,z]/\w.frozen? ⟨g,i*3,none⟩=false/\w.frozen? ⟨g,i*3+1,none⟩=false/\w.frozen? ⟨g,i*3+2,none⟩=false:=by
 obtain⟨C,c,B⟩:=h
 have hn:n=xs.length:=by
  rcases c.2 with⟨o,_⟩ | ⟨L,A,D,o,_⟩
  .simp at o
  simp at o;exact o.2.1
 subst hn;rw[qgd]at B;obtain⟨y,I,J,r⟩:=B.at i hi
 obtain⟨u,v,z,rfl⟩:∃u v z,y=[u,v,z]:=by
  match y,I with
  | [u,v,z],_=>exact⟨u,v,z,rfl⟩
 have E:=r 0 (by decide);have F:=r 1 (by decide);have G:=r 2 (by decide);refine⟨u,v,z,⟨?_,?_,?_⟩,J,c.frozenAt _,c.frozenAt _,c.frozenAt _⟩
 .rw [c.cellAt _ (by omega)];simpa using E
 .rw [c.cellAt _ (by omega)];simpa using F
 rw[c.cellAt _ (by omega)];simpa using G
theorem qab.put3 {e:TypeId} {o:Nat} {T:Nat->Prop} {w:World} {xs:List Ed} {g n u:Nat} (h:qab REd 3 e o T w xs (.slice (some ⟨g,0,none⟩) n u)) (hn:n=xs.length) (i:Nat) (hi:i<xs.length) (x:Ed) (z:I64 x.f/\I64 x.l/\I64 x.t) :
  qab REd 3 e o T (((w.setCell ⟨g,i*3,none⟩ (.int .i64 x.f)).setCell ⟨g,i*3+1,none⟩ (.int .i64 x.l)).setCell ⟨g,i*3+2,none⟩ (.int .i64 x.t)) (xs.set i x) (.slice (some ⟨g,0,none⟩) n u):=by
 subst hn
 have D:=qab.put REd.good h i 0 (.int .i64 x.f) ⟨x.f,xs[i].l,xs[i].t⟩ (by decide) hi λcs c=>by
  obtain⟨_,v,y,rfl⟩:=c;exact⟨z.1,v,y,rfl⟩
 have q:(xs.set i ⟨x.f,xs[i].l,xs[i].t⟩).length=xs.length:=List.length_set
 have B:=qab.put (xs:=xs.set i ⟨x.f,xs[i].l,xs[i].t⟩) REd.good (by rw[q];exact D) i 1 (.int .i64 x.l) ⟨x.f,x.l,xs[i].t⟩ (by decide) (by rw[q];exact hi) λcs c=>by
  obtain⟨A,v,y,rfl⟩:=c;simp only[List.getElem_set_self]at *;exact⟨A,z.2.1,y,rfl⟩
 rw[List.set_set,q]at B;have r:(xs.set i ⟨x.f,x.l,xs[i].t⟩).length=xs.length:=List.length_set
 have C:=qab.put (xs:=xs.set i ⟨x.f,x.l,xs[i].t⟩) REd.good (by rw[r];exact B) i 2 (.int .i64 x.t) x (by decide) (by rw[r];exact hi) λcs c=>by
  obtain⟨A,v,y,rfl⟩:=c;simp only[List.getElem_set_self]at *;exact⟨A,v,z.2.2,rfl⟩
 rw[List.set_set,r]at C;simpa using C
theorem qab.cells3 {α:Type} {R:Rdr α} {e:TypeId} {c:Nat} {T:Nat->Prop} {w:World} {xs:List α} {g n f:Nat} (h:qab R 3 e c T w xs (.slice (some ⟨g,0,none⟩) n f)) (j:Nat) (C:j<xs.length*3) :
  (w.cell? ⟨g,j,none⟩).isSome=true/\w.frozen? ⟨g,j,none⟩=false:=by
 obtain⟨u,v,z,⟨y,A,B⟩,_,o,q,r⟩:=h.get3 (j / 3) (by omega);have:j=j / 3*3\/j=j / 3*3+1\/j=j / 3*3+2:=by omega
 rcases this with e | e | e
 .rw [e];exact⟨by rw[y];rfl,o⟩
 .rw [e];exact⟨by rw[A];rfl,q⟩
 rw[e];exact⟨by rw[B];rfl,r⟩
theorem zero88:∀w,(zeroValue 88).run Tryz.prog w = .ok (.agg #[.int .i64 0,.int .i64 0,.int .i64 0]) w:=λ_=>by kernel_rfl
theorem quj (W:World) (x y:Ed):(Op.equalIn 10000 88 (.agg #[.int .i64 x.f,.int .i64 x.l,.int .i64 x.t]) (.agg #[.int .i64 y.f,.int .i64 y.l,.int .i64 y.t])).run Tryz.prog W = .ok (qbw x y) W:=by
 have hS:Tryz.prog.underlying 88=some (.struct (Tryz.prog.fieldsOf 88)):=by kernel_rfl
 have c:Tryz.prog.stoodInHeld 88=false:=by kernel_rfl
 have u3:=Tryz.underlying3;rw[show(10000:Nat)=9999+1 from rfl,run_equalIn_agg W 9999 88 _ _ hS c];simp only[Program.fieldsOf,Tryz.underlying88,qbw];go_simp
 by_cases g:x.f=y.f <;> by_cases o:x.l=y.l <;> by_cases q:x.t=y.t <;> simp_all
theorem qul (W:World) (x y:Ed) (b:Bool) (h:qbw x y=b):(binOp .eql 88 (.agg #[.int .i64 x.f,.int .i64 x.l,.int .i64 x.t]) (.agg #[.int .i64 y.f,.int .i64 y.l,.int .i64 y.t])).run Tryz.prog W = .ok (.bool b) W:=by
 rw[run_eql_struct,quj,h];rfl
theorem run_ne_ed (W:World) (x y:Ed) (b:Bool) (h:qbw x y=b):(binOp .neq 88 (.agg #[.int .i64 x.f,.int .i64 x.l,.int .i64 x.t]) (.agg #[.int .i64 y.f,.int .i64 y.l,.int .i64 y.t])).run Tryz.prog W = .ok (.bool (!b)) W:=by
 rw[run_neq_struct,quj,h];rfl
theorem qzn (G:Nat) (T:Nat->Prop) (l:List Ed) (v:Value) (w:World) (o:qab REd 3 88 G T w l v) (aw:l.length<=1000000000) :
  Calls Tryz.prog 249 #[v] w λe w'=>∃A c,e = .returned (.slice A (qef l).length c)/\qab REd 3 88 G T w' (qef l) (.slice A (qef l).length c)/\Bt (λb=>v.ownBlock=some b) w w':=by
 by_cases h2:l.length<2
 .have hc:Hid (qef l=l):=by
   show qa2 qbw l=l;clear o
   cases l with
   | nil=>rfl
   | cons x xs =>
    cases xs with
    | nil=>rfl
    | cons y ys=>simp at h2;omega
  obtain⟨A,c,rfl,_,_⟩:=(o.sl REd.good (by decide)).val;have HO:=Hd o;clear o
  go_enter Tryz.func249,Tryz.ntmps249
  go_wp2_with fail
  go_ret;rw[hc.out];exact⟨A,c,rfl,HO.out,Bt.refl _ _⟩
 obtain⟨g,z,rfl⟩:∃g z,v = .slice (some ⟨g,0,none⟩) l.length z:=by
  obtain⟨ax,h1,_⟩:=o;exact Joins.ownsRow_form h1 (by omega)
 have av:l.length<=z/\z<=9223372036854775807:=by
  obtain⟨A,c,I,h3,h4⟩:=(o.sl REd.good (by decide)).val;injection I with _ _ I
  exact⟨by omega,by omega⟩
 have hZ:(λb=>(Value.slice (some ⟨g,0,none⟩) l.length z).ownBlock=some b)=λb=>b=g:=by funext b;simp[Value.ownBlock,eq_comm]
 rw[hZ];have HO:=Hd o;clear o hZ
 go_enter Tryz.func249,Tryz.ntmps249
 go_wp2_with fail
 go_loopw [3] (λi wr=>∃k:Nat,1<=k/\k<=l.length/\i = .int .i64 k/\Ext w wr/\Hid (qef (l.take k)=l.take k)) (λi _=>l.length-(intOf i).toNat)
 case atStart=>exact⟨1,Nat.le_refl _,by omega,rfl,Ext.refl _,by
  show _=_
  cases l with
  | nil=>simp at h2
  | cons x xs=>simp[qef,qa2,qc6]⟩
 obtain⟨k,ar,hk,rfl,hE,hf⟩:=hrel
 by_cases af:k<l.length
 .have hO:=HO.out.ext REd.good hE;obtain⟨u1,u2,u3,⟨a0,N,O⟩,r1,_⟩:=hO.get3 k af;obtain⟨v1,v2,v3,⟨Y,b1,b2⟩,r2,_⟩:=hO.get3 (k-1) (by omega);obtain⟨_,_,_,e1⟩:=r1;obtain⟨_,_,_,e2⟩:=r2;simp only[List.cons.injEq,and_true]at e1 e2;obtain⟨rfl,rfl,rfl⟩:=e1;obtain⟨rfl,rfl,rfl⟩:=e2;have E:=λW b (hh:qbw l[k] l[k-1]=b)=>qul W l[k] l[k-1] b hh
  obtain⟨x,u⟩:=nm (l[k]);obtain⟨y,hy⟩:=nm (l[k-1]);have F:=qj2 qbw l k ar af;have aG:(0:Int)<=(k:Int)-1:=by omega
  have aH:((k:Int)-1).toNat=k-1:=by omega
  have aI:(k:Int)-1<(l.length:Int):=by omega
  have ad:=Hd hO
  by_cases I:qbw l[k] l[k-1]=true
  .rw [if_pos I]at F;have M:=Hd F;rw[u,hy]at I;rw[u]at a0 N O;rw[hy]at Y b1 b2;rw[u,hy]at E;have J:=λW=>E W true I
   clear F hO I u hy E
   go_wp2_with fail
   (refine qap ?_;(repeat (first | go_big_quiet_step (fail) | quiet_step (fail)));refine wpQuiet_nil ?_)
   intro w2 X;have ap:=Hd (ad.out.ext REd.good X);have aq:=hE.trans' X;clear X ad a0 N O Y b1 b2 J
   go_wp2_with fail
   go_loopw [3,5] (λvi v2 an=>∃d i:Nat,1<=d/\k+d<=l.length/\vi = .int .i64 (i:Nat)/\v2 = .int .i64 (d:Nat)/\i<k+d/\Hid ((qa2 qbw (l.take (k+d))).length=i/\qab REd 3 88 G T an (qb5 qbw l (k+d)) (.slice (some ⟨g,0,none⟩) l.length z))/\Bt (λb=>b=g) w an) (λ_ v2 _=>l.length-k-(intOf v2).toNat)
   case atStart =>
    have ah:qa2 qbw (l.take k)=l.take k:=hf.out;have hY:qb5 qbw l (k+1)=l:=by rw[qb5,M.out,ah,List.length_take,Nat.min_eq_left hk,List.take_append_drop]
    refine⟨1,k,Nat.le_refl _,by omega,rfl,rfl,by omega,⟨by rw[M.out,ah,List.length_take,Nat.min_eq_left hk],by rw[hY];exact ap.out⟩,aq.bt⟩
   obtain⟨d,i,aD,hd,rfl,rfl,hi,hR,hB⟩:=hrel
   by_cases C:k+d<l.length
   .have ak:k+(d-1)<l.length:=by omega
    have aa:1<=k+d:=by omega
    have al:i<l.length:=by omega
    obtain⟨r,q⟩:=hR.out;obtain⟨u1,u2,u3,⟨a0,N,O⟩,r1,_⟩:=q.get3 (k+d) (by rw[qcd];exact C);obtain⟨v1,v2,v3,⟨Y,b1,b2⟩,r2,_⟩:=q.get3 (k+(d-1)) (by rw[qcd];omega);rw[Nat.add_mul]at a0 N O Y b1 b2;rw[qim qbw l (k+d) (k+d) (by omega) C]at r1;rw[qim qbw l (k+d) (k+(d-1)) (by omega) ak]at r2
    have ae:qbw l[k+d] l[k+(d-1)]=qbw l[k+d] (l[k+d-1]'(by omega)):=by
     have u:k+(d-1)=k+d-1:=by omega
     simp only[u]
    have V:=λh=>qmt qbw l (k+d) aa C h
    have U:=λh=>qm7 qbw l (k+d) aa C h (by rw[r];exact al)
    rw[<- ae]at V U;obtain⟨i1,i2,i3,e1⟩:=r1;obtain⟨_,_,_,e2⟩:=r2;simp only[List.cons.injEq,and_true]at e1 e2;obtain⟨rfl,rfl,rfl⟩:=e1;obtain⟨rfl,rfl,rfl⟩:=e2;have E:=λW b (hh:qbw l[k+d] l[k+(d-1)]=b)=>run_ne_ed W l[k+d] l[k+(d-1)] b hh
    obtain⟨x,u⟩:=nm (l[k+d]);obtain⟨y,hy⟩:=nm (l[k+(d-1)]);have aC:(0:Int)<=(d:Int)-1:=by omega
    have aE:((d:Int)-1).toNat=d-1:=by omega
    by_cases B:qbw l[k+d] l[k+(d-1)]=true
    .have L:=Hd (V B);have ac:=Hd q;have D:=Hd r;rw[u,hy]at B;rw[u]at a0 N O i1 i2 i3;rw[hy]at Y b1 b2;rw[u,hy]at E;have J:=λW=>E W true B
     clear q V U ae r hR B u hy E
     go_wp2_with fail
     (refine qap ?_;(repeat (first | go_big_quiet_step (fail) | quiet_step (fail)));refine wpQuiet_nil ?_)
     intro w5 f
     go_wp2_with fail
     go_roundw
     case rel =>
      refine⟨d+1,i,by omega,by omega,rfl,by go_num,by omega,⟨?_,?_⟩,hB.ext f⟩
      .rw [show k+(d+1)=k+d+1 from by omega,L.out.2];exact D.out
      rw[show k+(d+1)=k+d+1 from by omega,L.out.1];exact ac.out.ext REd.good f
     simp[intOf];omega
    have ab:=Hd (U (eq_false_of_ne_true B));obtain⟨u6,u7,u8,⟨d6,d7,d8⟩,_,f6,f7,f8⟩:=q.get3 i (by rw[qcd];omega);have ac:=Hd q;have D:=Hd r;rw[u,hy]at B;rw[u]at a0 N O i1 i2 i3;rw[hy]at Y b1 b2;rw[u,hy]at E;have J:=λW=>E W false (eq_false_of_ne_true B)
    have ao:=Hd u;clear q V U ae r hR B u hy E
    go_wp2_with fail
    (refine qap ?_;(repeat (first | go_big_quiet_step (fail) | quiet_step (fail)));refine wpQuiet_nil ?_)
    intro w5 f;have a6:=Ext.keep f a0;have a7:=Ext.keep f N;have a8:=Ext.keep f O;have g6:=qdy f (World.block_lt_of_cell? _ _ d6) f6;have g7:=qdy f (World.block_lt_of_cell? _ _ d7) f7;have g8:=qdy f (World.block_lt_of_cell? _ _ d8) f8;have ay:=Ext.keep f d6;have az:=Ext.keep f d7;have aA:=Ext.keep f d8;clear a0 N O Y b1 b2 d6 d7 d8 f6 f7 f8 J
    go_wp2_with fail
    go_roundw
    case rel =>
     have ag:=qab.put3 (ac.out.ext REd.good f) (by rw[qcd]) i (by rw[qcd];omega) x ⟨i1,i2,i3⟩;refine⟨d+1,i+1,by omega,by omega,by go_num,by go_num,by omega,⟨?_,?_⟩,Bt.set (Z:=λb=>b=g) (p:=⟨g,i*3+2,none⟩) (Bt.set (Z:=λb=>b=g) (p:=⟨g,i*3+1,none⟩) (Bt.set (Z:=λb=>b=g) (p:=⟨g,i*3,none⟩) (hB.ext f) (.inr rfl) _) (.inr rfl) _) (.inr rfl) _⟩
     .rw [show k+(d+1)=k+d+1 from by omega,ab.out.2,List.length_append,D.out];rfl
     rw[show k+(d+1)=k+d+1 from by omega,ab.out.1,D.out,ao.out];exact ag
    simp[intOf];omega
   obtain⟨r,q⟩:=hR.out;have ai:k+d=l.length:=by omega
   rw[ai,List.take_length]at r;rw[ai]at q;have aF:i<l.length:=by omega
   obtain⟨zs,aB⟩:=qqb wr 23 88 0 (.agg #[.int .i64 0,.int .i64 0,.int .i64 0]) 3 Tryz.underlying23 zero88 rfl (by decide) (by decide) g (i*3) (l.length-i) (z-i) (by omega) (λj hj=>q.cells3 (i*3+j) (by rw[qcd];omega));have hcut:=Hd (q.cut REd.good (by rw[qcd]) i (by omega) zs (i*3) (by omega))
   have am:Hid (qef l=(qb5 qbw l l.length).take i):=by
    show qa2 qbw l=_;rw[qb5,List.take_length,List.take_append_of_le_length (by omega),<- r,List.take_length]
   have D:=Hd r;clear q r hR
   go_wp2_with fail
   go_ret;have aj:(qef l).length=i:=D.out;refine⟨some ⟨g,0,none⟩,z,by rw[aj];rfl,?_,hB.trans hcut.out.2⟩;rw[aj,am.out];exact hcut.out.1
  rw[if_neg I]at F;have M:=Hd F;rw[u,hy]at I;rw[u]at a0 N O;rw[hy]at Y b1 b2;rw[u,hy]at E;have J:=λW=>E W false (eq_false_of_ne_true I)
  clear F hO I u hy ad E
  go_wp2_with fail
  (refine qap ?_;(repeat (first | go_big_quiet_step (fail) | quiet_step (fail)));refine wpQuiet_nil ?_)
  intro w2 X
  go_wp2_with fail
  go_roundw
  case rel =>
   refine⟨k+1,by omega,by omega,by go_num,bel,?_⟩;show qa2 qbw _=_;rw[M.out,show qa2 qbw (l.take k)=l.take k from hf.out,List.take_succ_eq_append_getElem af]
  simp[intOf];omega
 have au:Hid (qef l=l):=by
  show _=_;have:=hf.out
  rwa [List.take_of_length_le (by omega)]at this
 go_wp2_with fail
 go_ret;rw[au.out];exact⟨some ⟨g,0,none⟩,z,rfl,HO.out.ext REd.good hE,hE.bt⟩
theorem compOK {l:List Ed} (h:l.length<=1000000000):qmk l:=λf v w r=>(qzn f (λ_=>False) l v w r h).mono λe u ⟨A,c,q,g,o⟩=>⟨_,q,g,o⟩
end
end Go.Proofs.YtegenalcheooeaaGreat
