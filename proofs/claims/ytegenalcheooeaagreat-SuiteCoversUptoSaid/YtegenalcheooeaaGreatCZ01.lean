/- Of the proof of a law of the suites: Say12. -/
import Derived.Test.YtegenalcheooeaaGreatAF04
import Derived.Test.YtegenalcheooeaaGreatCW01
import Derived.Test.YtegenalcheooeaaGreatCY01
set_option linter.unusedSectionVars false
set_option linter.unusedSimpArgs false
set_option linter.unusedVariables false
namespace Go.Proofs.YtegenalcheooeaaGreat
open Go.RowKit
attribute [local go_sem] cell?_exto
set_option maxHeartbeats 16000000
set_option maxRecDepth 100000
section
open Go.ChangeShapes Go.WideShapes Go.ChangeAt
theorem rec25_12:Tryz.prog.readableRec 25=true:=by kernel_rfl
theorem row25_12:25<Tryz.prog.types.size:=of_decide_eq_true (by kernel_rfl)
theorem rec34_12:Tryz.prog.readableRec 34=true:=by kernel_rfl
theorem row34_12:34<Tryz.prog.types.size:=of_decide_eq_true (by kernel_rfl)
theorem rec94_12:Tryz.prog.readableRec 94=true:=by kernel_rfl
theorem row94_12:94<Tryz.prog.types.size:=of_decide_eq_true (by kernel_rfl)
theorem rec96_12:Tryz.prog.readableRec 96=true:=by kernel_rfl
theorem row96_12:96<Tryz.prog.types.size:=of_decide_eq_true (by kernel_rfl)
theorem qyg (H:Type) (enc:TypeId×Value->H) (W:World) (base:Nat) (a:Array Value) (V gs:List (DataW H)) (g:List MemPlace)
  (b:∀(j:Nat) t v,Tryz.f12.params[j]? = some t->a[j]? = some v->Value.okWide Tryz.prog W .any base t v)
  (hW:DataW.Whole enc Tryz.prog Tryz.f12.params.toList Rows.suiteCoversSpec.vars false W a.toList V gs g) (hk:Rows.uptoSmall H (V++gs)=true) :
  Calls Tryz.prog 12 a W λe W'=>∃v,e = .returned v/\Rows.suiteCoversSpec.post enc Tryz.prog Tryz.f12 false true false false W a v W':=by
 have D:=hW;obtain⟨p,q,L,hV,rfl,am,ap⟩:=hW;have hA:DataW.TrodAll enc Tryz.prog W 0 (λ_=>true) true Tryz.f12.params.toList a.toList V p:=L;have f:=D.lt;rw[Tryz.params12]at hA b;obtain⟨v0,aq,d0,ai,p0,q0,Y,rfl,rfl,h0,r0⟩:=trodAll_cons hA;obtain⟨v1,au,d1,aj,p1,q1,rfl,rfl,rfl,T,r1⟩:=trodAll_cons r0;obtain⟨v2,av,d2,ak,p2,q2,rfl,rfl,rfl,X,r2⟩:=trodAll_cons r1;obtain⟨v3,aw,d3,al,p3,q3,rfl,rfl,rfl,h3,r3⟩:=trodAll_cons r2;obtain⟨rfl,rfl,rfl⟩:=trodAll_nil r3;obtain rfl:a = #[v0,v1,v2,v3]:=by cases a;simp_all
 obtain⟨rfl,rfl⟩:=trodVars_none hV;have ad:Rows.uptoBulkAll [d0,d1,d2,d3]<=1048576:=of_decide_eq_true hk;simp only[Rows.uptoBulkAll]at ad;have E:=b 0 25 v0 rfl rfl
 obtain⟨r,rfl⟩:∃o:Array Value,v0 = .agg o:=by
  unfold Value.okWide at E;rw[Tryz.underlying25]at E;obtain⟨o,h,_⟩:=E;exact⟨o,h⟩
 obtain⟨w,Z⟩:=id h0;have M:(Value.agg r).cells.toList=r.toList:=rfl;obtain⟨an,s0,O,S⟩:=open_sy w _ _ Z;rw[M]at O;have R:qfk s0:=λx J=>by have T:=S x J;have X:x.size<=Rows.uptoBulk d0:=T;omega
 have F:=b 1 34 v1 rfl rfl
 obtain⟨A1,m1,c1,rfl⟩:∃A m c,v1 = .slice A m c:=by
  unfold Value.okWide at F;rw[Tryz.underlying34]at F
  cases v1 <;> first | exact⟨_,_,_,rfl⟩ | exact False.elim F
 obtain⟨y,aa⟩:=id T;obtain⟨s1,u1,ag,ae⟩:=open_tes y _ _ aa;obtain rfl : .slice A1 m1 c1=u1:=by injection ag
 have G:=b 2 96 v2 rfl rfl
 obtain⟨A2,m2,c2,rfl⟩:∃A m c,v2 = .slice A m c:=by
  unfold Value.okWide at G;rw[Tryz.underlying96]at G
  cases v2 <;> first | exact⟨_,_,_,rfl⟩ | exact False.elim G
 obtain⟨z,ab⟩:=id X;obtain⟨s2,u2,ah,af⟩:=open_mus z _ _ ab;obtain rfl : .slice A2 m2 c2=u2:=by injection ah
 have I:=b 3 94 v3 rfl rfl
 obtain⟨u,rfl⟩:∃o:Array Value,v3 = .agg o:=by
  unfold Value.okWide at I;rw[Tryz.underlying94]at I;obtain⟨o,h,_⟩:=I;exact⟨o,h⟩
 obtain⟨B,ac⟩:=id h3;have N:(Value.agg u).cells.toList=u.toList:=rfl;obtain⟨ao,s3,P,_⟩:=open_mu B _ _ ac;rw[N]at P;have hw:=qyk W s0 R r.toList O s1 _ ae s2 _ af s3 u.toList P;simp only[Array.toArray_toList]at hw;clear L;simp only[List.append_nil,List.nil_append]at D hk f;refine hw.mono λe W' ⟨he,J⟩=>?_
 subst he
 exact⟨_,rfl,post_ext (U:=(p0++(p1++(p2++p3)))) (M:=[]) D J (λ_ _ _=>trodAll_cons_mk (shut_bool Tryz.underlying4 _) trodAll_mk0)
  (λU i=>by
   have e:(p0++(p1++(p2++p3)))=(p0++(p1++(p2++(p3++[])))):=by simp
   rw[e]
   exact(trodAll_cons_mk (stays rec25_12 row25_12 h0 J (λp d=>f p (by simp[d])) U (λp d=>i p (by simp[d]))) (trodAll_cons_mk (stays rec34_12 row34_12 T J (λp d=>f p (by simp[d])) U (λp d=>i p (by simp[d]))) (trodAll_cons_mk (stays rec96_12 row96_12 X J (λp d=>f p (by simp[d])) U (λp d=>i p (by simp[d]))) (trodAll_cons_mk (stays rec94_12 row94_12 h3 J (λp d=>f p (by simp[d])) U (λp d=>i p (by simp[d]))) trodAll_mk0)))))
  (λ_ _=>rfl) (by simp) (ok_one (by kernel_rfl) rfl (okWide_bool_mk Tryz.underlying4 _))⟩
theorem lifted12 (e:Os) (a:e.Started) (H:Type) (enc:TypeId×Value->H) (F:Stop.Interp) :
  ReturnsInHanded {} Tryz.checked e 12 .any ((Rows.OpenSpec.upto Rows.suiteCoversSpec).pre6 enc Tryz.prog Tryz.f12 Rows.suiteCoversUptoRow.domain false) (((Rows.OpenSpec.upto Rows.suiteCoversSpec).at F).post enc Tryz.prog Tryz.f12 false true false false):=by
 refine returnsInHanded_of_cond (C:=Tryz.checked) (s:=Rows.OpenSpec.upto Rows.suiteCoversSpec) (k:=Rows.uptoSmall) rfl own a (by kernel_rfl) Tryz.func12
  (OpenSpec.witness (enc:=enc) (C:=Tryz.checked) (s:=Rows.OpenSpec.upto Rows.suiteCoversSpec) (k:=Rows.uptoSmall) rfl false ⟨#[],#[(.agg #[.int .i64 0,.slice none 0 0,.slice none 0 0]),.slice none 0 0,.slice none 0 0,(.agg #[.int .i64 0,.int .i64 0,.int .i64 0,.int .i64 0])],[]⟩ 8 (by kernel_rfl) (by kernel_rfl) (by kernel_rfl)
   (x:=([.agg [.lit (.int .i64 0),.nil,.nil],.nil,.nil,.agg [.lit (.int .i64 0),.lit (.int .i64 0),.lit (.int .i64 0),.lit (.int .i64 0)]],[],[])) (by kernel_rfl) rfl (by kernel_rfl)) ?_
 intro W base c f g b d i _ j _;exact qyg H enc W base c f g b d i j
theorem wrap12:Tryz.f12.isWrapper Tryz.pinned.checked.prog Rows.suiteCoversUptoRow.wrapper Rows.suiteCoversUptoRow.mainSum:=by unfold Func.isWrapper;first | (rw[if_pos (by decide +kernel)];kernel_rfl) | (rw[if_neg (by decide +kernel)];exact⟨rfl,rfl⟩)
theorem inst12:Tryz.f12.isInstance Tryz.pinned.checked.prog Rows.suiteCoversUptoRow.origin Rows.suiteCoversUptoRow.targs:=of_decide_eq_true (by kernel_rfl)
theorem proved12:Rows.SuiteCoversUptoSaid :=
 OpenClaim.holds_of_cond 12 Tryz.f12 rfl rfl rfl rfl rfl rfl rfl ⟨rfl,rfl,rfl,rfl,rfl⟩ rfl rfl rfl rfl rfl named12 Tryz.func12 closed12 inst12 wrap12
  (λb a H enc _ F=>lifted12 b a H enc F)
#print axioms proved12
end
end Go.Proofs.YtegenalcheooeaaGreat
