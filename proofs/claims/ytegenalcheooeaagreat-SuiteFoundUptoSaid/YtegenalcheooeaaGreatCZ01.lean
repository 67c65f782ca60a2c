/- Of the proof of a law of the suites: Say13. -/
import Derived.Test.YtegenalcheooeaaGreatAF04
import Derived.Test.YtegenalcheooeaaGreatCW01
import Derived.Test.YtegenalcheooeaaGreatCY01
set_option linter.unusedSectionVars false
set_option linter.unusedSimpArgs false
set_option linter.unusedVariables false
namespace Go.Proofs.YtegenalcheooeaaGreat
open Go.RowKit
attribute [local go_sem] cell?_exto
section
open Go.ChangeShapes Go.WideShapes Go.ChangeAt
theorem rec25_13:Tryz.prog.readableRec 25=true:=by kernel_rfl
theorem row25_13:25<Tryz.prog.types.size:=of_decide_eq_true (by kernel_rfl)
theorem rec34_13:Tryz.prog.readableRec 34=true:=by kernel_rfl
theorem row34_13:34<Tryz.prog.types.size:=of_decide_eq_true (by kernel_rfl)
theorem rec96_13:Tryz.prog.readableRec 96=true:=by kernel_rfl
theorem row96_13:96<Tryz.prog.types.size:=of_decide_eq_true (by kernel_rfl)
set_option maxRecDepth 100000 in
theorem qvr (H:Type) (enc:TypeId×Value->H) (W:World) (base:Nat) (args:Array Value) (ds gs:List (DataW H)) (before:List MemPlace)
  (hval:∀ (j:Nat) t v,Tryz.f13.params[j]? = some t->args[j]? = some v->Value.okWide Tryz.prog W .any base t v)
  (hW:DataW.Whole enc Tryz.prog Tryz.f13.params.toList Rows.suiteFoundSpec.vars false W args.toList ds gs before) (hk:Rows.uptoSmall H (ds++gs)=true) :
  Calls Tryz.prog 13 args W fun e W'=>∃ v,e = .returned v∧Rows.suiteFoundSpec.post enc Tryz.prog Tryz.f13 false true false false W args v W':=by
 have hW':=hW
 obtain ⟨p,q,hA0,hV,rfl,hfz,hnd⟩:=hW
 have hA:DataW.TrodAll enc Tryz.prog W 0 (fun _=>true) true Tryz.f13.params.toList args.toList ds p:=hA0
 have hlt:=hW'.lt
 rw [Tryz.params13] at hA hval
 obtain ⟨v0,vs0,d0,ds0,p0,q0,hargs,rfl,rfl,h0,r0⟩:=trodAll_cons hA
 obtain ⟨v1,vs1,d1,ds1,p1,q1,rfl,rfl,rfl,h1,r1⟩:=trodAll_cons r0
 obtain ⟨v2,vs2,d2,ds2,p2,q2,rfl,rfl,rfl,h2,r2⟩:=trodAll_cons r1
 obtain ⟨v3,vs3,d3,ds3,p3,q3,rfl,rfl,rfl,h3,r3⟩:=trodAll_cons r2
 obtain ⟨rfl,rfl,rfl⟩:=trodAll_nil r3
 obtain rfl:args = #[v0,v1,v2,v3]:=by cases args;simp_all
 obtain ⟨rfl,rfl⟩:=trodVars_none hV
 have hk':Rows.uptoBulkAll [d0,d1,d2,d3]<=1048576:=of_decide_eq_true hk
 simp only [Rows.uptoBulkAll] at hk'
 have hv0:=hval 0 25 v0 rfl rfl
 obtain ⟨cs0,rfl⟩:∃ cs:Array Value,v0 = .agg cs:=by
  unfold Value.okWide at hv0
  rw [Tryz.underlying25] at hv0
  obtain ⟨cs,h,_⟩:=hv0
  exact ⟨cs,h⟩
 obtain ⟨fuel0,hf0⟩:=id h0
 have hcs0:(Value.agg cs0).cells.toList=cs0.toList:=rfl
 obtain ⟨hl0,s0,hs0,hsz0⟩:=open_sy fuel0 _ _ hf0
 rw [hcs0] at hs0
 have hsm0:qer s0:=fun x hx=>by have h1:=hsz0 x hx;have h2:x.size<=Rows.uptoBulk d0:=h1;omega
 have hv1:=hval 1 34 v1 rfl rfl
 obtain ⟨A1,m1,c1,rfl⟩:∃ A m c,v1 = .slice A m c:=by
  unfold Value.okWide at hv1
  rw [Tryz.underlying34] at hv1
  cases v1 <;> first | exact ⟨_,_,_,rfl⟩ | exact False.elim hv1
 obtain ⟨fuel1,hf1⟩:=id h1
 obtain ⟨s1,u1,hu1,hs1⟩:=open_tes fuel1 _ _ hf1
 obtain rfl : .slice A1 m1 c1=u1:=by injection hu1
 have hv2:=hval 2 96 v2 rfl rfl
 obtain ⟨A2,m2,c2,rfl⟩:∃ A m c,v2 = .slice A m c:=by
  unfold Value.okWide at hv2
  rw [Tryz.underlying96] at hv2
  cases v2 <;> first | exact ⟨_,_,_,rfl⟩ | exact False.elim hv2
 obtain ⟨fuel2,hf2⟩:=id h2
 obtain ⟨s2,u2,hu2,hs2⟩:=open_mus fuel2 _ _ hf2
 obtain rfl : .slice A2 m2 c2=u2:=by injection hu2
 obtain ⟨n3,rfl,rfl,rfl,w3⟩:=open_int Tryz.underlying3 (hval 3 3 v3 rfl rfl) h3
 have hw:=found13_c W s0 hsm0 cs0.toList hs0 s1 _ hs1 s2 _ hs2 n3
 simp only [Array.toArray_toList] at hw
 clear hA0
 simp only [List.append_nil,List.nil_append] at hW' hk hlt
 refine hw.mono fun e W' ⟨he,hx⟩=>?_
 subst he
 exact ⟨_,rfl,post_ext (pa:=(p0++(p1++p2))) (pv:=[]) hW' hx (fun _ _ _=>trodAll_cons_mk (shut_bool Tryz.underlying4 _) trodAll_mk0)
  (fun sp hsp=>by
   have e:(p0++(p1++p2))=(p0++(p1++(p2++(([]:List MemPlace)++[])))):=by simp
   rw [e]
   exact (trodAll_cons_mk (stays rec25_13 row25_13 h0 hx (fun p hp=>hlt p (by simp [hp])) sp (fun p hp=>hsp p (by simp [hp]))) (trodAll_cons_mk (stays rec34_13 row34_13 h1 hx (fun p hp=>hlt p (by simp [hp])) sp (fun p hp=>hsp p (by simp [hp]))) (trodAll_cons_mk (stays rec96_13 row96_13 h2 hx (fun p hp=>hlt p (by simp [hp])) sp (fun p hp=>hsp p (by simp [hp]))) (trodAll_cons_mk (shut_int Tryz.underlying3 w3) trodAll_mk0)))))
  (fun _ _=>rfl) (by simp) (ok_one (by kernel_rfl) rfl (okWide_bool_mk Tryz.underlying4 _))⟩
set_option maxRecDepth 100000 in
theorem lifted13 (os:Os) (started:os.Started) (H:Type) (enc:TypeId×Value->H) (F:Stop.Interp) :
  ReturnsInHanded {} Tryz.checked os 13 .any ((Rows.OpenSpec.upto Rows.suiteFoundSpec).pre6 enc Tryz.prog Tryz.f13 Rows.suiteFoundUptoRow.domain false) (((Rows.OpenSpec.upto Rows.suiteFoundSpec).at F).post enc Tryz.prog Tryz.f13 false true false false):=by
 refine returnsInHanded_of_cond (C:=Tryz.checked) (s:=Rows.OpenSpec.upto Rows.suiteFoundSpec) (k:=Rows.uptoSmall) rfl own started (by kernel_rfl) Tryz.func13
  (OpenSpec.witness (enc:=enc) (C:=Tryz.checked) (s:=Rows.OpenSpec.upto Rows.suiteFoundSpec) (k:=Rows.uptoSmall) rfl false ⟨#[],#[(.agg #[.int .i64 0,.slice none 0 0,.slice none 0 0]),.slice none 0 0,.slice none 0 0,.int .i64 0],[]⟩ 8 (by kernel_rfl) (by kernel_rfl) (by kernel_rfl)
   (x:=([.agg [.lit (.int .i64 0),.nil,.nil],.nil,.nil,.lit (.int .i64 0)],[],[])) (by kernel_rfl) rfl (by kernel_rfl)) ?_
 intro W base args ds gs before hval hW _ hk _
 exact qvr H enc W base args ds gs before hval hW hk
theorem wrap13:Tryz.f13.isWrapper Tryz.pinned.checked.prog Rows.suiteFoundUptoRow.wrapper Rows.suiteFoundUptoRow.mainSum:=by unfold Func.isWrapper;first | (rw [if_pos (by decide +kernel)];kernel_rfl) | (rw [if_neg (by decide +kernel)];exact ⟨rfl,rfl⟩)
theorem inst13:Tryz.f13.isInstance Tryz.pinned.checked.prog Rows.suiteFoundUptoRow.origin Rows.suiteFoundUptoRow.targs:=of_decide_eq_true (by kernel_rfl)
theorem proved13:Rows.SuiteFoundUptoSaid :=
 OpenClaim.holds_of_cond 13 Tryz.f13 rfl rfl rfl rfl rfl rfl rfl ⟨rfl,rfl,rfl,rfl,rfl⟩ rfl rfl rfl rfl rfl named13 Tryz.func13 closed13 inst13 wrap13
  (fun os started H enc _ F=>lifted13 os started H enc F)
#print axioms proved13
end
end Go.Proofs.YtegenalcheooeaaGreat
