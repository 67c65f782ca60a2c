/- Of the proof of a law of the suites: Say11. -/
import Derived.Test.YtegenalcheooeaaGreatB13
import Derived.Test.YtegenalcheooeaaGreatCW01
import Derived.Test.YtegenalcheooeaaGreatCY01
set_option linter.unusedSectionVars false
set_option linter.unusedSimpArgs false
set_option linter.unusedVariables false
namespace Go.Proofs.YtegenalcheooeaaGreat
open Go.RowKit
attribute [local go_sem] cell?_exto
section
open Go.ChangeShapes Go.WideShapes Go.ChangeAt
theorem qrj:Tryz.prog.readableRec 25=true:=by kernel_rfl
theorem qsu:25<Tryz.prog.types.size:=of_decide_eq_true (by kernel_rfl)
theorem rec34_11:Tryz.prog.readableRec 34=true:=by kernel_rfl
theorem row34_11:34<Tryz.prog.types.size:=of_decide_eq_true (by kernel_rfl)
theorem rec40_11:Tryz.prog.readableRec 40=true:=by kernel_rfl
theorem row40_11:40<Tryz.prog.types.size:=of_decide_eq_true (by kernel_rfl)
set_option maxRecDepth 100000 in
theorem qw5 (H:Type) (enc:TypeId×Value->H) (W:World) (base:Nat) (args:Array Value) (ds gs:List (DataW H)) (before:List MemPlace)
  (hval:∀ (j:Nat) t v,Tryz.f11.params[j]? = some t->args[j]? = some v->Value.okWide Tryz.prog W .any base t v)
  (hW:DataW.Whole enc Tryz.prog Tryz.f11.params.toList Rows.suiteJudgesSpec.vars false W args.toList ds gs before) (hk:Rows.uptoSmall H (ds++gs)=true) :
  Calls Tryz.prog 11 args W fun e W'=>∃ v,e = .returned v∧Rows.suiteJudgesSpec.post enc Tryz.prog Tryz.f11 false true false false W args v W':=by
 have hW':=hW
 obtain ⟨p,q,hA0,hV,rfl,hfz,hnd⟩:=hW
 have hA:DataW.TrodAll enc Tryz.prog W 0 (fun _=>true) true Tryz.f11.params.toList args.toList ds p:=hA0
 have hlt:=hW'.lt
 rw [Tryz.params11] at hA hval
 obtain ⟨v0,vs0,d0,ds0,p0,q0,hargs,rfl,rfl,h0,r0⟩:=trodAll_cons hA
 obtain ⟨v1,vs1,d1,ds1,p1,q1,rfl,rfl,rfl,h1,r1⟩:=trodAll_cons r0
 obtain ⟨v2,vs2,d2,ds2,p2,q2,rfl,rfl,rfl,h2,r2⟩:=trodAll_cons r1
 obtain ⟨v3,vs3,d3,ds3,p3,q3,rfl,rfl,rfl,h3,r3⟩:=trodAll_cons r2
 obtain ⟨v4,vs4,d4,ds4,p4,q4,rfl,rfl,rfl,h4,r4⟩:=trodAll_cons r3
 obtain ⟨rfl,rfl,rfl⟩:=trodAll_nil r4
 obtain rfl:args = #[v0,v1,v2,v3,v4]:=by cases args;simp_all
 obtain ⟨rfl,rfl⟩:=trodVars_none hV
 have hk':Rows.uptoBulkAll [d0,d1,d2,d3,d4]<=1048576:=of_decide_eq_true hk
 simp only [Rows.uptoBulkAll] at hk'
 have hv0:=hval 0 40 v0 rfl rfl
 obtain ⟨cs0,rfl⟩:∃ cs:Array Value,v0 = .agg cs:=by
  unfold Value.okWide at hv0
  rw [Tryz.underlying40] at hv0
  obtain ⟨cs,h,_⟩:=hv0
  exact ⟨cs,h⟩
 obtain ⟨fuel0,hf0⟩:=id h0
 have hcs0:(Value.agg cs0).cells.toList=cs0.toList:=rfl
 obtain ⟨hl0,s0,hs0,_⟩:=open_te fuel0 _ _ hf0
 rw [hcs0] at hs0
 have hv1:=hval 1 34 v1 rfl rfl
 obtain ⟨A1,m1,c1,rfl⟩:∃ A m c,v1 = .slice A m c:=by
  unfold Value.okWide at hv1
  rw [Tryz.underlying34] at hv1
  cases v1 <;> first | exact ⟨_,_,_,rfl⟩ | exact False.elim hv1
 obtain ⟨fuel1,hf1⟩:=id h1
 obtain ⟨s1,u1,hu1,hs1⟩:=open_tes fuel1 _ _ hf1
 obtain rfl : .slice A1 m1 c1=u1:=by injection hu1
 have hv2:=hval 2 25 v2 rfl rfl
 obtain ⟨cs2,rfl⟩:∃ cs:Array Value,v2 = .agg cs:=by
  unfold Value.okWide at hv2
  rw [Tryz.underlying25] at hv2
  obtain ⟨cs,h,_⟩:=hv2
  exact ⟨cs,h⟩
 obtain ⟨fuel2,hf2⟩:=id h2
 have hcs2:(Value.agg cs2).cells.toList=cs2.toList:=rfl
 obtain ⟨hl2,s2,hs2,hsz2⟩:=open_sy fuel2 _ _ hf2
 rw [hcs2] at hs2
 have hsm2:qfy s2:=fun x hx=>by have h1:=hsz2 x hx;have h2:x.size<=Rows.uptoBulk d2:=h1;omega
 have hv3:=hval 3 25 v3 rfl rfl
 obtain ⟨cs3,rfl⟩:∃ cs:Array Value,v3 = .agg cs:=by
  unfold Value.okWide at hv3
  rw [Tryz.underlying25] at hv3
  obtain ⟨cs,h,_⟩:=hv3
  exact ⟨cs,h⟩
 obtain ⟨fuel3,hf3⟩:=id h3
 have hcs3:(Value.agg cs3).cells.toList=cs3.toList:=rfl
 obtain ⟨hl3,s3,hs3,hsz3⟩:=open_sy fuel3 _ _ hf3
 rw [hcs3] at hs3
 have hsm3:qfy s3:=fun x hx=>by have h1:=hsz3 x hx;have h2:x.size<=Rows.uptoBulk d3:=h1;omega
 obtain ⟨n4,rfl,rfl,rfl,w4⟩:=open_int Tryz.underlying3 (hval 4 3 v4 rfl rfl) h4
 have hw:=qwb W s0 cs0.toList hs0 s1 _ hs1 s2 hsm2 cs2.toList hs2 s3 hsm3 cs3.toList hs3 n4
 simp only [Array.toArray_toList] at hw
 clear hA0
 simp only [List.append_nil,List.nil_append] at hW' hk hlt
 refine hw.mono fun e W' ⟨he,hx⟩=>?_
 subst he
 exact ⟨_,rfl,post_ext (pa:=(p0++(p1++(p2++p3)))) (pv:=[]) hW' hx (fun _ _ _=>trodAll_cons_mk (shut_bool Tryz.underlying4 _) trodAll_mk0)
  (fun sp hsp=>by
   have e:(p0++(p1++(p2++p3)))=(p0++(p1++(p2++(p3++(([]:List MemPlace)++[]))))):=by simp
   rw [e]
   exact (trodAll_cons_mk (stays rec40_11 row40_11 h0 hx (fun p hp=>hlt p (by simp [hp])) sp (fun p hp=>hsp p (by simp [hp]))) (trodAll_cons_mk (stays rec34_11 row34_11 h1 hx (fun p hp=>hlt p (by simp [hp])) sp (fun p hp=>hsp p (by simp [hp]))) (trodAll_cons_mk (stays qrj qsu h2 hx (fun p hp=>hlt p (by simp [hp])) sp (fun p hp=>hsp p (by simp [hp]))) (trodAll_cons_mk (stays qrj qsu h3 hx (fun p hp=>hlt p (by simp [hp])) sp (fun p hp=>hsp p (by simp [hp]))) (trodAll_cons_mk (shut_int Tryz.underlying3 w4) trodAll_mk0))))))
  (fun _ _=>rfl) (by simp) (ok_one (by kernel_rfl) rfl (okWide_bool_mk Tryz.underlying4 _))⟩
set_option maxRecDepth 100000 in
theorem lifted11 (os:Os) (started:os.Started) (H:Type) (enc:TypeId×Value->H) (F:Stop.Interp) :
  ReturnsInHanded {} Tryz.checked os 11 .any ((Rows.OpenSpec.upto Rows.suiteJudgesSpec).pre6 enc Tryz.prog Tryz.f11 Rows.suiteJudgesUptoRow.domain false) (((Rows.OpenSpec.upto Rows.suiteJudgesSpec).at F).post enc Tryz.prog Tryz.f11 false true false false):=by
 refine returnsInHanded_of_cond (C:=Tryz.checked) (s:=Rows.OpenSpec.upto Rows.suiteJudgesSpec) (k:=Rows.uptoSmall) rfl own started (by kernel_rfl) Tryz.func11
  (OpenSpec.witness (enc:=enc) (C:=Tryz.checked) (s:=Rows.OpenSpec.upto Rows.suiteJudgesSpec) (k:=Rows.uptoSmall) rfl false ⟨#[],#[(.agg #[.slice none 0 0,.slice none 0 0]),.slice none 0 0,(.agg #[.int .i64 0,.slice none 0 0,.slice none 0 0]),(.agg #[.int .i64 0,.slice none 0 0,.slice none 0 0]),.int .i64 0],[]⟩ 8 (by kernel_rfl) (by kernel_rfl) (by kernel_rfl)
   (x:=([.agg [.nil,.nil],.nil,.agg [.lit (.int .i64 0),.nil,.nil],.agg [.lit (.int .i64 0),.nil,.nil],.lit (.int .i64 0)],[],[])) (by kernel_rfl) rfl (by kernel_rfl)) ?_
 intro W base args ds gs before hval hW _ hk _
 exact qw5 H enc W base args ds gs before hval hW hk
theorem wrap11:Tryz.f11.isWrapper Tryz.pinned.checked.prog Rows.suiteJudgesUptoRow.wrapper Rows.suiteJudgesUptoRow.mainSum:=by unfold Func.isWrapper;first | (rw [if_pos (by decide +kernel)];kernel_rfl) | (rw [if_neg (by decide +kernel)];exact ⟨rfl,rfl⟩)
theorem inst11:Tryz.f11.isInstance Tryz.pinned.checked.prog Rows.suiteJudgesUptoRow.origin Rows.suiteJudgesUptoRow.targs:=of_decide_eq_true (by kernel_rfl)
theorem proved11:Rows.SuiteJudgesUptoSaid :=
 OpenClaim.holds_of_cond 11 Tryz.f11 rfl rfl rfl rfl rfl rfl rfl ⟨rfl,rfl,rfl,rfl,rfl⟩ rfl rfl rfl rfl rfl named11 Tryz.func11 closed11 inst11 wrap11
  (fun os started H enc _ F=>lifted11 os started H enc F)
#print axioms proved11
end
end Go.Proofs.YtegenalcheooeaaGreat
