/- Of the proof of a law of the suites: Say10. -/
import Derived.Test.YtegenalcheooeaaGreatB18
import Derived.Test.YtegenalcheooeaaGreatCW01
import Derived.Test.YtegenalcheooeaaGreatCY01
set_option linter.unusedSectionVars false
set_option linter.unusedSimpArgs false
set_option linter.unusedVariables false
namespace Go.Proofs.YtegenalcheooeaaGreat
open Go.RowKit
attribute [local go_sem] cell?_exto
section
open Go.ChangeShapes Go.WideShapes Go.ChangeAt
theorem rec22_10:Tryz.prog.readableRec 22=true:=by kernel_rfl
theorem row22_10:22<Tryz.prog.types.size:=of_decide_eq_true (by kernel_rfl)
theorem rec25_10:Tryz.prog.readableRec 25=true:=by kernel_rfl
theorem row25_10:25<Tryz.prog.types.size:=of_decide_eq_true (by kernel_rfl)
set_option maxRecDepth 100000 in
theorem qto (H:Type) (enc:TypeId×Value->H) (W:World) (base:Nat) (args:Array Value) (ds gs:List (DataW H)) (before:List MemPlace)
  (hval:∀ (j:Nat) t v,Tryz.f10.params[j]? = some t->args[j]? = some v->Value.okWide Tryz.prog W .any base t v)
  (hW:DataW.Whole enc Tryz.prog Tryz.f10.params.toList Rows.suiteAfterSpec.vars false W args.toList ds gs before) (hk:Rows.uptoSmall H (ds++gs)=true) :
  Calls Tryz.prog 10 args W fun e W'=>∃ v,e = .returned v∧Rows.suiteAfterSpec.post enc Tryz.prog Tryz.f10 false true false false W args v W':=by
 have hW':=hW
 obtain ⟨p,q,hA0,hV,rfl,hfz,hnd⟩:=hW
 have hA:DataW.TrodAll enc Tryz.prog W 0 (fun _=>true) true Tryz.f10.params.toList args.toList ds p:=hA0
 have hlt:=hW'.lt
 rw [Tryz.params10] at hA hval
 obtain ⟨v0,vs0,d0,ds0,p0,q0,hargs,rfl,rfl,h0,r0⟩:=trodAll_cons hA
 obtain ⟨v1,vs1,d1,ds1,p1,q1,rfl,rfl,rfl,h1,r1⟩:=trodAll_cons r0
 obtain ⟨v2,vs2,d2,ds2,p2,q2,rfl,rfl,rfl,h2,r2⟩:=trodAll_cons r1
 obtain ⟨rfl,rfl,rfl⟩:=trodAll_nil r2
 obtain rfl:args = #[v0,v1,v2]:=by cases args;simp_all
 obtain ⟨rfl,rfl⟩:=trodVars_none hV
 have hk':Rows.uptoBulkAll [d0,d1,d2]<=1048576:=of_decide_eq_true hk
 simp only [Rows.uptoBulkAll] at hk'
 have hv0:=hval 0 25 v0 rfl rfl
 obtain ⟨cs0,rfl⟩:∃ cs:Array Value,v0 = .agg cs:=by
  unfold Value.okWide at hv0
  rw [Tryz.underlying25] at hv0
  obtain ⟨cs,h,_⟩:=hv0
  exact ⟨cs,h⟩
 obtain ⟨fuel0,hf0⟩:=id h0
 have hcs0:(Value.agg cs0).cells.toList=cs0.toList:=rfl
 obtain ⟨hl0,s0,hs0,hsz0⟩:=open_sy fuel0 _ _ hf0
 rw [hcs0] at hs0
 have hsm0:qev s0:=fun x hx=>by have h1:=hsz0 x hx;have h2:x.size<=Rows.uptoBulk d0:=h1;omega
 have hv1:=hval 1 22 v1 rfl rfl
 obtain ⟨A1,m1,c1,rfl⟩:∃ A m c,v1 = .slice A m c:=by
  unfold Value.okWide at hv1
  rw [Tryz.underlying22] at hv1
  cases v1 <;> first | exact ⟨_,_,_,rfl⟩ | exact False.elim hv1
 obtain ⟨fuel1,hf1⟩:=id h1
 obtain ⟨_,s1,hs1,hsz1⟩:=qku fuel1 _ _ hf1
 have hsm1:s1.length<=1048576:=by have h2:s1.length<=Rows.uptoBulk d1:=hsz1;omega
 obtain ⟨n2,rfl,rfl,rfl,w2⟩:=open_int Tryz.underlying3 (hval 2 3 v2 rfl rfl) h2
 have hw:=after10_c W s0 hsm0 cs0.toList hs0 s1 hsm1 _ hs1 n2
 simp only [Array.toArray_toList] at hw
 clear hA0
 simp only [List.append_nil,List.nil_append] at hW' hk hlt
 refine hw.mono fun e W' ⟨he,hx⟩=>?_
 subst he
 exact ⟨_,rfl,post_ext (pa:=(p0++p1)) (pv:=[]) hW' hx (fun _ _ _=>trodAll_cons_mk (shut_bool Tryz.underlying4 _) trodAll_mk0)
  (fun sp hsp=>by
   have e:(p0++p1)=(p0++(p1++(([]:List MemPlace)++[]))):=by simp
   rw [e]
   exact (trodAll_cons_mk (stays rec25_10 row25_10 h0 hx (fun p hp=>hlt p (by simp [hp])) sp (fun p hp=>hsp p (by simp [hp]))) (trodAll_cons_mk (stays rec22_10 row22_10 h1 hx (fun p hp=>hlt p (by simp [hp])) sp (fun p hp=>hsp p (by simp [hp]))) (trodAll_cons_mk (shut_int Tryz.underlying3 w2) trodAll_mk0))))
  (fun _ _=>rfl) (by simp) (ok_one (by kernel_rfl) rfl (okWide_bool_mk Tryz.underlying4 _))⟩
set_option maxRecDepth 100000 in
theorem lifted10 (os:Os) (started:os.Started) (H:Type) (enc:TypeId×Value->H) (F:Stop.Interp) :
  ReturnsInHanded {} Tryz.checked os 10 .any ((Rows.OpenSpec.upto Rows.suiteAfterSpec).pre6 enc Tryz.prog Tryz.f10 Rows.suiteAfterUptoRow.domain false) (((Rows.OpenSpec.upto Rows.suiteAfterSpec).at F).post enc Tryz.prog Tryz.f10 false true false false):=by
 refine returnsInHanded_of_cond (C:=Tryz.checked) (s:=Rows.OpenSpec.upto Rows.suiteAfterSpec) (k:=Rows.uptoSmall) rfl own started (by kernel_rfl) Tryz.func10
  (OpenSpec.witness (enc:=enc) (C:=Tryz.checked) (s:=Rows.OpenSpec.upto Rows.suiteAfterSpec) (k:=Rows.uptoSmall) rfl false ⟨#[],#[(.agg #[.int .i64 0,.slice none 0 0,.slice none 0 0]),.slice none 0 0,.int .i64 0],[]⟩ 8 (by kernel_rfl) (by kernel_rfl) (by kernel_rfl)
   (x:=([.agg [.lit (.int .i64 0),.nil,.nil],.nil,.lit (.int .i64 0)],[],[])) (by kernel_rfl) rfl (by kernel_rfl)) ?_
 intro W base args ds gs before hval hW _ hk _
 exact qto H enc W base args ds gs before hval hW hk
theorem wrap10:Tryz.f10.isWrapper Tryz.pinned.checked.prog Rows.suiteAfterUptoRow.wrapper Rows.suiteAfterUptoRow.mainSum:=by unfold Func.isWrapper;first | (rw [if_pos (by decide +kernel)];kernel_rfl) | (rw [if_neg (by decide +kernel)];exact ⟨rfl,rfl⟩)
theorem inst10:Tryz.f10.isInstance Tryz.pinned.checked.prog Rows.suiteAfterUptoRow.origin Rows.suiteAfterUptoRow.targs:=of_decide_eq_true (by kernel_rfl)
theorem proved10:Rows.SuiteAfterUptoSaid :=
 OpenClaim.holds_of_cond 10 Tryz.f10 rfl rfl rfl rfl rfl rfl rfl ⟨rfl,rfl,rfl,rfl,rfl⟩ rfl rfl rfl rfl rfl named10 Tryz.func10 closed10 inst10 wrap10
  (fun os started H enc _ F=>lifted10 os started H enc F)
#print axioms proved10
end
end Go.Proofs.YtegenalcheooeaaGreat
