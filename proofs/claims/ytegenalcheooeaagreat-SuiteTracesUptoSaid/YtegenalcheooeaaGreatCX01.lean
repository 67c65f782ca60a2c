/- Of the proof of a law of the suites: Say7. -/
import Derived.Test.YtegenalcheooeaaGreatB16
import Derived.Test.YtegenalcheooeaaGreatCV01
import Derived.Test.YtegenalcheooeaaGreatCW01
set_option linter.unusedSectionVars false
set_option linter.unusedSimpArgs false
set_option linter.unusedVariables false
namespace Go.Proofs.YtegenalcheooeaaGreat
open Go.RowKit
attribute [local go_sem] cell?_exto
section
open Go.ChangeShapes Go.WideShapes Go.ChangeAt

theorem rec22_7 : Tryz.prog.readableRec 22 = true := by kernel_rfl
theorem row22_7 : 22 < Tryz.prog.types.size := of_decide_eq_true (by kernel_rfl)
theorem rec25_7 : Tryz.prog.readableRec 25 = true := by kernel_rfl
theorem row25_7 : 25 < Tryz.prog.types.size := of_decide_eq_true (by kernel_rfl)
theorem rec40_7 : Tryz.prog.readableRec 40 = true := by kernel_rfl
theorem row40_7 : 40 < Tryz.prog.types.size := of_decide_eq_true (by kernel_rfl)
set_option maxRecDepth 100000 in
theorem contract7 (H : Type) (enc : TypeId × Value → H) (W : World) (base : Nat) (args : Array Value) (ds gs : List (DataW H)) (before : List MemPlace)
  (hval : ∀ (j : Nat) t v, Tryz.f7.params[j]? = some t → args[j]? = some v → Value.okWide Tryz.prog W .any base t v)
  (hW : DataW.Whole enc Tryz.prog Tryz.f7.params.toList Rows.suiteTracesSpec.vars false W args.toList ds gs before) (hk : Rows.uptoSmall H (ds ++ gs) = true) :
  Calls Tryz.prog 7 args W fun e W' => ∃ v, e = .returned v ∧ Rows.suiteTracesSpec.post enc Tryz.prog Tryz.f7 false true false false W args v W' := by
 have hW' := hW
 obtain ⟨p, q, hA0, hV, rfl, hfz, hnd⟩ := hW
 have hA : DataW.TrodAll enc Tryz.prog W 0 (fun _ => true) true Tryz.f7.params.toList args.toList ds p := hA0
 have hlt := hW'.lt
 rw [Tryz.params7] at hA hval
 obtain ⟨v0, vs0, d0, ds0, p0, q0, hargs, rfl, rfl, h0, r0⟩ := trodAll_cons hA
 obtain ⟨v1, vs1, d1, ds1, p1, q1, rfl, rfl, rfl, h1, r1⟩ := trodAll_cons r0
 obtain ⟨v2, vs2, d2, ds2, p2, q2, rfl, rfl, rfl, h2, r2⟩ := trodAll_cons r1
 obtain ⟨v3, vs3, d3, ds3, p3, q3, rfl, rfl, rfl, h3, r3⟩ := trodAll_cons r2
 obtain ⟨rfl, rfl, rfl⟩ := trodAll_nil r3
 obtain rfl : args = #[v0, v1, v2, v3] := by cases args; simp_all
 obtain ⟨rfl, rfl⟩ := trodVars_none hV
 have hk' : Rows.uptoBulkAll [d0, d1, d2, d3] ≤ 1048576 := of_decide_eq_true hk
 simp only [Rows.uptoBulkAll] at hk'
 have hv0 := hval 0 40 v0 rfl rfl
 obtain ⟨cs0, rfl⟩ : ∃ cs : Array Value, v0 = .agg cs := by
  unfold Value.okWide at hv0
  rw [Tryz.underlying40] at hv0
  obtain ⟨cs, h, _⟩ := hv0
  exact ⟨cs, h⟩
 obtain ⟨fuel0, hf0⟩ := id h0
 have hcs0 : (Value.agg cs0).cells.toList = cs0.toList := rfl
 obtain ⟨hl0, s0, hs0, _⟩ := open_te fuel0 _ _ hf0
 rw [hcs0] at hs0
 have hv1 := hval 1 25 v1 rfl rfl
 obtain ⟨cs1, rfl⟩ : ∃ cs : Array Value, v1 = .agg cs := by
  unfold Value.okWide at hv1
  rw [Tryz.underlying25] at hv1
  obtain ⟨cs, h, _⟩ := hv1
  exact ⟨cs, h⟩
 obtain ⟨fuel1, hf1⟩ := id h1
 have hcs1 : (Value.agg cs1).cells.toList = cs1.toList := rfl
 obtain ⟨hl1, s1, hs1, hsz1⟩ := open_sy fuel1 _ _ hf1
 rw [hcs1] at hs1
 have hsm1 : SmallSy s1 := fun x hx => by have h1 := hsz1 x hx; have h2 : x.size ≤ Rows.uptoBulk d1 := h1; omega
 have hv2 := hval 2 22 v2 rfl rfl
 obtain ⟨A2, m2, c2, rfl⟩ : ∃ A m c, v2 = .slice A m c := by
  unfold Value.okWide at hv2
  rw [Tryz.underlying22] at hv2
  cases v2 <;> first | exact ⟨_, _, _, rfl⟩ | exact False.elim hv2
 obtain ⟨fuel2, hf2⟩ := id h2
 obtain ⟨_, s2, hs2, hsz2⟩ := open_lbs fuel2 _ _ hf2
 have hsm2 : s2.length ≤ 1048576 := by have h2 : s2.length ≤ Rows.uptoBulk d2 := hsz2; omega
 have hv3 := hval 3 22 v3 rfl rfl
 obtain ⟨A3, m3, c3, rfl⟩ : ∃ A m c, v3 = .slice A m c := by
  unfold Value.okWide at hv3
  rw [Tryz.underlying22] at hv3
  cases v3 <;> first | exact ⟨_, _, _, rfl⟩ | exact False.elim hv3
 obtain ⟨fuel3, hf3⟩ := id h3
 obtain ⟨_, s3, hs3, hsz3⟩ := open_lbs fuel3 _ _ hf3
 have hsm3 : s3.length ≤ 1048576 := by have h2 : s3.length ≤ Rows.uptoBulk d3 := hsz3; omega
 have hw := traces7_c W s0 cs0.toList hs0 s1 hsm1 cs1.toList hs1 s2 hsm2 _ hs2 s3 hsm3 _ hs3
 simp only [Array.toArray_toList] at hw
 clear hA0
 simp only [List.append_nil, List.nil_append] at hW' hk hlt
 refine hw.mono fun e W' ⟨he, hx⟩ => ?_
 subst he
 exact ⟨_, rfl, post_ext (pa := (p0 ++ (p1 ++ (p2 ++ p3)))) (pv := []) hW' hx (fun _ _ _ => trodAll_cons_mk (shut_bool Tryz.underlying4 _) trodAll_mk0)
  (fun sp hsp => by
   have e : (p0 ++ (p1 ++ (p2 ++ p3))) = (p0 ++ (p1 ++ (p2 ++ (p3 ++ [])))) := by simp
   rw [e]
   exact (trodAll_cons_mk (stays rec40_7 row40_7 h0 hx (fun p hp => hlt p (by simp [hp])) sp (fun p hp => hsp p (by simp [hp]))) (trodAll_cons_mk (stays rec25_7 row25_7 h1 hx (fun p hp => hlt p (by simp [hp])) sp (fun p hp => hsp p (by simp [hp]))) (trodAll_cons_mk (stays rec22_7 row22_7 h2 hx (fun p hp => hlt p (by simp [hp])) sp (fun p hp => hsp p (by simp [hp]))) (trodAll_cons_mk (stays rec22_7 row22_7 h3 hx (fun p hp => hlt p (by simp [hp])) sp (fun p hp => hsp p (by simp [hp]))) trodAll_mk0)))))
  (fun _ _ => rfl) (by simp) (ok_one (by kernel_rfl) rfl (okWide_bool_mk Tryz.underlying4 _))⟩

set_option maxRecDepth 100000 in
theorem lifted7 (os : Os) (started : os.Started) (H : Type) (enc : TypeId × Value → H) (F : Stop.Interp) :
  ReturnsInHanded {} Tryz.checked os 7 .any ((Rows.OpenSpec.upto Rows.suiteTracesSpec).pre6 enc Tryz.prog Tryz.f7 Rows.suiteTracesUptoRow.domain false) (((Rows.OpenSpec.upto Rows.suiteTracesSpec).at F).post enc Tryz.prog Tryz.f7 false true false false) := by
 refine returnsInHanded_of_cond (C := Tryz.checked) (s := Rows.OpenSpec.upto Rows.suiteTracesSpec) (k := Rows.uptoSmall) rfl own started (by kernel_rfl) Tryz.func7
  (OpenSpec.witness (enc := enc) (C := Tryz.checked) (s := Rows.OpenSpec.upto Rows.suiteTracesSpec) (k := Rows.uptoSmall) rfl false ⟨#[], #[(.agg #[.slice none 0 0, .slice none 0 0]), (.agg #[.int .i64 0, .slice none 0 0, .slice none 0 0]), .slice none 0 0, .slice none 0 0], []⟩ 8 (by kernel_rfl) (by kernel_rfl) (by kernel_rfl)
   (x := ([.agg [.nil, .nil], .agg [.lit (.int .i64 0), .nil, .nil], .nil, .nil], [], [])) (by kernel_rfl) rfl (by kernel_rfl)) ?_
 intro W base args ds gs before hval hW _ hk _
 exact contract7 H enc W base args ds gs before hval hW hk

theorem wrap7 : Tryz.f7.isWrapper Tryz.pinned.checked.prog Rows.suiteTracesUptoRow.wrapper Rows.suiteTracesUptoRow.mainSum := by unfold Func.isWrapper; first | (rw [if_pos (by decide +kernel)]; kernel_rfl) | (rw [if_neg (by decide +kernel)]; exact ⟨rfl, rfl⟩)
theorem inst7 : Tryz.f7.isInstance Tryz.pinned.checked.prog Rows.suiteTracesUptoRow.origin Rows.suiteTracesUptoRow.targs := of_decide_eq_true (by kernel_rfl)
theorem proved7 : Rows.SuiteTracesUptoSaid :=
 OpenClaim.holds_of_cond 7 Tryz.f7 rfl rfl rfl rfl rfl rfl rfl ⟨rfl, rfl, rfl, rfl, rfl⟩ rfl rfl rfl rfl rfl named7 Tryz.func7 closed7 inst7 wrap7
  (fun os started H enc _ F => lifted7 os started H enc F)
#print axioms proved7
end
end Go.Proofs.YtegenalcheooeaaGreat
