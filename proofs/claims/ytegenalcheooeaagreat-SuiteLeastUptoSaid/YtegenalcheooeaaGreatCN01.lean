/- Of the proof of a law of the suites: Say6. -/
import Derived.Test.YtegenalcheooeaaGreatB38
import Derived.Test.YtegenalcheooeaaGreatCL01
import Derived.Test.YtegenalcheooeaaGreatCM01
/- SuiteLeast: the statement. -/
set_option linter.unusedSectionVars false
set_option linter.unusedSimpArgs false
set_option linter.unusedVariables false
namespace Go.Proofs.YtegenalcheooeaaGreat
open Go.RowKit
attribute [local go_sem] cell?_exto
open Go.ChangeShapes Go.WideShapes Go.ChangeAt

theorem rec22_6 : Tryz.prog.readableRec 22 = true := by kernel_rfl
theorem row22_6 : 22 < Tryz.prog.types.size := of_decide_eq_true (by kernel_rfl)
theorem rec25_6 : Tryz.prog.readableRec 25 = true := by kernel_rfl
theorem row25_6 : 25 < Tryz.prog.types.size := of_decide_eq_true (by kernel_rfl)
set_option maxRecDepth 100000 in
theorem contract6 (H : Type) (enc : TypeId × Value → H) (W : World) (base : Nat) (args : Array Value) (ds gs : List (DataW H)) (before : List MemPlace)
    (hval : ∀ (j : Nat) t v, Tryz.f6.params[j]? = some t → args[j]? = some v → Value.okWide Tryz.prog W .any base t v)
    (hW : DataW.Whole enc Tryz.prog Tryz.f6.params.toList Rows.suiteLeastSpec.vars false W args.toList ds gs before) (hk : Rows.uptoSmall H (ds ++ gs) = true) :
    Calls Tryz.prog 6 args W fun e W' => ∃ v, e = .returned v ∧ Rows.suiteLeastSpec.post enc Tryz.prog Tryz.f6 false true false false W args v W' := by
  have hW' := hW
  obtain ⟨p, q, hA0, hV, rfl, hfz, hnd⟩ := hW
  have hA : DataW.TrodAll enc Tryz.prog W 0 (fun _ => true) true Tryz.f6.params.toList args.toList ds p := hA0
  have hlt := hW'.lt
  rw [Tryz.params6] at hA hval
  obtain ⟨v0, vs0, d0, ds0, p0, q0, hargs, rfl, rfl, h0, r0⟩ := trodAll_cons hA
  obtain ⟨v1, vs1, d1, ds1, p1, q1, rfl, rfl, rfl, h1, r1⟩ := trodAll_cons r0
  obtain ⟨v2, vs2, d2, ds2, p2, q2, rfl, rfl, rfl, h2, r2⟩ := trodAll_cons r1
  obtain ⟨rfl, rfl, rfl⟩ := trodAll_nil r2
  obtain rfl : args = #[v0, v1, v2] := by cases args; simp_all
  obtain ⟨rfl, rfl⟩ := trodVars_none hV
  have hk' : Rows.uptoBulkAll [d0, d1, d2] ≤ 1048576 := of_decide_eq_true hk
  simp only [Rows.uptoBulkAll] at hk'
  have hv0 := hval 0 25 v0 rfl rfl
  obtain ⟨cs0, rfl⟩ : ∃ cs : Array Value, v0 = .agg cs := by
    unfold Value.okWide at hv0
    rw [Tryz.underlying25] at hv0
    obtain ⟨cs, h, _⟩ := hv0
    exact ⟨cs, h⟩
  obtain ⟨fuel0, hf0⟩ := id h0
  have hcs0 : (Value.agg cs0).cells.toList = cs0.toList := rfl
  obtain ⟨hl0, s0, hs0, hsz0⟩ := open_sy fuel0 _ _ hf0
  rw [hcs0] at hs0
  have hsm0 : SmallSy s0 := fun x hx => by have h1 := hsz0 x hx; have h2 : x.size ≤ Rows.uptoBulk d0 := h1; omega
  have hv1 := hval 1 22 v1 rfl rfl
  obtain ⟨A1, m1, c1, rfl⟩ : ∃ A m c, v1 = .slice A m c := by
    unfold Value.okWide at hv1
    rw [Tryz.underlying22] at hv1
    cases v1 <;> first | exact ⟨_, _, _, rfl⟩ | exact False.elim hv1
  obtain ⟨fuel1, hf1⟩ := id h1
  obtain ⟨_, s1, hs1, hsz1⟩ := open_lbs fuel1 _ _ hf1
  have hsm1 : s1.length ≤ 1048576 := by have h2 : s1.length ≤ Rows.uptoBulk d1 := hsz1; omega
  have hv2 := hval 2 22 v2 rfl rfl
  obtain ⟨A2, m2, c2, rfl⟩ : ∃ A m c, v2 = .slice A m c := by
    unfold Value.okWide at hv2
    rw [Tryz.underlying22] at hv2
    cases v2 <;> first | exact ⟨_, _, _, rfl⟩ | exact False.elim hv2
  obtain ⟨fuel2, hf2⟩ := id h2
  obtain ⟨_, s2, hs2, hsz2⟩ := open_lbs fuel2 _ _ hf2
  have hsm2 : s2.length ≤ 1048576 := by have h2 : s2.length ≤ Rows.uptoBulk d2 := hsz2; omega
  have hw := least6_c W s0 hsm0 cs0.toList hs0 s1 hsm1 _ hs1 s2 hsm2 _ hs2
  simp only [Array.toArray_toList] at hw
  clear hA0
  simp only [List.append_nil, List.nil_append] at hW' hk hlt
  refine hw.mono fun e W' ⟨he, hx⟩ => ?_
  subst he
  exact ⟨_, rfl, post_ext (pa := (p0 ++ (p1 ++ p2))) (pv := []) hW' hx (fun _ _ _ => trodAll_cons_mk (shut_bool Tryz.underlying4 _) trodAll_mk0)
    (fun sp hsp => by
      have e : (p0 ++ (p1 ++ p2)) = (p0 ++ (p1 ++ (p2 ++ []))) := by simp
      rw [e]
      exact (trodAll_cons_mk (stays rec25_6 row25_6 h0 hx (fun p hp => hlt p (by simp [hp])) sp (fun p hp => hsp p (by simp [hp]))) (trodAll_cons_mk (stays rec22_6 row22_6 h1 hx (fun p hp => hlt p (by simp [hp])) sp (fun p hp => hsp p (by simp [hp]))) (trodAll_cons_mk (stays rec22_6 row22_6 h2 hx (fun p hp => hlt p (by simp [hp])) sp (fun p hp => hsp p (by simp [hp]))) trodAll_mk0))))
    (fun _ _ => rfl) (by simp) (ok_one (by kernel_rfl) rfl (okWide_bool_mk Tryz.underlying4 _))⟩

set_option maxRecDepth 100000 in
theorem lifted6 (os : Os) (started : os.Started) (H : Type) (enc : TypeId × Value → H) (F : Stop.Interp) :
    ReturnsInHanded {} Tryz.checked os 6 .any ((Rows.OpenSpec.upto Rows.suiteLeastSpec).pre6 enc Tryz.prog Tryz.f6 Rows.suiteLeastUptoRow.domain false) (((Rows.OpenSpec.upto Rows.suiteLeastSpec).at F).post enc Tryz.prog Tryz.f6 false true false false) := by
  refine returnsInHanded_of_cond (C := Tryz.checked) (s := Rows.OpenSpec.upto Rows.suiteLeastSpec) (k := Rows.uptoSmall) rfl own started (by kernel_rfl) Tryz.func6
    (OpenSpec.witness (enc := enc) (C := Tryz.checked) (s := Rows.OpenSpec.upto Rows.suiteLeastSpec) (k := Rows.uptoSmall) rfl false ⟨#[], #[(.agg #[.int .i64 0, .slice none 0 0, .slice none 0 0]), .slice none 0 0, .slice none 0 0], []⟩ 8 (by kernel_rfl) (by kernel_rfl) (by kernel_rfl)
      (x := ([.agg [.lit (.int .i64 0), .nil, .nil], .nil, .nil], [], [])) (by kernel_rfl) rfl (by kernel_rfl)) ?_
  intro W base args ds gs before hval hW _ hk _
  exact contract6 H enc W base args ds gs before hval hW hk

theorem wrap6 : Tryz.f6.isWrapper Tryz.pinned.checked.prog Rows.suiteLeastUptoRow.wrapper Rows.suiteLeastUptoRow.mainSum := by unfold Func.isWrapper; first | (rw [if_pos (by decide +kernel)]; kernel_rfl) | (rw [if_neg (by decide +kernel)]; exact ⟨rfl, rfl⟩)
theorem inst6 : Tryz.f6.isInstance Tryz.pinned.checked.prog Rows.suiteLeastUptoRow.origin Rows.suiteLeastUptoRow.targs := of_decide_eq_true (by kernel_rfl)
theorem proved6 : Rows.SuiteLeastUptoSaid :=
  OpenClaim.holds_of_cond 6 Tryz.f6 rfl rfl rfl rfl rfl rfl rfl ⟨rfl, rfl, rfl, rfl, rfl⟩ rfl rfl rfl rfl rfl named6 Tryz.func6 closed6 inst6 wrap6
    (fun os started H enc _ F => lifted6 os started H enc F)
#print axioms proved6
end Go.Proofs.YtegenalcheooeaaGreat

