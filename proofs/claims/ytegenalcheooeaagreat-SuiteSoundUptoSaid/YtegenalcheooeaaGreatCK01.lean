/- Of the proof of a law of the suites: Say5. -/
import Derived.Test.YtegenalcheooeaaGreatB38
import Derived.Test.YtegenalcheooeaaGreatCI01
import Derived.Test.YtegenalcheooeaaGreatCJ01
/- SuiteSound: the statement. -/
set_option linter.unusedSectionVars false
set_option linter.unusedSimpArgs false
set_option linter.unusedVariables false
namespace Go.Proofs.YtegenalcheooeaaGreat
open Go.RowKit
attribute [local go_sem] cell?_exto
open Go.ChangeShapes Go.WideShapes Go.ChangeAt

theorem rec25_5 : Tryz.prog.readableRec 25 = true := by kernel_rfl
theorem row25_5 : 25 < Tryz.prog.types.size := of_decide_eq_true (by kernel_rfl)
theorem rec30_5 : Tryz.prog.readableRec 30 = true := by kernel_rfl
theorem row30_5 : 30 < Tryz.prog.types.size := of_decide_eq_true (by kernel_rfl)
set_option maxRecDepth 100000 in
theorem contract5 (H : Type) (enc : TypeId × Value → H) (W : World) (base : Nat) (args : Array Value) (ds gs : List (DataW H)) (before : List MemPlace)
    (hval : ∀ (j : Nat) t v, Tryz.f5.params[j]? = some t → args[j]? = some v → Value.okWide Tryz.prog W .any base t v)
    (hW : DataW.Whole enc Tryz.prog Tryz.f5.params.toList Rows.suiteSoundSpec.vars false W args.toList ds gs before) (hk : Rows.uptoSmall H (ds ++ gs) = true) :
    Calls Tryz.prog 5 args W fun e W' => ∃ v, e = .returned v ∧ Rows.suiteSoundSpec.post enc Tryz.prog Tryz.f5 false true false false W args v W' := by
  have hW' := hW
  obtain ⟨p, q, hA0, hV, rfl, hfz, hnd⟩ := hW
  have hA : DataW.TrodAll enc Tryz.prog W 0 (fun _ => true) true Tryz.f5.params.toList args.toList ds p := hA0
  have hlt := hW'.lt
  rw [Tryz.params5] at hA hval
  obtain ⟨v0, vs0, d0, ds0, p0, q0, hargs, rfl, rfl, h0, r0⟩ := trodAll_cons hA
  obtain ⟨v1, vs1, d1, ds1, p1, q1, rfl, rfl, rfl, h1, r1⟩ := trodAll_cons r0
  obtain ⟨v2, vs2, d2, ds2, p2, q2, rfl, rfl, rfl, h2, r2⟩ := trodAll_cons r1
  obtain ⟨v3, vs3, d3, ds3, p3, q3, rfl, rfl, rfl, h3, r3⟩ := trodAll_cons r2
  obtain ⟨rfl, rfl, rfl⟩ := trodAll_nil r3
  obtain rfl : args = #[v0, v1, v2, v3] := by cases args; simp_all
  obtain ⟨rfl, rfl⟩ := trodVars_none hV
  have hk' : Rows.uptoBulkAll [d0, d1, d2, d3] ≤ 1048576 := of_decide_eq_true hk
  simp only [Rows.uptoBulkAll] at hk'
  have hv0 := hval 0 25 v0 rfl rfl
  obtain ⟨cs0, rfl⟩ : ∃ cs : Array Value, v0 = .agg cs := by
    unfold Value.okWide at hv0
    rw [Tryz.underlying25] at hv0
    obtain ⟨cs, h, _⟩ := hv0
    exact ⟨cs, h⟩
  obtain ⟨fuel0, hf0⟩ := id h0
  have hcs0 : (Value.agg cs0).cells.toList = cs0.toList := rfl
  obtain ⟨hl0, s0, hs0, hsz0⟩ := open_sy fuel0 _ _ hf0
  rw [hcs0] at hs0
  have hsm0 : SmallSy s0 := fun x hx => by have h1 := hsz0 x hx; have h2 : x.size ≤ Rows.uptoBulk d0 := h1; omega
  have hv1 := hval 1 25 v1 rfl rfl
  obtain ⟨cs1, rfl⟩ : ∃ cs : Array Value, v1 = .agg cs := by
    unfold Value.okWide at hv1
    rw [Tryz.underlying25] at hv1
    obtain ⟨cs, h, _⟩ := hv1
    exact ⟨cs, h⟩
  obtain ⟨fuel1, hf1⟩ := id h1
  have hcs1 : (Value.agg cs1).cells.toList = cs1.toList := rfl
  obtain ⟨hl1, s1, hs1, hsz1⟩ := open_sy fuel1 _ _ hf1
  rw [hcs1] at hs1
  have hsm1 : SmallSy s1 := fun x hx => by have h1 := hsz1 x hx; have h2 : x.size ≤ Rows.uptoBulk d1 := h1; omega
  obtain ⟨n2, rfl, rfl, rfl, w2⟩ := open_int Tryz.underlying3 (hval 2 3 v2 rfl rfl) h2
  have hv3 := hval 3 30 v3 rfl rfl
  obtain ⟨A3, m3, c3, rfl⟩ : ∃ A m c, v3 = .slice A m c := by
    unfold Value.okWide at hv3
    rw [Tryz.underlying30] at hv3
    cases v3 <;> first | exact ⟨_, _, _, rfl⟩ | exact False.elim hv3
  obtain ⟨fuel3, hf3⟩ := id h3
  obtain ⟨s3, u3, hu3, hs3, hsz3⟩ := open_lbss fuel3 _ _ hf3
  obtain rfl : .slice A3 m3 c3 = u3 := by injection hu3
  have hsm3 : ∀ m ∈ s3, m.length ≤ 1048576 := fun m hm => by have h1 := hsz3 m hm; have h2 : m.length ≤ Rows.uptoBulk d3 := h1; omega
  have hw := sound_c W s0 hsm0 cs0.toList hs0 s1 hsm1 cs1.toList hs1 n2 s3 hsm3 _ hs3
  simp only [Array.toArray_toList] at hw
  clear hA0
  simp only [List.append_nil, List.nil_append] at hW' hk hlt
  refine hw.mono fun e W' ⟨he, hx⟩ => ?_
  subst he
  exact ⟨_, rfl, post_ext (pa := (p0 ++ (p1 ++ p3))) (pv := []) hW' hx (fun _ _ _ => trodAll_cons_mk (shut_bool Tryz.underlying4 _) trodAll_mk0)
    (fun sp hsp => by
      have e : (p0 ++ (p1 ++ p3)) = (p0 ++ (p1 ++ (([] : List MemPlace) ++ (p3 ++ [])))) := by simp
      rw [e]
      exact (trodAll_cons_mk (stays rec25_5 row25_5 h0 hx (fun p hp => hlt p (by simp [hp])) sp (fun p hp => hsp p (by simp [hp]))) (trodAll_cons_mk (stays rec25_5 row25_5 h1 hx (fun p hp => hlt p (by simp [hp])) sp (fun p hp => hsp p (by simp [hp]))) (trodAll_cons_mk (shut_int Tryz.underlying3 w2) (trodAll_cons_mk (stays rec30_5 row30_5 h3 hx (fun p hp => hlt p (by simp [hp])) sp (fun p hp => hsp p (by simp [hp]))) trodAll_mk0)))))
    (fun _ _ => rfl) (by simp) (ok_one (by kernel_rfl) rfl (okWide_bool_mk Tryz.underlying4 _))⟩

set_option maxRecDepth 100000 in
theorem lifted5 (os : Os) (started : os.Started) (H : Type) (enc : TypeId × Value → H) (F : Stop.Interp) :
    ReturnsInHanded {} Tryz.checked os 5 .any ((Rows.OpenSpec.upto Rows.suiteSoundSpec).pre6 enc Tryz.prog Tryz.f5 Rows.suiteSoundUptoRow.domain false) (((Rows.OpenSpec.upto Rows.suiteSoundSpec).at F).post enc Tryz.prog Tryz.f5 false true false false) := by
  refine returnsInHanded_of_cond (C := Tryz.checked) (s := Rows.OpenSpec.upto Rows.suiteSoundSpec) (k := Rows.uptoSmall) rfl own started (by kernel_rfl) Tryz.func5
    (OpenSpec.witness (enc := enc) (C := Tryz.checked) (s := Rows.OpenSpec.upto Rows.suiteSoundSpec) (k := Rows.uptoSmall) rfl false ⟨#[], #[(.agg #[.int .i64 0, .slice none 0 0, .slice none 0 0]), (.agg #[.int .i64 0, .slice none 0 0, .slice none 0 0]), .int .i64 0, .slice none 0 0], []⟩ 8 (by kernel_rfl) (by kernel_rfl) (by kernel_rfl)
      (x := ([.agg [.lit (.int .i64 0), .nil, .nil], .agg [.lit (.int .i64 0), .nil, .nil], .lit (.int .i64 0), .nil], [], [])) (by kernel_rfl) rfl (by kernel_rfl)) ?_
  intro W base args ds gs before hval hW _ hk _
  exact contract5 H enc W base args ds gs before hval hW hk

theorem wrap5 : Tryz.f5.isWrapper Tryz.pinned.checked.prog Rows.suiteSoundUptoRow.wrapper Rows.suiteSoundUptoRow.mainSum := by unfold Func.isWrapper; first | (rw [if_pos (by decide +kernel)]; kernel_rfl) | (rw [if_neg (by decide +kernel)]; exact ⟨rfl, rfl⟩)
theorem inst5 : Tryz.f5.isInstance Tryz.pinned.checked.prog Rows.suiteSoundUptoRow.origin Rows.suiteSoundUptoRow.targs := of_decide_eq_true (by kernel_rfl)
theorem proved5 : Rows.SuiteSoundUptoSaid :=
  OpenClaim.holds_of_cond 5 Tryz.f5 rfl rfl rfl rfl rfl rfl rfl ⟨rfl, rfl, rfl, rfl, rfl⟩ rfl rfl rfl rfl rfl named5 Tryz.func5 closed5 inst5 wrap5
    (fun os started H enc _ F => lifted5 os started H enc F)
#print axioms proved5
end Go.Proofs.YtegenalcheooeaaGreat

