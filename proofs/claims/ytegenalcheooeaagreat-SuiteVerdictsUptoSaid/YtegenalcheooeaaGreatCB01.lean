/- Of the proof of a law of the suites: PCalm. -/
import Derived.Test.YtegenalcheooeaaGreatB37
import Derived.Test.YtegenalcheooeaaGreatCA01
/- States that are calm; verdicts: the plain law. -/
set_option linter.unusedSectionVars false
set_option linter.unusedSimpArgs false
set_option linter.unusedVariables false
namespace Go.Proofs.YtegenalcheooeaaGreat
open Go.RowKit
attribute [local go_sem] cell?_exto

/-! ### Calm -/
/-- An internal move. -/
def Tau (s : Sy) (y z : Int) : Prop := ∃ j : Fin s.es.length, s.es[j].f = y ∧ gateOf s s.es[j].l = -1 ∧ s.es[j].t = z
theorem outN_mem (es : List Ed) (n : Int) (j : Fin es.length) : j ∈ outN es n ↔ es[j].f = n := by simp [outN, List.mem_filter, List.mem_finRange]
theorem calmAdd_mem (s : Sy) (l : List Int) (e : Ed) (z : Int) : z ∈ calmAdd s l e ↔ z ∈ l ∨ (gateOf s e.l = -1 ∧ e.t = z) := by
  unfold calmAdd
  split
  · rename_i h
    rw [List.mem_append, List.mem_singleton]
    refine or_congr_right ⟨fun e => ⟨h.1, e.symm⟩, fun e => e.2.symm⟩
  · rename_i h
    refine ⟨.inl, fun hz => hz.elim id fun ⟨h1, h2⟩ => ?_⟩
    rw [← h2]
    exact Classical.byContradiction fun hn => h ⟨h1, hn⟩
theorem calmRow_iff (s : Sy) (z : Int) : ∀ (is : List (Fin s.es.length)) (l : List Int), z ∈ calmRow s is l ↔ z ∈ l ∨ ∃ j ∈ is, gateOf s s.es[j].l = -1 ∧ s.es[j].t = z
  | [], l => by simp [calmRow]
  | i :: is, l => by
    have ih := calmRow_iff s z is (calmAdd s l s.es[i])
    have e : calmRow s (i :: is) l = calmRow s is (calmAdd s l s.es[i]) := rfl
    rw [e, ih, calmAdd_mem]
    simp only [List.mem_cons, exists_eq_or_imp]
    rw [or_assoc]
theorem calmRow_pre (s : Sy) : ∀ (is : List (Fin s.es.length)) (l : List Int), ∃ m, calmRow s is l = l ++ m
  | [], l => ⟨[], by simp [calmRow]⟩
  | i :: is, l => by
    obtain ⟨m, hm⟩ := calmRow_pre s is (calmAdd s l s.es[i])
    have e : calmRow s (i :: is) l = calmRow s is (calmAdd s l s.es[i]) := rfl
    rw [e, hm]
    unfold calmAdd
    split
    · exact ⟨_, by rw [List.append_assoc]⟩
    · exact ⟨m, rfl⟩
theorem calmGo_closed (s : Sy) : ∀ (f i : Nat) (l : List Int), l.length + calmPot s l ≤ i + f → (∀ y ∈ l.take i, ∀ z, Tau s y z → z ∈ l) → (∀ y ∈ calmGo s f i l, ∀ z, Tau s y z → z ∈ calmGo s f i l) ∧ ∀ y ∈ l, y ∈ calmGo s f i l
  | 0, i, l, hf, hc => by
    rw [calmGo]
    rw [List.take_of_length_le (by omega)] at hc
    exact ⟨hc, fun y h => h⟩
  | f + 1, i, l, hf, hc => by
    rw [calmGo]
    split
    · rename_i hi
      obtain ⟨m, hm⟩ := calmRow_pre s (outN s.es l[i]) l
      have hp := (calmRow_pot s (outN s.es l[i]) l).1
      have hsub : ∀ y ∈ l, y ∈ calmRow s (outN s.es l[i]) l := fun y hy => (calmRow_iff s y _ l).2 (.inl hy)
      have := calmGo_closed s f (i + 1) (calmRow s (outN s.es l[i]) l) (by omega) fun y hy z hz => by
        have ht : (calmRow s (outN s.es l[i]) l).take (i + 1) = l.take i ++ [l[i]] := by
          rw [hm, List.take_append_of_le_length (by omega), List.take_succ_eq_append_getElem hi]
        rw [ht, List.mem_append, List.mem_singleton] at hy
        rcases hy with hy | hy
        · exact hsub z (hc y hy z hz)
        · obtain ⟨j, h1, h2, h3⟩ := hz
          exact (calmRow_iff s z _ l).2 (.inr ⟨j, (outN_mem _ _ _).2 (h1.trans hy), h2, h3⟩)
      exact ⟨this.1, fun y hy => this.2 y (hsub y hy)⟩
    · rw [List.take_of_length_le (by omega)] at hc
      exact ⟨hc, fun y h => h⟩
theorem calmGo_least (s : Sy) (R : Int → Prop) (hR : ∀ y z, R y → Tau s y z → R z) : ∀ (f i : Nat) (l : List Int), (∀ y ∈ l, R y) → ∀ y ∈ calmGo s f i l, R y
  | 0, i, l, hl => by rw [calmGo]; exact hl
  | f + 1, i, l, hl => by
    rw [calmGo]
    split
    · rename_i hi
      refine calmGo_least s R hR f (i + 1) _ fun y hy => ?_
      rcases (calmRow_iff s y _ l).1 hy with hy | ⟨j, hj, h1, h2⟩
      · exact hl y hy
      · exact hR _ y (hl _ (List.getElem_mem hi)) ⟨j, (outN_mem _ _ _).1 hj, h1, h2⟩
    · exact hl
def Closed1 (s : Sy) (l : List Int) : Prop := ∀ y ∈ l, ∀ z, Tau s y z → z ∈ l
theorem calmL_closed (s : Sy) (l : List Int) : Closed1 s (calmL s l) := fun y hy z hz => by
  unfold calmL at hy ⊢
  rw [sortI_mem] at hy ⊢
  exact (calmGo_closed s _ 0 l (by have := calmPot_le s l; omega) (by simp)).1 y hy z hz
theorem calmL_sub (s : Sy) (l : List Int) (y : Int) (hy : y ∈ l) : y ∈ calmL s l := by
  unfold calmL
  rw [sortI_mem]
  exact (calmGo_closed s _ 0 l (by have := calmPot_le s l; omega) (by simp)).2 y hy
theorem calmL_least (s : Sy) (R : Int → Prop) (hR : ∀ y z, R y → Tau s y z → R z) (l : List Int) (hl : ∀ y ∈ l, R y) : ∀ y ∈ calmL s l, R y := fun y hy => by
  unfold calmL at hy
  rw [sortI_mem] at hy
  exact calmGo_least s R hR _ 0 l hl y hy
theorem behAdd_mem (s : Sy) (x : Lb) (l : List Int) (e : Ed) (z : Int) : z ∈ behAdd s x l e ↔ z ∈ l ∨ (lbHas s e.l (fun y => visB y.g && decide (cmpLb y x = 0)) = true ∧ e.t = z) := by
  unfold behAdd
  split
  · rename_i h
    rw [List.mem_append, List.mem_singleton]
    refine or_congr_right ⟨fun e => ⟨h.1, e.symm⟩, fun e => e.2.symm⟩
  · rename_i h
    refine ⟨.inl, fun hz => hz.elim id fun ⟨h1, h2⟩ => ?_⟩
    rw [← h2]
    exact Classical.byContradiction fun hn => h ⟨h1, hn⟩
theorem behRow_iff (s : Sy) (x : Lb) (z : Int) : ∀ (is : List (Fin s.es.length)) (l : List Int), z ∈ behRow s x is l ↔ z ∈ l ∨ ∃ j ∈ is, lbHas s s.es[j].l (fun y => visB y.g && decide (cmpLb y x = 0)) = true ∧ s.es[j].t = z
  | [], l => by simp [behRow]
  | i :: is, l => by
    have ih := behRow_iff s x z is (behAdd s x l s.es[i])
    have e : behRow s x (i :: is) l = behRow s x is (behAdd s x l s.es[i]) := rfl
    rw [e, ih, behAdd_mem]
    simp only [List.mem_cons, exists_eq_or_imp]
    rw [or_assoc]
theorem behGo_iff (s : Sy) (x : Lb) (sts : List Int) (z : Int) : z ∈ behGo s x sts ↔ ∃ j : Fin s.es.length, s.es[j].f ∈ sts ∧ lbHas s s.es[j].l (fun y => visB y.g && decide (cmpLb y x = 0)) = true ∧ s.es[j].t = z := by
  have : ∀ (sts l : List Int), z ∈ sts.foldl (fun l st => behRow s x (outN s.es st) l) l ↔ z ∈ l ∨ ∃ j : Fin s.es.length, s.es[j].f ∈ sts ∧ lbHas s s.es[j].l (fun y => visB y.g && decide (cmpLb y x = 0)) = true ∧ s.es[j].t = z := by
    intro sts
    induction sts with
    | nil => intro l; simp
    | cons st sts ih =>
      intro l
      rw [List.foldl_cons, ih, behRow_iff, or_assoc]
      refine or_congr_right ⟨?_, ?_⟩
      · rintro (⟨j, hj, h⟩ | ⟨j, hj, h⟩)
        · exact ⟨j, by rw [(outN_mem _ _ _).1 hj]; simp, h⟩
        · exact ⟨j, List.mem_cons_of_mem _ hj, h⟩
      · rintro ⟨j, hj, h⟩
        rcases List.mem_cons.1 hj with hj | hj
        · exact .inl ⟨j, (outN_mem _ _ _).2 hj, h⟩
        · exact .inr ⟨j, hj, h⟩
  rw [behGo, this]
  simp
theorem afterL_closed (s : Sy) (tr : List Lb) : Closed1 s (afterL s tr) := by
  rcases List.eq_nil_or_concat tr with rfl | ⟨tr', x, rfl⟩
  · exact calmL_closed s [0]
  · rw [List.concat_eq_append, afterL_snoc]
    exact calmL_closed s _
theorem afterL_nil (s : Sy) : afterL s [] ≠ [] := fun h => by
  have := calmL_sub s [0] 0 (by simp)
  rw [show calmL s [0] = afterL s [] from rfl, h] at this
  cases this
theorem okSy_lb {s : Sy} (h : okSyP s) (j : Fin s.es.length) : ∃ k : Nat, s.es[j].l = (k : Int) ∧ k < s.ls.length := by
  have := (h.2.2.2.2.2 j.1 j.2).1
  unfold okEd isB at this
  simp only [Bool.and_eq_true, decide_eq_true_eq] at this
  exact ⟨s.es[j].l.toNat, by have := this.2.1; simp only [Fin.getElem_fin] at *; omega, by have := this.2; simp only [Fin.getElem_fin] at *; omega⟩
/-- Where nothing leads on, the label can be refused. -/
theorem beh_stuck {s : Sy} (hok : okSyP s) {sts : List Int} (hc : Closed1 s sts) (hne : sts ≠ []) {x : Lb} (h : behL s x sts = []) : refB s sts [x] = true := by
  have hx1 : Inc [x] := List.pairwise_singleton _ _
  cases hr : refB s sts [x] with
  | true => rfl
  | false =>
    exfalso
    obtain ⟨t, ht⟩ := List.exists_mem_of_ne_nil sts hne
    obtain ⟨y, hy, hyx⟩ := (refB_iff sts hx1).1 hr t ht
    rw [List.mem_singleton.1 hyx] at hy
    obtain ⟨k, hk, e, hv, st, hst, j, hj, hl⟩ := (accL_iff s t x).1 hy
    have hst' : st ∈ sts := calmL_least s (· ∈ sts) (fun y z hy hz => hc y hy z hz) [t] (by simpa using ht) st hst
    have : s.es[j].t ∈ behL s x sts := calmL_sub s _ _ ((behGo_iff s x sts _).2 ⟨j, by rw [(outN_mem _ _ _).1 hj]; exact hst', by rw [lbHas_at s _ hl hk, e, hv, ordLb.refl]; rfl, rfl⟩)
    rw [h] at this
    cases this
theorem open_of {s : Sy} (hok : okSyP s) (tr : List Lb) : ∀ n, n ≤ tr.length → afterL s (tr.take n) = [] → ∃ k, k < n ∧ openAt s tr k = true
  | 0, _, h => absurd h (by simpa using afterL_nil s)
  | n + 1, hn, h => by
    by_cases h0 : afterL s (tr.take n) = []
    · obtain ⟨k, hk, ho⟩ := open_of hok tr n (by omega) h0
      exact ⟨k, by omega, ho⟩
    · rw [afterL_take s tr n (by omega)] at h
      refine ⟨n, by omega, ?_⟩
      rw [openAt, List.drop_eq_getElem_cons (by omega)]
      exact beh_stuck hok (afterL_closed s _) h0 h

/-! ### Verdicts -/
theorem verdL_mem (s : Sy) (t : Te) (n : Int) (hn : n = 1 ∨ n = 2 ∨ n = 3) : n ∈ verdL s t ↔ verdB s t n = true := by
  rw [verdL, List.mem_filter]
  refine and_iff_right ?_
  rcases hn with rfl | rfl | rfl <;> simp
theorem verd_ne {s : Sy} (hok : okSyP s) (t : Te) : verdL s t ≠ [] := fun h => by
  have hno : ∀ n : Int, (n = 1 ∨ n = 2 ∨ n = 3) → verdB s t n = false := fun n hn => by
    cases hv : verdB s t n with
    | false => rfl
    | true =>
      have := (verdL_mem s t n hn).2 hv
      rw [h] at this
      cases this
  have h1 : passB s t = false := hno 1 (.inl rfl)
  have h2 : failB s t = false := hno 2 (.inr (.inl rfl))
  have h3 : openB s t = false := hno 3 (.inr (.inr rfl))
  cases ha : afterL s t.tr with
  | nil =>
    obtain ⟨k, hk, ho⟩ := open_of hok t.tr t.tr.length (Nat.le_refl _) (by rw [List.take_length]; exact ha)
    have := List.any_eq_false.1 h3 k (List.mem_range.2 hk)
    rw [ho] at this
    exact this rfl
  | cons x xs =>
    have g1 := List.any_eq_false.1 h1 x (by rw [ha]; simp)
    have g2 := List.any_eq_false.1 h2 x (by rw [ha]; simp)
    cases hc : comB (accL s x) t.mu
    · rw [hc] at g2; exact g2 rfl
    · exact g1 hc
theorem verd_none {s : Sy} {t : Te} (h : afterL s t.tr = []) : (2 : Int) ∉ verdL s t ∧ (1 : Int) ∉ verdL s t := by
  constructor
  · rw [verdL_mem s t 2 (.inr (.inl rfl))]
    show ¬ failB s t = true
    rw [failB, h]
    simp [refB]
  · rw [verdL_mem s t 1 (.inl rfl)]
    show ¬ passB s t = true
    rw [passB, h]
    simp
theorem sameLb_iff (x y : Lb) : sameLb x y = true ↔ x = y := by rw [sameLb, decide_eq_true_eq]; exact ordLb.iff x y
/-- A list of labels sorted, each one once. -/
def setOf (l : List Lb) : List Lb := compactB sameLb (sortB cmpLb l)
theorem setOf_mem (l : List Lb) (x : Lb) : x ∈ setOf l ↔ x ∈ l := (compactB_iff sameLb_iff _ x).trans (sortB_mem l x)
theorem setOf_inc (l : List Lb) : Inc (setOf l) := compactB_srt ordLb sameLb_iff _ (sortB_srt ordLb l)
theorem fail_less {s : Sy} {tr mu mu' : List Lb} (h1 : Inc mu) (h2 : Inc mu') (hs : ∀ x ∈ mu, x ∈ mu') (h : failB s ⟨tr, mu'⟩ = true) : failB s ⟨tr, mu⟩ = true := by
  cases hf : failB s ⟨tr, mu⟩ with
  | true => rfl
  | false =>
    have hf' : refB s (afterL s tr) mu = false := hf
    have : refB s (afterL s tr) mu' = false := (refB_iff _ h2).2 fun t ht => by
      obtain ⟨x, hx, hm⟩ := (refB_iff _ h1).1 hf' t ht
      exact ⟨x, hx, hs x hm⟩
    rw [show failB s ⟨tr, mu'⟩ = refB s (afterL s tr) mu' from rfl, this] at h
    cases h
/-- The law of verdicts. -/
theorem verdicts_law {s : Sy} {t : Te} (h : askE s [t] = 0) (more : List Lb) :
    afterE s t.tr = 0 ∧ verdR s t ≠ [] ∧ (afterR s t.tr = [] → (2 : Int) ∉ verdR s t ∧ (1 : Int) ∉ verdR s t) ∧
    (askE s [⟨t.tr, setOf (t.mu ++ more)⟩] = 0 → (2 : Int) ∈ verdR s ⟨t.tr, setOf (t.mu ++ more)⟩ → (2 : Int) ∈ verdR s t) := by
  obtain ⟨hok, _, ht⟩ := askE_ok h
  have ht := ht t (by simp)
  rw [isTestB, Bool.and_eq_true, Bool.and_eq_true] at ht
  have e1 : verdR s t = verdL s t := if_pos h
  have e2 : afterR s t.tr = afterL s t.tr := if_pos ⟨hok, ht.1.1⟩
  rw [e1, e2]
  refine ⟨?_, verd_ne hok t, verd_none, fun h' hv => ?_⟩
  · rw [afterE, if_pos hok, if_pos ht.1.1]
  · rw [verdR, if_pos h', verdL_mem _ _ _ (.inr (.inl rfl))] at hv
    rw [verdL_mem _ _ _ (.inr (.inl rfl))]
    exact fail_less (isSetB_inc ht.2) (setOf_inc _) (fun x hx => (setOf_mem _ x).2 (List.mem_append_left _ hx)) hv
end Go.Proofs.YtegenalcheooeaaGreat

