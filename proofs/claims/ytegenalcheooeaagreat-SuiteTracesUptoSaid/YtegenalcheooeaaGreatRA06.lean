/- Of the proof of a law of the suites: PCalm, RPlain, RPlain2, RPlain3, RPlain4, PRefB, RefAfter, RTest, RefRefuses. -/
import Derived.Test.YtegenalcheooeaaGreatB18
import Derived.Test.YtegenalcheooeaaGreatB29
import Derived.Test.YtegenalcheooeaaGreatB31
import Derived.Test.YtegenalcheooeaaGreatRA01
import Derived.Test.YtegenalcheooeaaGreatRA02
import Derived.Test.YtegenalcheooeaaGreatRA04
import Derived.Test.YtegenalcheooeaaGreatRA05
set_option linter.unusedSectionVars false
set_option linter.unusedSimpArgs false
set_option linter.unusedVariables false
namespace Go.Proofs.YtegenalcheooeaaGreat
open Go.RowKit
attribute [local go_sem] cell?_exto
section

/-! ### Calm -/
/-- An internal move. -/
def Tau (s : Sy) (y z : Int) : Prop := ∃ j : Fin s.es.length, s.es[j].f = y ∧ gateOf s s.es[j].l = -1 ∧ s.es[j].t = z
theorem outN_mem (es : List Ed) (n : Int) (j : Fin es.length) : j ∈ outN es n ↔ es[j].f = n := by simp [outN, List.mem_filter, List.mem_finRange]
theorem calmAdd_mem (s : Sy) (l : List Int) (e : Ed) (z : Int) : z ∈ calmAdd s l e ↔ z ∈ l ∨ (gateOf s e.l = -1 ∧ e.t = z) := by
 unfold calmAdd
 split
 ·rename_i h
  rw [List.mem_append, List.mem_singleton]
  refine or_congr_right ⟨fun e => ⟨h.1, e.symm⟩, fun e => e.2.symm⟩
 ·rename_i h
  refine ⟨.inl, fun hz => hz.elim id fun ⟨h1, h2⟩ => ?_⟩
  rw [← h2]
  exact Classical.byContradiction fun hn => h ⟨h1, hn⟩
theorem calmRow_iff (s : Sy) (z : Int) : ∀ (is : List (Fin s.es.length)) (l : List Int), z ∈ calmRow s is l ↔ z ∈ l ∨ ∃ j ∈ is, gateOf s s.es[j].l = -1 ∧ s.es[j].t = z
 | [], l => by simp [calmRow]
 | i :: is, l => by
  have ih := calmRow_iff s z is (calmAdd s l s.es[i])
  have e : calmRow s (i :: is) l = calmRow s is (calmAdd s l s.es[i]) := rfl
  rw [e, ih, calmAdd_mem]
  simp only [List.mem_cons, exists_eq_or_imp]
  rw [or_assoc]
theorem calmRow_pre (s : Sy) : ∀ (is : List (Fin s.es.length)) (l : List Int), ∃ m, calmRow s is l = l ++ m
 | [], l => ⟨[], by simp [calmRow]⟩
 | i :: is, l => by
  obtain ⟨m, hm⟩ := calmRow_pre s is (calmAdd s l s.es[i])
  have e : calmRow s (i :: is) l = calmRow s is (calmAdd s l s.es[i]) := rfl
  rw [e, hm]
  unfold calmAdd
  split
  ·exact ⟨_, by rw [List.append_assoc]⟩
  ·exact ⟨m, rfl⟩
theorem calmGo_closed (s : Sy) : ∀ (f i : Nat) (l : List Int), l.length + calmPot s l ≤ i + f → (∀ y ∈ l.take i, ∀ z, Tau s y z → z ∈ l) → (∀ y ∈ calmGo s f i l, ∀ z, Tau s y z → z ∈ calmGo s f i l) ∧ ∀ y ∈ l, y ∈ calmGo s f i l
 | 0, i, l, hf, hc => by
  rw [calmGo]
  rw [List.take_of_length_le (by omega)] at hc
  exact ⟨hc, fun y h => h⟩
 | f + 1, i, l, hf, hc => by
  rw [calmGo]
  split
  ·rename_i hi
   obtain ⟨m, hm⟩ := calmRow_pre s (outN s.es l[i]) l
   have hp := (calmRow_pot s (outN s.es l[i]) l).1
   have hsub : ∀ y ∈ l, y ∈ calmRow s (outN s.es l[i]) l := fun y hy => (calmRow_iff s y _ l).2 (.inl hy)
   have := calmGo_closed s f (i + 1) (calmRow s (outN s.es l[i]) l) (by omega) fun y hy z hz => by
    have ht : (calmRow s (outN s.es l[i]) l).take (i + 1) = l.take i ++ [l[i]] := by
     rw [hm, List.take_append_of_le_length (by omega), List.take_succ_eq_append_getElem hi]
    rw [ht, List.mem_append, List.mem_singleton] at hy
    rcases hy with hy | hy
    ·exact hsub z (hc y hy z hz)
    ·obtain ⟨j, h1, h2, h3⟩ := hz
     exact (calmRow_iff s z _ l).2 (.inr ⟨j, (outN_mem _ _ _).2 (h1.trans hy), h2, h3⟩)
   exact ⟨this.1, fun y hy => this.2 y (hsub y hy)⟩
  ·rw [List.take_of_length_le (by omega)] at hc
   exact ⟨hc, fun y h => h⟩
theorem calmGo_least (s : Sy) (R : Int → Prop) (hR : ∀ y z, R y → Tau s y z → R z) : ∀ (f i : Nat) (l : List Int), (∀ y ∈ l, R y) → ∀ y ∈ calmGo s f i l, R y
 | 0, i, l, hl => by rw [calmGo]; exact hl
 | f + 1, i, l, hl => by
  rw [calmGo]
  split
  ·rename_i hi
   refine calmGo_least s R hR f (i + 1) _ fun y hy => ?_
   rcases (calmRow_iff s y _ l).1 hy with hy | ⟨j, hj, h1, h2⟩
   ·exact hl y hy
   ·exact hR _ y (hl _ (List.getElem_mem hi)) ⟨j, (outN_mem _ _ _).1 hj, h1, h2⟩
  ·exact hl
def Closed1 (s : Sy) (l : List Int) : Prop := ∀ y ∈ l, ∀ z, Tau s y z → z ∈ l
theorem calmL_closed (s : Sy) (l : List Int) : Closed1 s (calmL s l) := fun y hy z hz => by
 unfold calmL at hy ⊢
 rw [sortI_mem] at hy ⊢
 exact (calmGo_closed s _ 0 l (by have := calmPot_le s l; omega) (by simp)).1 y hy z hz
theorem calmL_sub (s : Sy) (l : List Int) (y : Int) (hy : y ∈ l) : y ∈ calmL s l := by
 unfold calmL
 rw [sortI_mem]
 exact (calmGo_closed s _ 0 l (by have := calmPot_le s l; omega) (by simp)).2 y hy
theorem calmL_least (s : Sy) (R : Int → Prop) (hR : ∀ y z, R y → Tau s y z → R z) (l : List Int) (hl : ∀ y ∈ l, R y) : ∀ y ∈ calmL s l, R y := fun y hy => by
 unfold calmL at hy
 rw [sortI_mem] at hy
 exact calmGo_least s R hR _ 0 l hl y hy
theorem behAdd_mem (s : Sy) (x : Lb) (l : List Int) (e : Ed) (z : Int) : z ∈ behAdd s x l e ↔ z ∈ l ∨ (lbHas s e.l (fun y => visB y.g && decide (cmpLb y x = 0)) = true ∧ e.t = z) := by
 unfold behAdd
 split
 ·rename_i h
  rw [List.mem_append, List.mem_singleton]
  refine or_congr_right ⟨fun e => ⟨h.1, e.symm⟩, fun e => e.2.symm⟩
 ·rename_i h
  refine ⟨.inl, fun hz => hz.elim id fun ⟨h1, h2⟩ => ?_⟩
  rw [← h2]
  exact Classical.byContradiction fun hn => h ⟨h1, hn⟩
theorem behRow_iff (s : Sy) (x : Lb) (z : Int) : ∀ (is : List (Fin s.es.length)) (l : List Int), z ∈ behRow s x is l ↔ z ∈ l ∨ ∃ j ∈ is, lbHas s s.es[j].l (fun y => visB y.g && decide (cmpLb y x = 0)) = true ∧ s.es[j].t = z
 | [], l => by simp [behRow]
 | i :: is, l => by
  have ih := behRow_iff s x z is (behAdd s x l s.es[i])
  have e : behRow s x (i :: is) l = behRow s x is (behAdd s x l s.es[i]) := rfl
  rw [e, ih, behAdd_mem]
  simp only [List.mem_cons, exists_eq_or_imp]
  rw [or_assoc]
theorem behGo_iff (s : Sy) (x : Lb) (sts : List Int) (z : Int) : z ∈ behGo s x sts ↔ ∃ j : Fin s.es.length, s.es[j].f ∈ sts ∧ lbHas s s.es[j].l (fun y => visB y.g && decide (cmpLb y x = 0)) = true ∧ s.es[j].t = z := by
 have : ∀ (sts l : List Int), z ∈ sts.foldl (fun l st => behRow s x (outN s.es st) l) l ↔ z ∈ l ∨ ∃ j : Fin s.es.length, s.es[j].f ∈ sts ∧ lbHas s s.es[j].l (fun y => visB y.g && decide (cmpLb y x = 0)) = true ∧ s.es[j].t = z := by
  intro sts
  induction sts with
  | nil => intro l; simp
  | cons st sts ih =>
   intro l
   rw [List.foldl_cons, ih, behRow_iff, or_assoc]
   refine or_congr_right ⟨?_, ?_⟩
   ·rintro (⟨j, hj, h⟩ | ⟨j, hj, h⟩)
    ·exact ⟨j, by rw [(outN_mem _ _ _).1 hj]; simp, h⟩
    ·exact ⟨j, List.mem_cons_of_mem _ hj, h⟩
   ·rintro ⟨j, hj, h⟩
    rcases List.mem_cons.1 hj with hj | hj
    ·exact .inl ⟨j, (outN_mem _ _ _).2 hj, h⟩
    ·exact .inr ⟨j, hj, h⟩
 rw [behGo, this]
 simp
theorem afterL_closed (s : Sy) (tr : List Lb) : Closed1 s (afterL s tr) := by
 rcases List.eq_nil_or_concat tr with rfl | ⟨tr', x, rfl⟩
 ·exact calmL_closed s [0]
 ·rw [List.concat_eq_append, afterL_snoc]
  exact calmL_closed s _
theorem afterL_nil (s : Sy) : afterL s [] ≠ [] := fun h => by
 have := calmL_sub s [0] 0 (by simp)
 rw [show calmL s [0] = afterL s [] from rfl, h] at this
 cases this
theorem okSy_lb {s : Sy} (h : okSyP s) (j : Fin s.es.length) : ∃ k : Nat, s.es[j].l = (k : Int) ∧ k < s.ls.length := by
 have := (h.2.2.2.2.2 j.1 j.2).1
 unfold okEd isB at this
 simp only [Bool.and_eq_true, decide_eq_true_eq] at this
 exact ⟨s.es[j].l.toNat, by have := this.2.1; simp only [Fin.getElem_fin] at *; omega, by have := this.2; simp only [Fin.getElem_fin] at *; omega⟩
/-- Where nothing leads on, the label can be refused. -/
theorem beh_stuck {s : Sy} (hok : okSyP s) {sts : List Int} (hc : Closed1 s sts) (hne : sts ≠ []) {x : Lb} (h : behL s x sts = []) : refB s sts [x] = true := by
 have hx1 : Inc [x] := List.pairwise_singleton _ _
 cases hr : refB s sts [x] with
 | true => rfl
 | false =>
  exfalso
  obtain ⟨t, ht⟩ := List.exists_mem_of_ne_nil sts hne
  obtain ⟨y, hy, hyx⟩ := (refB_iff sts hx1).1 hr t ht
  rw [List.mem_singleton.1 hyx] at hy
  obtain ⟨k, hk, e, hv, st, hst, j, hj, hl⟩ := (accL_iff s t x).1 hy
  have hst' : st ∈ sts := calmL_least s (· ∈ sts) (fun y z hy hz => hc y hy z hz) [t] (by simpa using ht) st hst
  have : s.es[j].t ∈ behL s x sts := calmL_sub s _ _ ((behGo_iff s x sts _).2 ⟨j, by rw [(outN_mem _ _ _).1 hj]; exact hst', by rw [lbHas_at s _ hl hk, e, hv, ordLb.refl]; rfl, rfl⟩)
  rw [h] at this
  cases this
theorem open_of {s : Sy} (hok : okSyP s) (tr : List Lb) : ∀ n, n ≤ tr.length → afterL s (tr.take n) = [] → ∃ k, k < n ∧ openAt s tr k = true
 | 0, _, h => absurd h (by simpa using afterL_nil s)
 | n + 1, hn, h => by
  by_cases h0 : afterL s (tr.take n) = []
  ·obtain ⟨k, hk, ho⟩ := open_of hok tr n (by omega) h0
   exact ⟨k, by omega, ho⟩
  ·rw [afterL_take s tr n (by omega)] at h
   refine ⟨n, by omega, ?_⟩
   rw [openAt, List.drop_eq_getElem_cons (by omega)]
   exact beh_stuck hok (afterL_closed s _) h0 h

/-! ### Verdicts -/
theorem verdL_mem (s : Sy) (t : Te) (n : Int) (hn : n = 1 ∨ n = 2 ∨ n = 3) : n ∈ verdL s t ↔ verdB s t n = true := by
 rw [verdL, List.mem_filter]
 refine and_iff_right ?_
 rcases hn with rfl | rfl | rfl <;> simp
theorem verd_ne {s : Sy} (hok : okSyP s) (t : Te) : verdL s t ≠ [] := fun h => by
 have hno : ∀ n : Int, (n = 1 ∨ n = 2 ∨ n = 3) → verdB s t n = false := fun n hn => by
  cases hv : verdB s t n with
  | false => rfl
  | true =>
   have := (verdL_mem s t n hn).2 hv
   rw [h] at this
   cases this
 have h1 : passB s t = false := hno 1 (.inl rfl)
 have h2 : failB s t = false := hno 2 (.inr (.inl rfl))
 have h3 : openB s t = false := hno 3 (.inr (.inr rfl))
 cases ha : afterL s t.tr with
 | nil =>
  obtain ⟨k, hk, ho⟩ := open_of hok t.tr t.tr.length (Nat.le_refl _) (by rw [List.take_length]; exact ha)
  have := List.any_eq_false.1 h3 k (List.mem_range.2 hk)
  rw [ho] at this
  exact this rfl
 | cons x xs =>
  have g1 := List.any_eq_false.1 h1 x (by rw [ha]; simp)
  have g2 := List.any_eq_false.1 h2 x (by rw [ha]; simp)
  cases hc : comB (accL s x) t.mu
  ·rw [hc] at g2; exact g2 rfl
  ·exact g1 hc
theorem verd_none {s : Sy} {t : Te} (h : afterL s t.tr = []) : (2 : Int) ∉ verdL s t ∧ (1 : Int) ∉ verdL s t := by
 constructor
 ·rw [verdL_mem s t 2 (.inr (.inl rfl))]
  show ¬ failB s t = true
  rw [failB, h]
  simp [refB]
 ·rw [verdL_mem s t 1 (.inl rfl)]
  show ¬ passB s t = true
  rw [passB, h]
  simp
theorem sameLb_iff (x y : Lb) : sameLb x y = true ↔ x = y := by rw [sameLb, decide_eq_true_eq]; exact ordLb.iff x y
/-- A list of labels sorted, each one once. -/
def setOf (l : List Lb) : List Lb := compactB sameLb (sortB cmpLb l)
theorem setOf_mem (l : List Lb) (x : Lb) : x ∈ setOf l ↔ x ∈ l := (compactB_iff sameLb_iff _ x).trans (sortB_mem l x)
theorem setOf_inc (l : List Lb) : Inc (setOf l) := compactB_srt ordLb sameLb_iff _ (sortB_srt ordLb l)
theorem fail_less {s : Sy} {tr mu mu' : List Lb} (h1 : Inc mu) (h2 : Inc mu') (hs : ∀ x ∈ mu, x ∈ mu') (h : failB s ⟨tr, mu'⟩ = true) : failB s ⟨tr, mu⟩ = true := by
 cases hf : failB s ⟨tr, mu⟩ with
 | true => rfl
 | false =>
  have hf' : refB s (afterL s tr) mu = false := hf
  have : refB s (afterL s tr) mu' = false := (refB_iff _ h2).2 fun t ht => by
   obtain ⟨x, hx, hm⟩ := (refB_iff _ h1).1 hf' t ht
   exact ⟨x, hx, hs x hm⟩
  rw [show failB s ⟨tr, mu'⟩ = refB s (afterL s tr) mu' from rfl, this] at h
  cases h
/-- The law of verdicts. -/
theorem verdicts_law {s : Sy} {t : Te} (h : askE s [t] = 0) (more : List Lb) :
  afterE s t.tr = 0 ∧ verdR s t ≠ [] ∧ (afterR s t.tr = [] → (2 : Int) ∉ verdR s t ∧ (1 : Int) ∉ verdR s t) ∧
  (askE s [⟨t.tr, setOf (t.mu ++ more)⟩] = 0 → (2 : Int) ∈ verdR s ⟨t.tr, setOf (t.mu ++ more)⟩ → (2 : Int) ∈ verdR s t) := by
 obtain ⟨hok, _, ht⟩ := askE_ok h
 have ht := ht t (by simp)
 rw [isTestB, Bool.and_eq_true, Bool.and_eq_true] at ht
 have e1 : verdR s t = verdL s t := if_pos h
 have e2 : afterR s t.tr = afterL s t.tr := if_pos ⟨hok, ht.1.1⟩
 rw [e1, e2]
 refine ⟨?_, verd_ne hok t, verd_none, fun h' hv => ?_⟩
 ·rw [afterE, if_pos hok, if_pos ht.1.1]
 ·rw [verdR, if_pos h', verdL_mem _ _ _ (.inr (.inl rfl))] at hv
  rw [verdL_mem _ _ _ (.inr (.inl rfl))]
  exact fail_less (isSetB_inc ht.2) (setOf_inc _) (fun x hx => (setOf_mem _ x).2 (List.mem_append_left _ hx)) hv
end
section

theorem closedM_calm (s : Sy) (bs : List Bool) : closedM s bs = marksOf s.n.toNat (calmL s (mkL bs)) := by
 unfold closedM calmL
 exact marksOf_congr fun i _ => (sortI_mem _ _).symm
theorem calm_sub (s : Sy) {l l' : List Int} (h : ∀ y ∈ l, y ∈ l') : ∀ y ∈ calmL s l, y ∈ calmL s l' :=
 calmL_least s (fun y => y ∈ calmL s l') (fun y z hy hz => calmL_closed s l' y hy z hz) l fun y hy => calmL_sub s l' y (h y hy)
theorem calm_same (s : Sy) {l l' : List Int} (h : ∀ y, y ∈ l ↔ y ∈ l') (y : Int) : y ∈ calmL s l ↔ y ∈ calmL s l' :=
 ⟨calm_sub s (fun y hy => (h y).1 hy) y, calm_sub s (fun y hy => (h y).2 hy) y⟩
theorem mkL_marks (n : Nat) (l : List Int) (hl : ∀ x ∈ l, 0 ≤ x ∧ x < n) (y : Int) : y ∈ mkL (marksOf n l) ↔ y ∈ l := by
 rw [mkL_mem]
 constructor
 ·rintro ⟨i, hi, hm, rfl⟩
  rw [mark_get hi, marksOf_get, decide_eq_true_eq] at hm
  exact hm
 ·intro hy
  have := hl y hy
  refine ⟨y.toNat, by rw [marksOf_len]; omega, ?_, by omega⟩
  rw [mark_get (by rw [marksOf_len]; omega), marksOf_get, decide_eq_true_eq, Int.toNat_of_nonneg this.1]
  exact hy
theorem closedM_marks (s : Sy) (n : Nat) (hn : s.n = (n : Int)) (l : List Int) (hl : ∀ x ∈ l, 0 ≤ x ∧ x < n) : closedM s (marksOf n l) = marksOf n (calmL s l) := by
 rw [closedM_calm, hn, Int.toNat_natCast]
 exact marksOf_congr fun i _ => calm_same s (mkL_marks n l hl) _
theorem bs0_marks {n : Nat} (h : 0 < n) : bs0 n = marksOf n [0] := by
 rw [bs0, ← marksOf_nil, marksOf_set]
 rfl
theorem start_marks (s : Sy) (n : Nat) (hn : s.n = (n : Int)) (h : 0 < n) : closedM s (bs0 n) = marksOf n (calmL s [0]) := by
 rw [bs0_marks h]
 exact closedM_marks s n hn [0] fun x hx => by
  rw [List.mem_singleton] at hx
  omega
end
section

theorem mvL_iff (s : Sy) (x : Lb) (bs : List Bool) (y : Int) : y ∈ mvL s x bs s.es.length ↔ ∃ j : Fin s.es.length, mvB s x bs s.es[j] = true ∧ s.es[j].t = y := by
 rw [mvL, List.take_length, List.mem_map]
 constructor
 ·rintro ⟨e, he, rfl⟩
  obtain ⟨h1, h2⟩ := List.mem_filter.1 he
  obtain ⟨i, hi, rfl⟩ := List.getElem_of_mem h1
  exact ⟨⟨i, hi⟩, h2, rfl⟩
 ·rintro ⟨j, h, rfl⟩
  exact ⟨s.es[j], List.mem_filter.2 ⟨List.getElem_mem _, h⟩, rfl⟩
theorem okSy_ed {s : Sy} (h : okSyP s) (j : Fin s.es.length) : 0 ≤ s.es[j].f ∧ s.es[j].f < s.n ∧ 0 ≤ s.es[j].t ∧ s.es[j].t < s.n ∧ 0 ≤ s.es[j].l ∧ s.es[j].l < s.ls.length := by
 have := (h.2.2.2.2.2 j.1 j.2).1
 rwa [okEd_iff] at this
theorem mvB_iff {s : Sy} (hok : okSyP s) {n : Nat} (hn : s.n = (n : Int)) (l : List Int) (x : Lb) (hv : visB x.g = true) (j : Fin s.es.length) : mvB s x (marksOf n l) s.es[j] = true ↔ s.es[j].f ∈ l ∧ lbHas s s.es[j].l (fun y => visB y.g && decide (cmpLb y x = 0)) = true := by
 obtain ⟨h1, h2, h3, h4, h5, h6⟩ := okSy_ed hok j
 obtain ⟨fi, hfi⟩ : ∃ fi : Nat, s.es[j].f = (fi : Int) := ⟨s.es[j].f.toNat, by omega⟩
 obtain ⟨li, hli⟩ : ∃ li : Nat, s.es[j].l = (li : Int) := ⟨s.es[j].l.toNat, by omega⟩
 have hl : li < s.ls.length := by omega
 have hf : fi < (marksOf n l).length := by rw [marksOf_len]; omega
 rw [lbHas_at s _ hli hl, mvB, hfi, hli, Int.toNat_natCast, Int.toNat_natCast, mark_get hf, marksOf_get, List.getElem?_eq_getElem hl]
 simp only [Bool.and_eq_true, decide_eq_true_eq, sameLb]
 constructor
 ·rintro ⟨ha, hb⟩
  refine ⟨ha, ?_, hb⟩
  rw [ordLb.eq _ _ hb]
  exact hv
 ·rintro ⟨ha, _, hb⟩
  exact ⟨ha, hb⟩
theorem moved_marks {s : Sy} (hok : okSyP s) {n : Nat} (hn : s.n = (n : Int)) (l : List Int) (x : Lb) (hv : visB x.g = true) : mvM s n (marksOf n l) x = marksOf n (behL s x l) := by
 rw [mvM, closedM_marks s n hn _ fun y hy => by
  obtain ⟨j, _, rfl⟩ := (mvL_iff ..).1 hy
  have := okSy_ed hok j
  omega]
 refine marksOf_congr fun i _ => ?_
 refine calm_same s (fun y => ?_) _
 rw [mvL_iff, behGo_iff]
 constructor
 ·rintro ⟨j, h, e⟩
  obtain ⟨h1, h2⟩ := (mvB_iff hok hn l x hv j).1 h
  exact ⟨j, h1, h2, e⟩
 ·rintro ⟨j, h1, h2, e⟩
  exact ⟨j, (mvB_iff hok hn l x hv j).2 ⟨h1, h2⟩, e⟩
theorem after_marks {s : Sy} (hok : okSyP s) {n : Nat} (hn : s.n = (n : Int)) (tr : List Lb) (hv : ∀ x ∈ tr, visB x.g = true) : afterM s n tr = marksOf n (afterL s tr) := by
 have : ∀ (tr : List Lb) (l : List Int), (∀ x ∈ tr, visB x.g = true) → tr.foldl (mvM s n) (marksOf n l) = marksOf n (tr.foldl (fun l x => behL s x l) l) := by
  intro tr
  induction tr with
  | nil => intro l _; rfl
  | cons x tr ih =>
   intro l h
   rw [List.foldl_cons, List.foldl_cons, moved_marks hok hn l x (h x (by simp)), ih _ fun y hy => h y (by simp [hy])]
 rw [afterM, afterL, start_marks s n hn (by have := hok.1; omega), this tr _ hv]
end
section

theorem calmAdd_nodup {s : Sy} {l : List Int} {e : Ed} (h : l.Nodup) : (calmAdd s l e).Nodup := by
 unfold calmAdd
 split
 ·rename_i hc
  rw [List.nodup_append]
  refine ⟨h, by simp, ?_⟩
  intro a ha b hb e
  rw [List.mem_singleton] at hb
  subst hb
  subst e
  exact hc.2 ha
 ·exact h
theorem calmRow_nodup {s : Sy} : ∀ (is : List (Fin s.es.length)) (l : List Int), l.Nodup → (calmRow s is l).Nodup
 | [], _, h => h
 | i :: is, l, h => calmRow_nodup is _ (calmAdd_nodup (e := s.es[i]) h)
theorem calmGo_nodup {s : Sy} : ∀ (f i : Nat) (l : List Int), l.Nodup → (calmGo s f i l).Nodup
 | 0, _, _, h => by rw [calmGo]; exact h
 | f + 1, i, l, h => by
  rw [calmGo]
  split
  ·exact calmGo_nodup f _ _ (calmRow_nodup _ _ h)
  ·exact h
theorem rising_same : ∀ (l l' : List Int), l.Pairwise (· < ·) → l'.Pairwise (· < ·) → (∀ y, y ∈ l ↔ y ∈ l') → l = l'
 | [], l', _, _, h => by
  cases l' with
  | nil => rfl
  | cons y l' => exact absurd ((h y).2 (by simp)) (by simp)
 | x :: l, [], _, _, h => absurd ((h x).1 (by simp)) (by simp)
 | x :: l, y :: l', h1, h2, h => by
  obtain ⟨a1, a2⟩ := List.pairwise_cons.1 h1
  obtain ⟨b1, b2⟩ := List.pairwise_cons.1 h2
  have e : x = y := by
   rcases List.mem_cons.1 ((h x).1 (by simp)) with e | e
   ·exact e
   ·rcases List.mem_cons.1 ((h y).2 (by simp)) with e' | e'
    ·exact e'.symm
    ·have := a1 y e'
     have := b1 x e
     omega
  subst e
  congr 1
  refine rising_same l l' a2 b2 fun z => ?_
  have hz := h z
  simp only [List.mem_cons] at hz
  constructor
  ·intro hm
   have := a1 z hm
   rcases hz.1 (.inr hm) with e | e
   ·omega
   ·exact e
  ·intro hm
   have := b1 z hm
   rcases hz.2 (.inr hm) with e | e
   ·omega
   ·exact e
theorem mkL_rising (bs : List Bool) : (mkL bs).Pairwise (· < ·) := by
 unfold mkL mkT
 rw [List.pairwise_map]
 refine List.Pairwise.imp (fun {a b} (h : a < b) => by omega) ((List.pairwise_lt_range).filter _)
theorem mkL_marksOf (n : Nat) (l : List Int) (hl : ∀ x ∈ l, 0 ≤ x ∧ x < n) (hr : l.Pairwise (· < ·)) : mkL (marksOf n l) = l :=
 rising_same _ _ (mkL_rising _) hr (mkL_marks n l hl)
theorem calmL_rising (s : Sy) {l : List Int} (h : l.Nodup) : (calmL s l).Pairwise (· < ·) := by
 have h1 : (calmL s l).Pairwise (· ≤ ·) := sortI_sorted _
 have h2 : (calmL s l).Nodup := (sortI_perm _).nodup_iff.2 (calmGo_nodup _ _ _ h)
 exact List.Pairwise.imp₂ (fun {a b} (h : a ≤ b) (h' : a ≠ b) => by omega) h1 h2
theorem behAdd_nodup {s : Sy} {x : Lb} {l : List Int} {e : Ed} (h : l.Nodup) : (behAdd s x l e).Nodup := by
 unfold behAdd
 split
 ·rename_i hc
  rw [List.nodup_append]
  refine ⟨h, by simp, ?_⟩
  intro a ha b hb e
  rw [List.mem_singleton] at hb
  subst hb
  subst e
  exact hc.2 ha
 ·exact h
theorem behRow_nodup {s : Sy} {x : Lb} : ∀ (is : List (Fin s.es.length)) (l : List Int), l.Nodup → (behRow s x is l).Nodup
 | [], _, h => h
 | i :: is, l, h => behRow_nodup is _ (behAdd_nodup (e := s.es[i]) h)
theorem behGo_nodup (s : Sy) (x : Lb) (sts : List Int) : (behGo s x sts).Nodup := by
 have : ∀ (sts l : List Int), l.Nodup → (sts.foldl (fun l st => behRow s x (outN s.es st) l) l).Nodup := by
  intro sts
  induction sts with
  | nil => exact fun l h => h
  | cons st sts ih => exact fun l h => ih _ (behRow_nodup _ l h)
 exact this sts [] List.nodup_nil
theorem afterL_rising (s : Sy) (tr : List Lb) : (afterL s tr).Pairwise (· < ·) := by
 rcases List.eq_nil_or_concat tr with rfl | ⟨tr', x, rfl⟩
 ·exact calmL_rising s (l := [0]) (by simp)
 ·rw [List.concat_eq_append, afterL_snoc]
  exact calmL_rising s (behGo_nodup s x _)
end
section

theorem calmL_in {s : Sy} (hok : okSyP s) (l : List Int) (hl : ∀ y ∈ l, 0 ≤ y ∧ y < s.n) : ∀ y ∈ calmL s l, 0 ≤ y ∧ y < s.n :=
 calmL_least s (fun y => 0 ≤ y ∧ y < s.n) (fun y z _ ht => by
  obtain ⟨j, _, _, rfl⟩ := ht
  have := okSy_ed hok j
  omega) l hl
theorem behL_in {s : Sy} (hok : okSyP s) (x : Lb) (l : List Int) : ∀ y ∈ behL s x l, 0 ≤ y ∧ y < s.n :=
 calmL_in hok _ fun y hy => by
  obtain ⟨j, _, _, rfl⟩ := (behGo_iff s x l y).1 hy
  have := okSy_ed hok j
  omega
theorem afterL_in {s : Sy} (hok : okSyP s) (tr : List Lb) : ∀ y ∈ afterL s tr, 0 ≤ y ∧ y < s.n := by
 rcases List.eq_nil_or_concat tr with rfl | ⟨tr', x, rfl⟩
 ·exact calmL_in hok [0] fun y hy => by
   rw [List.mem_singleton] at hy
   have := hok.1
   omega
 ·rw [List.concat_eq_append, afterL_snoc]
  exact behL_in hok x _
theorem listed_after {s : Sy} (hok : okSyP s) {n : Nat} (hn : s.n = (n : Int)) (tr : List Lb) (hv : ∀ x ∈ tr, visB x.g = true) : mkL (afterM s n tr) = afterL s tr := by
 rw [after_marks hok hn tr hv]
 exact mkL_marksOf n _ (fun y hy => by have := afterL_in hok tr y hy; omega) (afterL_rising s tr)
end
section

theorem one_marks {n st : Nat} (h : st < n) : (List.replicate n false).set st true = marksOf n [(st : Int)] := by
 rw [← marksOf_nil, marksOf_set]
 rfl
theorem acX_iff (s : Sy) (bs : List Bool) (y : Int) : y ∈ acX s bs s.es.length ↔ ∃ j : Fin s.es.length, acB s bs s.es[j] = true ∧ s.es[j].l = y := by
 rw [acX, List.take_length, List.mem_map]
 constructor
 ·rintro ⟨e, he, rfl⟩
  obtain ⟨h1, h2⟩ := List.mem_filter.1 he
  obtain ⟨i, hi, rfl⟩ := List.getElem_of_mem h1
  exact ⟨⟨i, hi⟩, h2, rfl⟩
 ·rintro ⟨j, h, rfl⟩
  exact ⟨s.es[j], List.mem_filter.2 ⟨List.getElem_mem _, h⟩, rfl⟩
theorem accM_iff {s : Sy} (hok : okSyP s) {n st : Nat} (hn : s.n = (n : Int)) (hst : st < n) {k : Nat} (hk : k < s.ls.length) :
  markB (accM s n st) k = true ↔ visB s.ls[k].g = true ∧ ∃ y ∈ calmL s [(st : Int)], ∃ j ∈ outN s.es y, s.es[j].l = (k : Int) := by
 have hin := calmL_in hok [(st : Int)] fun y hy => by rw [List.mem_singleton.1 hy]; omega
 rw [mark_get (by rw [accM_len]; exact hk)]
 unfold accM
 rw [marksOf_get, decide_eq_true_eq, acX_iff, one_marks hst, closedM_marks s n hn _ fun y hy => by rw [List.mem_singleton.1 hy]; omega]
 have hac : ∀ j : Fin s.es.length, s.es[j].l = (k : Int) → (acB s (marksOf n (calmL s [(st : Int)])) s.es[j] = true ↔ s.es[j].f ∈ calmL s [(st : Int)] ∧ visB s.ls[k].g = true) := fun j hj => by
  obtain ⟨h1, h2, _⟩ := okSy_ed hok j
  obtain ⟨fi, hfi⟩ : ∃ fi : Nat, s.es[j].f = (fi : Int) := ⟨s.es[j].f.toNat, by omega⟩
  have hf : fi < (marksOf n (calmL s [(st : Int)])).length := by rw [marksOf_len]; omega
  rw [acB, hfi, hj, Int.toNat_natCast, Int.toNat_natCast, mark_get hf, marksOf_get, List.getElem?_eq_getElem hk]
  simp only [Bool.and_eq_true, decide_eq_true_eq]
 constructor
 ·rintro ⟨j, h, hl⟩
  obtain ⟨h1, h2⟩ := (hac j hl).1 h
  exact ⟨h2, _, h1, j, (outN_mem _ _ _).2 rfl, hl⟩
 ·rintro ⟨hv, y, hy, j, hj, hl⟩
  rw [outN_mem] at hj
  exact ⟨j, (hac j hl).2 ⟨by rw [hj]; exact hy, hv⟩, hl⟩
theorem hasB_iff (l : List Lb) (x : Lb) : hasB l x = true ↔ x ∈ l := by
 rw [hasB, List.any_eq_true]
 constructor
 ·rintro ⟨y, hy, h⟩
  rw [sameLb, decide_eq_true_eq, ordLb.iff] at h
  rw [← h]
  exact hy
 ·exact fun h => ⟨x, h, by rw [sameLb, decide_eq_true_eq]; exact ordLb.refl x⟩
theorem acp_com {s : Sy} (hok : okSyP s) {n st : Nat} (hn : s.n = (n : Int)) (hst : st < n) {l : List Lb} (hl : Inc l) : acpB s n st l = comB (accL s (st : Int)) l := by
 rw [Bool.eq_iff_iff, comB_iff hl, acpB, acpFrom, List.any_eq_true]
 constructor
 ·rintro ⟨k, hk, h⟩
  have hk' := List.mem_range.1 hk
  rw [List.getElem?_eq_getElem hk', Bool.and_eq_true] at h
  obtain ⟨hv, hx⟩ := (accM_iff hok hn hst hk').1 h.1
  exact ⟨s.ls[k], (accL_iff s _ _).2 ⟨k, hk', rfl, hv, hx⟩, (hasB_iff _ _).1 h.2⟩
 ·rintro ⟨x, hx, hxl⟩
  obtain ⟨k, hk, rfl, hv, hx⟩ := (accL_iff s _ _).1 hx
  refine ⟨k, List.mem_range.2 hk, ?_⟩
  rw [List.getElem?_eq_getElem hk, Bool.and_eq_true]
  exact ⟨(accM_iff hok hn hst hk).2 ⟨hv, hx⟩, (hasB_iff _ _).2 hxl⟩
theorem refFrom_ref {s : Sy} (hok : okSyP s) {n : Nat} (hn : s.n = (n : Int)) {L : List Int} (hL : ∀ y ∈ L, 0 ≤ y ∧ y < s.n) {l : List Lb} (hl : Inc l) : refFrom s n (marksOf n L) l n = refB s L l := by
 rw [Bool.eq_iff_iff, refB, refFrom, List.any_eq_true, List.any_eq_true]
 constructor
 ·rintro ⟨k, hk, h⟩
  have hk' := List.mem_range.1 hk
  rw [mark_get (by rw [marksOf_len]; exact hk'), marksOf_get, Bool.and_eq_true, decide_eq_true_eq, acp_com hok hn hk' hl] at h
  exact ⟨(k : Int), h.1, h.2⟩
 ·rintro ⟨t, ht, h⟩
  have := hL t ht
  obtain ⟨k, rfl⟩ : ∃ k : Nat, t = (k : Int) := ⟨t.toNat, by omega⟩
  have hk : k < n := by omega
  refine ⟨k, List.mem_range.2 hk, ?_⟩
  rw [mark_get (by rw [marksOf_len]; exact hk), marksOf_get, Bool.and_eq_true, decide_eq_true_eq, acp_com hok hn hk hl]
  exact ⟨ht, h⟩
theorem set_inc {l : List Lb} (h : isSetB l = true) : Inc l := by
 rw [isSetB, Bool.and_eq_true, Bool.and_eq_true] at h
 exact (inc_iff l).1 h.1.1
theorem trace_vis {tr : List Lb} (h : isTraceB tr = true) : ∀ x ∈ tr, visB x.g = true := fun x hx => by
 rw [isTraceB, Bool.and_eq_true, List.all_eq_true] at h
 have := h.2 x hx
 rw [okV, Bool.and_eq_true] at this
 exact this.2
theorem ref_after {s : Sy} (hok : okSyP s) {n : Nat} (hn : s.n = (n : Int)) {tr l : List Lb} (ht : isTraceB tr = true) (hl : Inc l) : refFrom s n (afterM s n tr) l n = refB s (afterL s tr) l := by
 rw [after_marks hok hn tr (trace_vis ht)]
 exact refFrom_ref hok hn (afterL_in hok tr) hl
end
section
open Go.Shelf

def RAfPost (r : List Int) (err : Int) (w : World) (e : Ending) (w' : World) : Prop := ∃ A c, e = .returned (.tuple #[.slice A r.length c, .int .i64 err]) ∧ ROwn RInt 1 3 w.heap.size (fun _ => False) w' r (.slice A r.length c) ∧ Ext w w'
set_option maxHeartbeats 4000000 in
set_option maxRecDepth 100000 in
theorem rAfter_c (S : Nat → Prop) (s : Sy) (cs : List Value) (tr : List Lb) (v : Value) (w : World) (hx : RSy S w s cs) (ht : RLbs S w tr [v]) :
  Calls Tryz.prog 43 #[.agg cs.toArray, v] w (RAfPost (afterR s tr) (afterE s tr) w) := by
 have hck := fun W (hW : Ext w W) => Check17_c S s cs W (RSy.good.bel hx hW)
 have htr := fun W (hW : Ext w W) => Trace_c S tr v W (RLbs.good.bel ht hW)
 have haf := fun (hok : okSyP s) n hn (hl : tr.length ≤ 1000000) W (hW : Ext w W) => rafter_c S s hok cs n hn tr v W (RSy.good.bel hx hW) (RLbs.good.bel ht hW) hl
 obtain ⟨_, v1, u1, rfl, hv, hu⟩ := id hx
 obtain ⟨Al, cl, rfl, hcl1, hcl0⟩ := hv.val
 obtain ⟨Ae, ce, rfl, hce, hce0⟩ := hu.val
 obtain ⟨At, ct, rfl, hct, hct0⟩ := ht.val
 clear hx hv hu ht
 by_cases hok : okSyP s
 rotate_left
 ·have he : afterE s tr = 8 := by rw [afterE, if_neg hok]
  have hr : afterR s tr = [] := by rw [afterR, if_neg (fun h => hok h.1)]
  rw [ckSy_no hok] at hck
  rw [he, hr]
  clear he hr haf htr hok
  go_enter Tryz.func43, Tryz.ntmps43
  go_wp2_with fail
  refine (hck _ bel).mono ?_
  rintro e w1 ⟨rfl, h1⟩
  go_wp2_with fail
  go_ret2
  exact ⟨none, 0, rfl, ROwn.nil .., bel⟩
 rw [ckSy_yes hok] at hck
 cases htb : isTraceB tr
 ·have he : afterE s tr = 1 := by rw [afterE, if_pos hok, htb]; rfl
  have hr : afterR s tr = [] := by rw [afterR, htb]; exact if_neg (fun h => by cases h.2)
  rw [htb] at htr
  rw [he, hr]
  clear he hr haf hok htb
  go_enter Tryz.func43, Tryz.ntmps43
  go_wp2_with fail
  refine (hck _ bel).mono ?_
  rintro e w1 ⟨rfl, h1⟩
  have hcl := h1.cells
  go_wp2_with fail
  refine (htr _ bel).mono ?_
  rintro e w2 ⟨rfl, h2⟩
  go_wp2_with fail
  go_ret2
  exact ⟨none, 0, rfl, ROwn.nil .., bel⟩
 have he : afterE s tr = 0 := by rw [afterE, if_pos hok, htb]; rfl
 have hr : afterR s tr = afterL s tr := by rw [afterR, if_pos ⟨hok, htb⟩]
 rw [htb] at htr
 rw [he, hr]
 have hn0 := hok.1
 have hn2 := hok.2.1
 obtain ⟨n, hn⟩ : ∃ n : Nat, s.n = (n : Int) := ⟨s.n.toNat, by omega⟩
 rw [isTraceB, Bool.and_eq_true, decide_eq_true_eq, List.all_eq_true] at htb
 have hli := listed_after hok hn tr fun x hx => by have h := htb.2 x hx; rw [okV, Bool.and_eq_true] at h; exact h.2
 have hal := afterM_len s n hn tr
 have haf' := haf hok n hn (by have := htb.1; omega)
 rw [hn] at hck haf' ⊢
 rw [← hli]
 obtain ⟨AM, hAM⟩ : ∃ AM, afterM s n tr = AM := ⟨_, rfl⟩
 rw [hAM] at hal haf' ⊢
 have hn3 : n ≤ 20000 := by omega
 obtain ⟨W0, hW0⟩ : ∃ W0, w.alloc (.cells #[.int .i64 (n : Int), .slice Al s.ls.length cl, .slice Ae s.es.length ce] 25) = W0 := ⟨_, rfl⟩
 have hE0 : Ext w W0 := by rw [← hW0]; exact (Ext.refl w).alloc _
 have hB0 : BoxL W0 w.heap.size 25 [.int .i64 (n : Int), .slice Al s.ls.length cl, .slice Ae s.es.length ce] := by rw [← hW0]; exact BoxL.new w 25 _
 have x0 := hB0.cell 0 _
 have x1 := hB0.cell 1 _
 have x2 := hB0.cell 2 _
 have xz := hB0.lt
 have HB0 := Lib.hid hB0
 have HE0 := Lib.hid hE0
 have HW0 := Lib.hid hW0
 have hc0 := hck W0 hE0
 clear hok he hr htb hli hn haf hAM hn0 hn2 hW0 hB0 hE0
 go_enter Tryz.func43, Tryz.ntmps43
 go_upto_region 1 with (fail)
 rw [HW0.out]
 go_wp2_with fail
 refine hc0.mono ?_
 rintro e w1 ⟨rfl, h1⟩
 have hE1 := HE0.out.trans' h1
 have hB1 := HB0.out.ext h1
 clear x0 x1 x2 xz
 go_wp2_with fail
 refine (htr _ hE1).mono ?_
 rintro e w2 ⟨rfl, h2⟩
 have hE2 := hE1.trans' h2
 have hB2 := hB1.ext h2
 have x0 := hB2.cell 0 _
 have x1 := hB2.cell 1 _
 have x2 := hB2.cell 2 _
 have xz := hB2.lt
 go_wp2_with fail
 refine (haf' _ hE2).mono ?_
 rintro e w3 ⟨A3, c3, rfl, ho, h3⟩
 have hE3 := hE2.trans' h3
 have hc3 := listed_c (fun _ => True) AM (.slice A3 n c3) w3 ((RSl.good RBool.good).mono (ho.sl RBool.good (by decide)) fun _ _ _ => trivial) (by omega)
 go_wp2_with fail
 refine hc3.mono ?_
 rintro e w4 ⟨A4, c4, rfl, ho4, h4⟩
 go_wp2_with fail
 go_ret2
 exact ⟨A4, c4, rfl, ho4.base hE3.size, hE3.trans' h4⟩
end
section
set_option maxHeartbeats 1000000
set_option maxRecDepth 100000
/- The reference's Set, IsTest, CheckTest: walked. -/

theorem Set_c (S : Nat → Prop) (l : List Lb) (v : Value) (w : World) (hx : RLbs S w l [v]) :
  Calls Tryz.prog 109 #[v] w fun e w' => e = .returned (.bool (isSetB l)) ∧ Ext w w' := by
 have hcon := fun W (hb : Ext w W) => right_c S l v W (RLbs.good.bel hx hb)
 obtain ⟨A, c, rfl, hc, hc0⟩ := hx.val
 have HX := Lib.hid hx
 clear hx
 by_cases h64 : l.length ≤ 64
 rotate_left
 ·have HV := Lib.hid (show isSetB l = false from by simp [isSetB, h64])
  clear hcon
  go_enter Tryz.func109, Tryz.ntmps109
  go_wp2_with fail
  go_ret
  exact ⟨by rw [HV.out]; rfl, bel⟩
 cases ho : l.all okV
 ·have HV := Lib.hid (show isSetB l = false from by simp [isSetB, ho])
  rw [ho] at hcon
  clear ho
  go_enter Tryz.func109, Tryz.ntmps109
  go_wp2_with fail
  refine (hcon _ bel).mono ?_
  rintro e w1 ⟨rfl, h1⟩
  go_wp2_with fail
  go_ret
  exact ⟨by rw [HV.out]; rfl, bel⟩
 have HV := Lib.hid (show isSetB l = incLb l from by simp [isSetB, ho, h64])
 rw [ho] at hcon
 clear ho
 go_enter Tryz.func109, Tryz.ntmps109
 go_wp2_with fail
 refine (hcon _ bel).mono ?_
 rintro e w1 ⟨rfl, h1⟩
 replace HX := Lib.hid (RLbs.good.bel HX.out h1)
 clear hcon
 go_wp2_with fail
 go_loopw [3] (fun i wr => ∃ k : Nat, 1 ≤ k ∧ (k = 1 ∨ k ≤ l.length) ∧ i = .int .i64 k ∧ ExtD w1 wr ∧ Hid (∀ j, (h : j + 1 < l.length) → j + 1 < k → cmpLb l[j] l[j + 1] < 0)) (fun i _ => l.length - (intOf i).toNat)
 case atStart => exact ⟨1, by omega, .inl rfl, rfl, ExtD.refl _, fun j _ hj => absurd hj (by omega)⟩
 case round =>
  obtain ⟨k, hk1, hk, rfl, hE, hz⟩ := hrel
  by_cases hlt : k < l.length
  ·obtain ⟨k, rfl⟩ : ∃ m, k = m + 1 := ⟨k - 1, by omega⟩
   have hk0 : k < l.length := by omega
   obtain ⟨b, off, cs, rfl, hb, hs, hl, hr, hcell⟩ := (RLbs.good.ext HX.out hE).get k hk0
   obtain ⟨b', off', cs', he, hb', hs', hl', hr', hcell'⟩ := (RLbs.good.ext HX.out hE).get (k + 1) hlt
   injection he with he
   injection he with he1 he2
   subst he1 he2
   obtain ⟨_, v1, rfl, hv1⟩ := id hr
   obtain ⟨_, v2, rfl, hv2⟩ := id hr'
   have g0 := hcell.get 0 _
   have g1 := hcell.get 1 _
   have g0' := hcell'.get 0 _
   have g1' := hcell'.get 1 _
   simp only [Nat.add_zero] at g0 g0'
   have hcmp := fun W (hW : ExtD wr W) => rCompareLabels_c S _ _ _ _ W (RLb.good.ext hr hW) (RLb.good.ext hr' hW)
   have z1 : (0 : Int) ≤ (k : Int) := by omega
   have z2 : ((k : Int) + 1) < (l.length : Int) := by omega
   have z3 : (0 : Int) ≤ (k : Int) + 1 := by omega
   have z4 : (k : Int) < (l.length : Int) := by omega
   clear hcell hcell' hl hl' hs hs' hv1 hv2 hr hr'
   have y1 : IntKind.i64.wrap ((k : Int) + 1 - 1) = (k : Int) := by rw [IntWalk.i64_in _ (by omega)]; omega
   have y2 : IntKind.i64.wrap (k : Int) = (k : Int) := IntWalk.i64_in _ (by omega)
   by_cases hc2 : cmpLb l[k] l[k + 1] < 0
   ·have HC := Lib.hid hc2
    have hd : decide (cmpLb l[k] l[k + 1] ≥ 0) = false := by simp; omega
    have hd' : decide (0 ≤ cmpLb l[k] l[k + 1]) = false := by simp; omega
    clear hc2
    go_wp2_with fail
    go_region_held3 (fun W => W.cell? ⟨b, off + k * 2, none⟩ = some (.int .i64 l[k].g) ∧ W.cell? ⟨b, off + k * 2 + 1, none⟩ = some v1 ∧ W.cell? ⟨b, off + (k + 1) * 2, none⟩ = some (.int .i64 l[k + 1].g) ∧ W.cell? ⟨b, off + (k + 1) * 2 + 1, none⟩ = some v2)
     (first | (refine ⟨?_, ?_, ?_, ?_⟩ <;> go_simp <;> done) | exact hx1.k4 (by assumption) | exact ((ExtD.refl _).alloc _).k4 (by assumption))
     (first | (go_at_call 172; refine (hcmp _ extd).mono ?_; rintro e w2 ⟨rfl, hx1⟩))
    clear y1 y2
    go_wp2_with fail
    go_roundw
    case rel =>
     refine ⟨k + 1 + 1, by omega, .inr (by omega), by go_num, extd, fun j h hj => ?_⟩
     rcases Nat.lt_or_ge j k with h' | h'
     ·exact hz j h (by omega)
     ·obtain rfl : j = k := by omega
      exact HC.out
    case measure => simp [intOf]; omega
   ·have HC := Lib.hid (show incLb l = false from by
     cases h : incLb l with
     | false => rfl
     | true => exact absurd ((incLb_iff l).1 h k hlt) hc2)
    have hd' : 0 ≤ cmpLb l[k] l[k + 1] := by omega
    clear hc2
    go_wp2_with fail
    go_region_held3 (fun W => W.cell? ⟨b, off + k * 2, none⟩ = some (.int .i64 l[k].g) ∧ W.cell? ⟨b, off + k * 2 + 1, none⟩ = some v1 ∧ W.cell? ⟨b, off + (k + 1) * 2, none⟩ = some (.int .i64 l[k + 1].g) ∧ W.cell? ⟨b, off + (k + 1) * 2 + 1, none⟩ = some v2)
     (first | (refine ⟨?_, ?_, ?_, ?_⟩ <;> go_simp <;> done) | exact hx1.k4 (by assumption) | exact ((ExtD.refl _).alloc _).k4 (by assumption))
     (first | (go_at_call 172; refine (hcmp _ extd).mono ?_; rintro e w2 ⟨rfl, hx1⟩))
    clear y1 y2
    go_wp2_with fail
    go_ret
    exact ⟨by rw [HV.out, HC.out]; rfl, bel⟩
  ·have HC := Lib.hid ((incLb_iff l).2 fun i hi => hz i hi (by omega))
   clear hz
   go_wp2_with fail
   go_ret
   exact ⟨by rw [HV.out, HC.out]; rfl, bel⟩

theorem IsTest_c (S : Nat → Prop) (t : Te) (cs : List Value) (w : World) (hx : RTe S w t cs) :
  Calls Tryz.prog 111 #[.agg cs.toArray] w fun e w' => e = .returned (.bool (isTestB t)) ∧ Ext w w' := by
 obtain ⟨v, u, rfl, hv, hu⟩ := id hx
 have h1 := fun W (hb : Ext w W) => Trace_c S t.tr v W (RLbs.good.bel hv hb)
 have h2 := fun W (hb : Ext w W) => Set_c S t.mu u W (RLbs.good.bel hu hb)
 obtain ⟨A, c, rfl, hc, hc0⟩ := hv.val
 obtain ⟨A', c', rfl, hc', hc0'⟩ := hu.val
 clear hx hv hu
 cases ha : isTraceB t.tr with
 | false =>
  have HV := Lib.hid (show isTestB t = false from by simp [isTestB, ha])
  rw [ha] at h1
  clear ha h2
  go_enter Tryz.func111, Tryz.ntmps111
  go_wp2_with fail
  refine (h1 _ bel).mono ?_
  rintro e w1 ⟨rfl, hw1⟩
  go_wp2_with fail
  go_ret
  exact ⟨by rw [HV.out]; rfl, bel⟩
 | true =>
  rw [ha] at h1
  cases hb : isSetB t.mu with
  | false =>
   have HV := Lib.hid (show isTestB t = false from by simp [isTestB, hb])
   rw [hb] at h2
   clear ha hb
   go_enter Tryz.func111, Tryz.ntmps111
   go_wp2_with fail
   refine (h1 _ bel).mono ?_
   rintro e w1 ⟨rfl, hw1⟩
   have hc1 := hw1.cells
   go_wp2_with fail
   refine (h2 _ bel).mono ?_
   rintro e w2 ⟨rfl, hw2⟩
   go_wp2_with fail
   go_ret
   exact ⟨by rw [HV.out]; rfl, bel⟩
  | true =>
   rw [hb] at h2
   have hmk : isTestB t = decide (0 < t.mu.length) := by simp [isTestB, ha, hb]
   clear ha hb
   obtain ⟨n, hn⟩ : ∃ n, t.mu.length = n := ⟨_, rfl⟩
   rw [hn] at hc' h2 hmk
   rw [hn]
   clear hn
   by_cases hz : 0 < n
   ·have HV := Lib.hid (hmk.trans (decide_eq_true hz))
    clear hmk
    go_enter Tryz.func111, Tryz.ntmps111
    go_wp2_with fail
    refine (h1 _ bel).mono ?_
    rintro e w1 ⟨rfl, hw1⟩
    have hc1 := hw1.cells
    have hsz : w.heap.size < w1.heap.size := by have := hw1.size; simp at this; omega
    go_wp2_with fail
    refine (h2 _ bel).mono ?_
    rintro e w2 ⟨rfl, hw2⟩
    have hc2 := hw2.cells
    go_wp2_with fail
    go_ret
    exact ⟨by rw [HV.out]; rfl, bel⟩
   ·have HV := Lib.hid (hmk.trans (decide_eq_false hz))
    clear hmk
    go_enter Tryz.func111, Tryz.ntmps111
    go_wp2_with fail
    refine (h1 _ bel).mono ?_
    rintro e w1 ⟨rfl, hw1⟩
    have hc1 := hw1.cells
    have hsz : w.heap.size < w1.heap.size := by have := hw1.size; simp at this; omega
    go_wp2_with fail
    refine (h2 _ bel).mono ?_
    rintro e w2 ⟨rfl, hw2⟩
    have hc2 := hw2.cells
    go_wp2_with fail
    go_ret
    exact ⟨by rw [HV.out]; rfl, bel⟩
theorem rCheckTest_c (S : Nat → Prop) (t : Te) (cs : List Value) (w : World) (hx : RTe S w t cs) :
  Calls Tryz.prog 46 #[.agg cs.toArray] w fun e w' => e = .returned (.int .i64 (ckTe t)) ∧ Ext w w' := by
 have hc1 := fun W (hb : Ext w W) => IsTest_c S t cs W (RTe.good.bel hx hb)
 obtain ⟨v, u, rfl, hv, hu⟩ := id hx
 obtain ⟨A, c, rfl, hc, hc0⟩ := hv.val
 obtain ⟨A', c', rfl, hc', hc0'⟩ := hu.val
 clear hx hv hu
 cases hb : isTestB t
 all_goals
  have HA := Lib.hid (show ckTe t = if isTestB t then 0 else 340 from rfl)
  rw [hb] at hc1 HA
  simp only [if_true, Bool.false_eq_true, if_false] at HA
  clear hb
  go_enter Tryz.func46, Tryz.ntmps46
  go_wp2_with fail
  refine (hc1 _ bel).mono ?_
  rintro e w1 ⟨rfl, h1⟩
  go_wp2_with fail
  go_ret
  exact ⟨by rw [HA.out]; rfl, bel⟩
end
section
open Go.Shelf

set_option maxHeartbeats 4000000 in
set_option maxRecDepth 100000 in
theorem rRefuses_c (S : Nat → Prop) (s : Sy) (cs : List Value) (tr l : List Lb) (v u : Value) (w : World) (hx : RSy S w s cs) (ht : RLbs S w tr [v]) (hl : RLbs S w l [u]) :
  Calls Tryz.prog 44 #[.agg cs.toArray, v, u] w fun e w' => e = .returned (.tuple #[.bool (refusesR s tr l), .int .i64 (refusesE s tr l)]) ∧ Ext w w' := by
 have hck := fun W (hW : Ext w W) => Check17_c S s cs W (RSy.good.bel hx hW)
 have htr := fun W (hW : Ext w W) => Trace_c S tr v W (RLbs.good.bel ht hW)
 have hse := fun W (hW : Ext w W) => Set_c S l u W (RLbs.good.bel hl hW)
 have haf := fun (hok : okSyP s) n hn (hl : tr.length ≤ 1000000) W (hW : Ext w W) => rafter_c (fun _ => True) s hok cs n hn tr v W (RSy.good.bel (RSy.good.mono hx fun _ _ _ => trivial) hW) (RLbs.good.bel (RLbs.good.mono ht fun _ _ _ => trivial) hW) hl
 have href := fun (hok : okSyP s) n hn bs hb vb W (hW : Ext w W) (hm : RSl RBool 1 (fun _ => True) W bs [vb]) => rrefuses_c (fun _ => True) s hok cs n hn bs hb l vb u W (RSy.good.bel (RSy.good.mono hx fun _ _ _ => trivial) hW) hm (RLbs.good.bel (RLbs.good.mono hl fun _ _ _ => trivial) hW)
 obtain ⟨_, v1, u1, rfl, hv, hu⟩ := id hx
 obtain ⟨Al, cl, rfl, hcl1, hcl0⟩ := hv.val
 obtain ⟨Ae, ce, rfl, hce, hce0⟩ := hu.val
 obtain ⟨At, ct, rfl, hct, hct0⟩ := ht.val
 obtain ⟨Au, cu, rfl, hcu, hcu0⟩ := hl.val
 clear hx hv hu ht hl
 by_cases hok : okSyP s
 rotate_left
 ·have HE : Hid (refusesE s tr l = 8) := if_neg hok
  have HR : Hid (refusesR s tr l = false) := if_neg fun h => hok h.1
  rw [ckSy_no hok] at hck
  clear haf htr hok hse href
  go_enter Tryz.func44, Tryz.ntmps44
  go_wp2_with fail
  refine (hck _ bel).mono ?_
  rintro e w1 ⟨rfl, h1⟩
  go_wp2_with fail
  go_ret2
  exact ⟨by rw [HE.out, HR.out]; rfl, bel⟩
 rw [ckSy_yes hok] at hck
 cases htb : isTraceB tr
 ·have HE : Hid (refusesE s tr l = 1) := by show _ = _; rw [refusesE, if_pos hok, htb]; rfl
  have HR : Hid (refusesR s tr l = false) := by show _ = _; rw [refusesR, htb]; exact if_neg fun h => by cases h.2
  rw [htb] at htr
  obtain ⟨bb, hbb⟩ : ∃ bb, isSetB l = bb := ⟨_, rfl⟩
  rw [hbb] at hse
  clear haf hok htb href hbb
  go_enter Tryz.func44, Tryz.ntmps44
  go_wp2_with fail
  refine (hck _ bel).mono ?_
  rintro e w1 ⟨rfl, h1⟩
  go_wp2_with fail
  refine (htr _ bel).mono ?_
  rintro e w2 ⟨rfl, h2⟩
  go_wp2_with fail
  refine (hse _ bel).mono ?_
  rintro e w3 ⟨rfl, h3⟩
  go_wp2_with fail
  go_ret2
  exact ⟨by rw [HE.out, HR.out]; rfl, bel⟩
 rw [htb] at htr
 cases hsb : isSetB l
 ·have HE : Hid (refusesE s tr l = 1) := by show _ = _; rw [refusesE, if_pos hok, htb, hsb]; rfl
  have HR : Hid (refusesR s tr l = false) := by show _ = _; rw [refusesR, htb, hsb]; exact if_neg fun h => by cases h.2
  rw [hsb] at hse
  clear haf hok htb href hsb
  go_enter Tryz.func44, Tryz.ntmps44
  go_wp2_with fail
  refine (hck _ bel).mono ?_
  rintro e w1 ⟨rfl, h1⟩
  go_wp2_with fail
  refine (htr _ bel).mono ?_
  rintro e w2 ⟨rfl, h2⟩
  go_wp2_with fail
  refine (hse _ bel).mono ?_
  rintro e w3 ⟨rfl, h3⟩
  go_wp2_with fail
  go_ret2
  exact ⟨by rw [HE.out, HR.out]; rfl, bel⟩
 rw [hsb] at hse
 have hn0 := hok.1
 obtain ⟨n, hn⟩ : ∃ n : Nat, s.n = (n : Int) := ⟨s.n.toNat, by omega⟩
 have HE : Hid (refusesE s tr l = 0) := by show _ = _; rw [refusesE, if_pos hok, htb, hsb]; rfl
 have HR : Hid (refusesR s tr l = refFrom s n (afterM s n tr) l n) := by
  show _ = _
  rw [ref_after hok hn htb (set_inc hsb), refusesR, if_pos ⟨hok, by rw [htb, hsb]; rfl⟩]
 have hal := afterM_len s n hn tr
 rw [isTraceB, Bool.and_eq_true, decide_eq_true_eq] at htb
 have haf' := haf hok n hn (by have := htb.1; omega)
 obtain ⟨AM, hAM⟩ : ∃ AM, afterM s n tr = AM := ⟨_, rfl⟩
 rw [hAM] at hal haf' HR
 have href' := href hok n hn AM hal
 rw [hn] at hck haf' href' ⊢
 obtain ⟨W0, hW0⟩ : ∃ W0, w.alloc (.cells #[.int .i64 (n : Int), .slice Al s.ls.length cl, .slice Ae s.es.length ce] 25) = W0 := ⟨_, rfl⟩
 have hE0 : Ext w W0 := by rw [← hW0]; exact (Ext.refl w).alloc _
 have hB0 : BoxL W0 w.heap.size 25 [.int .i64 (n : Int), .slice Al s.ls.length cl, .slice Ae s.es.length ce] := by rw [← hW0]; exact BoxL.new w 25 _
 have x0 := hB0.cell 0 _
 have x1 := hB0.cell 1 _
 have x2 := hB0.cell 2 _
 have xz := hB0.lt
 have HB0 := Lib.hid hB0
 have HE0 := Lib.hid hE0
 have HW0 := Lib.hid hW0
 have hc0 := hck W0 hE0
 obtain ⟨p0, hp0⟩ : ∃ p0, w.heap.size = p0 := ⟨_, rfl⟩
 have HP0 := Lib.hid hp0
 rw [hp0] at HB0 x0 x1 x2 xz
 clear hok htb hsb hn haf href hAM hn0 hW0 hB0 hE0 hck hp0
 go_enter Tryz.func44, Tryz.ntmps44
 go_upto_region 1 with (fail)
 rw [HW0.out, HP0.out]
 go_wp2_with fail
 refine hc0.mono ?_
 rintro e w1 ⟨rfl, h1⟩
 have hE1 := HE0.out.trans' h1
 have hB1 := HB0.out.ext h1
 clear x0 x1 x2 xz
 go_wp2_with fail
 refine (htr _ hE1).mono ?_
 rintro e w2 ⟨rfl, h2⟩
 have hE2 := hE1.trans' h2
 have hB2 := hB1.ext h2
 go_wp2_with fail
 refine (hse _ hE2).mono ?_
 rintro e w3 ⟨rfl, h3⟩
 have hE3 := hE2.trans' h3
 have hB3 := hB2.ext h3
 have x0 := hB3.cell 0 _
 have x1 := hB3.cell 1 _
 have x2 := hB3.cell 2 _
 have xz := hB3.lt
 clear hB1 hB2 hB3
 go_wp2_with fail
 go_region_held3 (fun W => W.cell? ⟨p0, 0, none⟩ = some (.int .i64 (n : Int)) ∧ W.cell? ⟨p0, 1, none⟩ = some (.slice Al s.ls.length cl) ∧ W.cell? ⟨p0, 2, none⟩ = some (.slice Ae s.es.length ce))
  (first | (refine ⟨?_, ?_, ?_⟩ <;> go_simp <;> done) | exact Ext.k3 hx1 (by assumption) | exact Ext.k3 (ExtD.ext hx1) (by assumption) | exact Ext.k3 ((Ext.refl _).alloc _) (by assumption))
  (first | (go_at_call 86; refine (haf' _ bel).mono ?_; rintro e w4 ⟨A4, c4, rfl, ho4, hx1⟩) | (go_at_call 110; refine (href' _ _ bel ((RSl.good RBool.good).mono (ho4.sl RBool.good (by decide)) fun _ _ _ => trivial)).mono ?_; rintro e w5 ⟨rfl, hx1⟩))
 go_wp2_with fail
 go_ret2
 exact ⟨by rw [HE.out, HR.out]; rfl, bel⟩
end
end Go.Proofs.YtegenalcheooeaaGreat
