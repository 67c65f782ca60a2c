/- Of the proof of a law of the suites: PSound. -/
import Derived.Test.YtegenalcheooeaaGreatCB01
/- Tests are sound and exhaustive: the plain law. -/
set_option linter.unusedSectionVars false
set_option linter.unusedSimpArgs false
set_option linter.unusedVariables false
namespace Go.Proofs.YtegenalcheooeaaGreat
open Go.RowKit
attribute [local go_sem] cell?_exto

theorem isTraceB_snoc {tr : List Lb} {x : Lb} (h : tr.all okV = true) (hx : okV x = true) : (tr ++ [x]).all okV = true := by simp [List.all_append, h, hx]
/-- A place of a system. -/
structure PlOk (s : Sy) (d : Nat) (p : Pl) : Prop where
  st : p.st = afterL s p.tr
  ne : p.st ≠ []
  ok : p.tr.all okV = true
  len : p.tr.length ≤ d
theorem plNext_fit {s : Sy} (hok : okSyP s) {d : Nat} {lev : List Pl} (h : ∀ p ∈ lev, PlOk s d p) : ∀ p ∈ plNext s lev, PlOk s (d + 1) p := fun p hp => by
  obtain ⟨q, hq, hp⟩ := List.mem_flatMap.1 hp
  obtain ⟨x, hx, hp⟩ := List.mem_flatMap.1 hp
  unfold plOne at hp
  split at hp
  · rename_i hc
    rw [List.mem_singleton.1 hp]
    have hq' := h q hq
    obtain ⟨j, hj, rfl⟩ := List.mem_iff_getElem.1 hx
    refine ⟨?_, fun e => ?_, isTraceB_snoc hq'.ok ?_, ?_⟩
    · show behL s _ q.st = afterL s (q.tr ++ [_])
      rw [afterL_snoc, hq'.st]
    · rw [show behL s s.ls[j] q.st = [] from e] at hc
      exact absurd hc.2 (by simp)
    · rw [okV, (hok.2.2.2.2.1 j hj).1, hc.1]
      rfl
    · show (q.tr ++ [_]).length ≤ _
      rw [List.length_append, List.length_singleton]
      exact Nat.succ_le_succ hq'.len
  · cases hp
theorem PlOk.mono {s : Sy} {d e : Nat} {p : Pl} (h : PlOk s d p) (hde : d ≤ e) : PlOk s e p := ⟨h.st, h.ne, h.ok, Nat.le_trans h.len hde⟩
theorem placesGo_fit {s : Sy} (hok : okSyP s) (D : Nat) : ∀ (d k : Nat) (out lev r : List Pl), k + d = D → (∀ p ∈ out, PlOk s D p) → (∀ p ∈ lev, PlOk s k p) → placesGo s d out lev = some r → ∀ p ∈ r, PlOk s D p
  | 0, k, out, lev, r, _, ho, _, e => by
    rw [placesGo] at e
    injection e with e
    exact e ▸ ho
  | d + 1, k, out, lev, r, hk, ho, hl, e => by
    rw [placesGo] at e
    split at e
    · cases e
    · have hn := plNext_fit hok hl
      refine placesGo_fit hok D d (k + 1) _ _ r (by omega) (fun p hp => ?_) hn e
      rcases List.mem_append.1 hp with hp | hp
      · exact ho p hp
      · exact (hn p hp).mono (by omega)
theorem placesL_fit {s : Sy} (hok : okSyP s) {d : Nat} {r : List Pl} (e : placesL s d = some r) : ∀ p ∈ r, PlOk s d p := by
  have h0 : PlOk s 0 ⟨[], calmL s [0]⟩ := ⟨rfl, afterL_nil s, rfl, Nat.le_refl _⟩
  exact placesGo_fit hok d d 0 _ _ r (by omega) (fun p hp => by rw [List.mem_singleton.1 hp]; exact h0.mono (Nat.zero_le _)) (fun p hp => by rw [List.mem_singleton.1 hp]; exact h0) e
theorem genGo_iff (s : Sy) : ∀ (ps : List Pl) (out r : List Te), out.length ≤ 4000 → genGo s ps out = some r → r.length ≤ 4000 ∧ (∀ p ∈ ps, ∃ ms, mustsL s p.st = some ms) ∧ ∀ t, t ∈ r ↔ t ∈ out ∨ ∃ p ∈ ps, ∃ ms, mustsL s p.st = some ms ∧ ∃ m ∈ ms, t = ⟨p.tr, m⟩
  | [], out, r, ho, e => by
    rw [genGo] at e
    injection e with e
    subst e
    exact ⟨ho, by simp, by simp⟩
  | p :: ps, out, r, ho, e => by
    rw [genGo] at e
    cases hm : mustsL s p.st with
    | none => rw [hm] at e; cases e
    | some ms =>
      rw [hm] at e
      simp only at e
      split at e
      · cases e
      · rename_i hl
        obtain ⟨h1, h2, h3⟩ := genGo_iff s ps _ r (by omega) e
        refine ⟨h1, fun q hq => ?_, fun t => ?_⟩
        · rcases List.mem_cons.1 hq with rfl | hq
          · exact ⟨ms, hm⟩
          · exact h2 q hq
        · rw [h3, List.mem_append, or_assoc]
          refine or_congr_right ⟨?_, ?_⟩
          · rintro (h | ⟨q, hq, h⟩)
            · obtain ⟨m, hmm, rfl⟩ := List.mem_map.1 h
              exact ⟨p, by simp, ms, hm, m, hmm, rfl⟩
            · exact ⟨q, List.mem_cons_of_mem _ hq, h⟩
          · rintro ⟨q, hq, ms', hm', m, hmm, rfl⟩
            rcases List.mem_cons.1 hq with rfl | hq
            · rw [hm] at hm'
              injection hm' with hm'
              subst hm'
              exact .inl (List.mem_map.2 ⟨m, hmm, rfl⟩)
            · exact .inr ⟨q, hq, ms', hm', m, hmm, rfl⟩
/-- What the tests of a system are. -/
structure GenLaw (s : Sy) (d : Nat) (ts : List Te) : Prop where
  len : ts.length ≤ 4000
  test : ∀ t ∈ ts, isTestB t = true
  deep : ∀ t ∈ ts, t.tr.length ≤ d
  no : ∀ t ∈ ts, failB s t = false
  cov : ∀ t ∈ ts, ∀ l, Inc l → refB s (afterL s t.tr) l = false → ∃ m, ⟨t.tr, m⟩ ∈ ts ∧ ∀ x ∈ m, x ∈ l
theorem gen_law {s : Sy} (hok : okSyP s) {d : Nat} (hd : d ≤ 8) {ts : List Te} (e : generateL s d = some ts) : GenLaw s d ts := by
  unfold generateL at e
  cases hp : placesL s d with
  | none => rw [hp] at e; cases e
  | some pls =>
    rw [hp] at e
    have hpl := placesL_fit hok hp
    obtain ⟨h1, h2, h3⟩ := genGo_iff s pls [] ts (by simp) e
    have hin : ∀ t ∈ ts, ∃ p ∈ pls, ∃ ms, mustsL s p.st = some ms ∧ t.mu ∈ ms ∧ t.tr = p.tr := fun t ht => by
      rcases (h3 t).1 ht with h | ⟨p, hp, ms, hms, m, hm, rfl⟩
      · cases h
      · exact ⟨p, hp, ms, hms, hm, rfl⟩
    refine ⟨h1, fun t ht => ?_, fun t ht => ?_, fun t ht => ?_, fun t ht l hl hr => ?_⟩
    · obtain ⟨p, hp, ms, hms, hm, e⟩ := hin t ht
      have hL := musts_law hok hms
      have hne := hL.ne _ hm
      rw [isTestB, hL.set _ hm, isTraceB, e, (hpl p hp).ok]
      have h8 := (hpl p hp).len
      have h0 : 0 < t.mu.length := List.length_pos_iff.2 hne
      simp only [Bool.and_true, Bool.and_eq_true, decide_eq_true_eq]
      exact ⟨by omega, h0⟩
    · obtain ⟨p, hp, ms, hms, hm, e⟩ := hin t ht
      rw [e]
      exact (hpl p hp).len
    · obtain ⟨p, hp, ms, hms, hm, e⟩ := hin t ht
      rw [failB, e, ← (hpl p hp).st]
      exact (musts_law hok hms).no _ hm
    · obtain ⟨p, hp, ms, hms, hm, e⟩ := hin t ht
      rw [e, ← (hpl p hp).st] at hr
      obtain ⟨m, hm', hsub⟩ := (musts_law hok hms).cov l hl (hpl p hp).ne hr
      exact ⟨m, (h3 _).2 (.inr ⟨p, hp, ms, hms, m, hm', by rw [e]⟩), hsub⟩
theorem findI_neg {α : Type} (p : α → Bool) (l : List α) : findI p l < 0 ↔ ∀ x ∈ l, p x = false := by
  induction l with
  | nil => simp [findI]
  | cons x l ih =>
    have := findI_lt p l
    rw [findI]
    cases hx : p x with
    | true => simp [hx]
    | false =>
      simp only [Bool.false_eq_true, if_false, List.mem_cons, forall_eq_or_imp]
      rw [← ih]
      constructor
      · intro h
        refine ⟨hx, ?_⟩
        split at h <;> omega
      · rintro ⟨_, h⟩
        rw [if_pos h]
        omega
theorem genE_ok {s : Sy} {d : Int} (h : genE s d = 0) : okSyP s ∧ 0 ≤ d ∧ d ≤ 8 ∧ generateL s d.toNat = some (genR s d) := by
  unfold genE at h
  split at h
  · rename_i hok
    split at h
    · rename_i hd
      refine ⟨hok, hd.1, hd.2, ?_⟩
      rw [genR, if_pos ⟨hok, hd⟩]
      cases hg : generateL s d.toNat with
      | none => rw [hg] at h; cases h
      | some ts => rfl
    · cases h
  · cases h
theorem askE_of {k : Sy} (hk : okSyP k) {ts : List Te} (hl : ts.length ≤ 4000) (h : ∀ t ∈ ts, isTestB t = true) : askE k ts = 0 := by
  rw [askE, if_pos hk, testsE, if_pos hl, if_pos (List.all_eq_true.2 h)]
/-- The law: sound and exhaustive. -/
structure SoundLaw (s k : Sy) (d : Int) : Prop where
  own : askE s (genR s d) = 0 ∧ failsI s (genR s d) < 0
  imp : askE k (genR s d) = 0
  conf : confE s k d = 0 ∧ confB s k d = decide (failsI k (genR s d) < 0)
  same : 0 ≤ failsI k (genR s d) → ∃ h : (failsI k (genR s d)).toNat < (genR s d).length, confT s k d = (genR s d)[(failsI k (genR s d)).toNat]
  each : ∀ t ∈ genR s d, refusesE s t.tr t.mu = 0 ∧ refusesR s t.tr t.mu = false ∧ refusesE k t.tr t.mu = 0 ∧ askE k [t] = 0 ∧ (refusesR k t.tr t.mu = true ↔ (2 : Int) ∈ verdR k t)
  exh : failsI k (genR s d) < 0 → ∀ t ∈ genR s d, ∀ l, refusesE s t.tr l = 0 → refusesE k t.tr l = 0 → refusesR s t.tr l = false → refusesR k t.tr l = false
theorem refusesE_ok {s : Sy} {tr l : List Lb} (h : refusesE s tr l = 0) : okSyP s ∧ isTraceB tr = true ∧ isSetB l = true := by
  unfold refusesE at h
  split at h
  · rename_i hok
    split at h
    · rename_i hc
      rw [Bool.and_eq_true] at hc
      exact ⟨hok, hc⟩
    · cases h
  · cases h
theorem refuses_of {s : Sy} (h : okSyP s) {tr l : List Lb} (h1 : isTraceB tr = true) (h2 : isSetB l = true) : refusesE s tr l = 0 ∧ refusesR s tr l = refB s (afterL s tr) l := by
  rw [refusesE, refusesR, if_pos h, h1, h2]
  exact ⟨rfl, if_pos ⟨h, rfl⟩⟩
theorem sound_law {s k : Sy} {d : Int} (h : genE s d = 0) (hk : okSyP k) : SoundLaw s k d := by
  obtain ⟨hok, hd0, hd8, hg⟩ := genE_ok h
  have hL := gen_law hok (by omega) hg
  obtain ⟨ts, hts⟩ : ∃ ts, ts = genR s d := ⟨_, rfl⟩
  have ha := askE_of hok hL.len hL.test
  have hka := askE_of hk hL.len hL.test
  have e1 : failsI s (genR s d) = findI (failB s) (genR s d) := if_pos ha
  have e2 : failsI k (genR s d) = findI (failB k) (genR s d) := if_pos hka
  have e3 : confE s k d = 0 := by rw [confE, if_pos hok, if_pos hk, if_pos ⟨hd0, hd8⟩, hg]; rfl
  have e4 : confI s k d = failsI k (genR s d) := by rw [confI, hg, e2]; rfl
  have ht : ∀ t ∈ genR s d, isTraceB t.tr = true ∧ isSetB t.mu = true := fun t h => by
    have := hL.test t h
    rw [isTestB, Bool.and_eq_true, Bool.and_eq_true] at this
    exact ⟨this.1.1, this.2⟩
  refine ⟨⟨ha, ?_⟩, hka, ⟨e3, ?_⟩, fun h0 => ?_, fun t h => ?_, fun hf t h l h1 h2 h3 => ?_⟩
  · rw [e1, findI_neg]
    exact hL.no
  · rw [confB, e3, e4]
    simp
  · have hlt := (findI_lt (failB k) (genR s d)).1
    rw [← e2] at hlt
    have hlt' : (failsI k (genR s d)).toNat < (genR s d).length := by omega
    refine ⟨hlt', ?_⟩
    rw [confT, if_pos ⟨e3, by rw [e4]; exact h0⟩, e4, hg]
    show (genR s d).getD _ _ = _
    rw [List.getD_eq_getElem?_getD, List.getElem?_eq_getElem hlt']
    rfl
  · have h2 := refuses_of hok (ht t h).1 (ht t h).2
    have h3 := refuses_of hk (ht t h).1 (ht t h).2
    have h4 : askE k [t] = 0 := askE_of hk (by simp) (by simpa using hL.test t h)
    refine ⟨h2.1, h2.2.trans (hL.no t h), h3.1, h4, ?_⟩
    rw [h3.2, verdR, if_pos h4, verdL_mem _ _ _ (.inr (.inl rfl))]
    exact Iff.rfl
  · obtain ⟨_, hs1, hs2⟩ := refusesE_ok h1
    rw [(refuses_of hok hs1 hs2).2] at h3
    rw [(refuses_of hk hs1 hs2).2]
    have hi := isSetB_inc hs2
    obtain ⟨m, hm, hsub⟩ := hL.cov t h l hi h3
    rw [e2, findI_neg] at hf
    have hf' : refB k (afterL k t.tr) m = false := hf _ hm
    refine (refB_iff _ hi).2 fun u hu => ?_
    obtain ⟨x, hx, hxm⟩ := (refB_iff _ (isSetB_inc (ht _ hm).2)).1 hf' u hu
    exact ⟨x, hx, hsub x hxm⟩
end Go.Proofs.YtegenalcheooeaaGreat

