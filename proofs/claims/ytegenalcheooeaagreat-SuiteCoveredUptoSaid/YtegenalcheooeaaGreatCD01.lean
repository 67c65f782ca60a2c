/- Of the proof of a law of the suites: PCov. -/
import Derived.Test.YtegenalcheooeaaGreatB39
import Derived.Test.YtegenalcheooeaaGreatCA01
/- What tests cover: the plain law. -/
set_option linter.unusedSectionVars false
set_option linter.unusedSimpArgs false
set_option linter.unusedVariables false
namespace Go.Proofs.YtegenalcheooeaaGreat
open Go.RowKit
attribute [local go_sem] cell?_exto

abbrev bitB (l : List Bool) (i : Nat) : Bool := l.getD i false
theorem bit_set (l : List Bool) (j i : Nat) : bitB (l.set j true) i = (bitB l i || (decide (i = j) && decide (j < l.length))) := by
  simp only [bitB, List.getD_eq_getElem?_getD, List.getElem?_set]
  by_cases h : j = i
  · subst h
    by_cases h2 : j < l.length
    · simp [h2]
    · simp [h2]
  · have : ¬ i = j := fun e => h e.symm
    simp [h, this]
theorem bit_rep (n i : Nat) : bitB (List.replicate n false) i = false := by
  simp only [bitB, List.getD_eq_getElem?_getD, List.getElem?_replicate]
  split <;> rfl
/-- It only adds, and the same whatever was. -/
def Adds (n : Nat) (f : List Bool → List Bool) : Prop := ∃ P : Nat → Bool, ∀ bs, bs.length = n → (f bs).length = n ∧ ∀ i, bitB (f bs) i = (bitB bs i || P i)
theorem Adds.id (n : Nat) : Adds n fun bs => bs := ⟨fun _ => false, fun bs h => ⟨h, by simp⟩⟩
theorem Adds.comp {n : Nat} {f g : List Bool → List Bool} (hf : Adds n f) (hg : Adds n g) : Adds n fun bs => g (f bs) := by
  obtain ⟨P, hP⟩ := hf
  obtain ⟨Q, hQ⟩ := hg
  refine ⟨fun i => P i || Q i, fun bs h => ?_⟩
  have h1 := hP bs h
  have h2 := hQ (f bs) h1.1
  exact ⟨h2.1, fun i => by rw [h2.2, h1.2, Bool.or_assoc]⟩
theorem Adds.set (n j : Nat) : Adds n fun bs => bs.set j true := ⟨fun i => decide (i = j) && decide (j < n), fun bs h => ⟨by rw [List.length_set, h], fun i => by rw [bit_set, h]⟩⟩
theorem Adds.ite {n : Nat} {f g : List Bool → List Bool} (p : Prop) [Decidable p] (hf : Adds n f) (hg : Adds n g) : Adds n fun bs => if p then f bs else g bs := by
  by_cases h : p
  · simpa [h] using hf
  · simpa [h] using hg
theorem Adds.fold {n : Nat} {β : Type} (f : List Bool → β → List Bool) (hf : ∀ b, Adds n fun bs => f bs b) : ∀ l : List β, Adds n fun bs => l.foldl f bs
  | [] => Adds.id n
  | b :: l => by
    have := (hf b).comp (Adds.fold f hf l)
    simpa using this
theorem adds_mark (s : Sy) (x : Lb) (n : Nat) : Adds n (markL s x) := Adds.ite _ (Adds.set n _) (Adds.id n)
theorem adds_mu (s : Sy) (t : Te) (k n : Nat) : Adds n fun bs => cvMu s t k (cvTr s t.tr k bs) := by
  refine Adds.comp ?_ (Adds.ite _ (Adds.fold _ (fun x => adds_mark s x n) _) (Adds.id n))
  refine Adds.ite _ (Adds.id n) ?_
  cases t.tr[k - 1]? with
  | none => exact Adds.id n
  | some x => exact adds_mark s x n
theorem adds_es (s : Sy) (tr : List Lb) (k : Nat) (sts : List Int) (n : Nat) : Adds n (cvEs s tr k sts) :=
  Adds.fold _ (fun st => Adds.fold _ (fun j => Adds.ite _ (Adds.set n _) (Adds.id n)) _) _
/-- The rounds of covers, each side by itself. -/
theorem cvGo_adds (s : Sy) (t : Te) : ∀ (f k n m : Nat), ∃ g h, Adds n g ∧ Adds m h ∧ ∀ c, cvGo s t f k c = ⟨g c.l, h c.e⟩
  | 0, k, n, m => ⟨_, _, Adds.id n, Adds.id m, fun c => rfl⟩
  | f + 1, k, n, m => by
    by_cases h0 : afterL s (t.tr.take k) = []
    · exact ⟨_, _, Adds.id n, Adds.id m, fun c => by rw [cvGo, if_pos h0]⟩
    · obtain ⟨g, h, hg, hh, e⟩ := cvGo_adds s t f (k + 1) n m
      refine ⟨_, _, (adds_mu s t k n).comp hg, (adds_es s t.tr k (afterL s (t.tr.take k)) m).comp hh, fun c => ?_⟩
      rw [cvGo, if_neg h0, e]
      rfl
/-- What a test covers by itself. -/
def hitL (s : Sy) (t : Te) (i : Nat) : Bool := bitB (covL s t (cv0 s)).l i
def hitE (s : Sy) (t : Te) (i : Nat) : Bool := bitB (covL s t (cv0 s)).e i
def FitC (s : Sy) (c : Cv) : Prop := c.l.length = s.ls.length ∧ c.e.length = s.es.length
theorem cv0_fit (s : Sy) : FitC s (cv0 s) := ⟨by simp [cv0], by simp [cv0]⟩
theorem covL_fit {s : Sy} {c : Cv} (h : FitC s c) (t : Te) : FitC s (covL s t c) := ⟨(covL_len s t c).1.trans h.1, (covL_len s t c).2.trans h.2⟩
theorem covL_hit {s : Sy} {c : Cv} (hc : FitC s c) (t : Te) (i : Nat) : bitB (covL s t c).l i = (bitB c.l i || hitL s t i) ∧ bitB (covL s t c).e i = (bitB c.e i || hitE s t i) := by
  obtain ⟨g, h, ⟨P, hP⟩, ⟨Q, hQ⟩, e⟩ := cvGo_adds s t (t.tr.length + 1) 0 s.ls.length s.es.length
  have h0 := cv0_fit s
  have hl : hitL s t i = P i := by
    rw [hitL, covL, e]
    show bitB (g _) i = _
    rw [(hP _ h0.1).2, show (cv0 s).l = List.replicate s.ls.length false from rfl, bit_rep, Bool.false_or]
  have he : hitE s t i = Q i := by
    rw [hitE, covL, e]
    show bitB (h _) i = _
    rw [(hQ _ h0.2).2, show (cv0 s).e = List.replicate s.es.length false from rfl, bit_rep, Bool.false_or]
  rw [hl, he, covL, e]
  exact ⟨(hP _ hc.1).2 i, (hQ _ hc.2).2 i⟩
theorem covFold_hit {s : Sy} : ∀ (ts : List Te) (c : Cv), FitC s c → ∀ i, bitB (ts.foldl (fun c t => covL s t c) c).l i = (bitB c.l i || ts.any fun t => hitL s t i) ∧ bitB (ts.foldl (fun c t => covL s t c) c).e i = (bitB c.e i || ts.any fun t => hitE s t i)
  | [], c, _, i => by simp
  | t :: ts, c, hc, i => by
    have h1 := covFold_hit ts (covL s t c) (covL_fit hc t) i
    have h2 := covL_hit hc t i
    rw [List.foldl_cons, h1.1, h1.2, h2.1, h2.2, List.any_cons, List.any_cons, Bool.or_assoc, Bool.or_assoc]
    exact ⟨rfl, rfl⟩
theorem covAll_hit (s : Sy) (ts : List Te) (i : Nat) : bitB (covAll s ts).l i = ts.any (fun t => hitL s t i) ∧ bitB (covAll s ts).e i = ts.any fun t => hitE s t i := by
  have h := covFold_hit ts (cv0 s) (cv0_fit s) i
  rw [show (cv0 s).l = List.replicate s.ls.length false from rfl, show (cv0 s).e = List.replicate s.es.length false from rfl, bit_rep, bit_rep, Bool.false_or, Bool.false_or] at h
  exact h
theorem bits_ext {a b : List Bool} (hl : a.length = b.length) (h : ∀ i, bitB a i = bitB b i) : a = b := by
  refine List.ext_getElem hl fun i h1 h2 => ?_
  have := h i
  simpa [bitB, List.getD_eq_getElem?_getD, List.getElem?_eq_getElem h1, List.getElem?_eq_getElem h2] using this

/-! ### Choose -/
theorem moreN_zero : ∀ (a b : List Bool), a.length = b.length → (moreN a b = 0 ↔ ∀ i, bitB b i = true → bitB a i = true)
  | [], [], _ => by simp [moreN, bitB]
  | x :: a, y :: b, h => by
    have ih := moreN_zero a b (by simpa using h)
    rw [moreN]
    constructor
    · intro h0 i hi
      have h1 : moreN a b = 0 := by omega
      cases i with
      | zero =>
        have hy : y = true := by simpa [bitB] using hi
        subst hy
        cases x with
        | true => simp [bitB]
        | false => simp at h0
      | succ i => simpa [bitB] using ih.1 h1 i (by simpa [bitB] using hi)
    · intro hi
      have h1 : moreN a b = 0 := ih.2 fun i hb => by simpa [bitB] using hi (i + 1) (by simpa [bitB] using hb)
      have h2 := hi 0
      simp only [bitB, List.getD_cons_zero] at h2
      rw [h1]
      cases y with
      | false => simp
      | true => rw [h2 rfl]; simp
theorem gain_zero {s : Sy} {a c : Cv} (ha : FitC s a) (hc : FitC s c) : gainN a c = 0 ↔ (∀ i, bitB c.l i = true → bitB a.l i = true) ∧ ∀ i, bitB c.e i = true → bitB a.e i = true := by
  rw [gainN, Nat.add_eq_zero_iff, moreN_zero _ _ (ha.1.trans hc.1.symm), moreN_zero _ _ (ha.2.trans hc.2.symm)]
theorem orB_bit : ∀ (a b : List Bool), a.length = b.length → ∀ i, bitB (orB a b) i = (bitB a i || bitB b i)
  | [], [], _, i => by simp [orB, bitB]
  | x :: a, y :: b, h, i => by
    have ih := orB_bit a b (by simpa using h)
    cases i with
    | zero => simp [orB, bitB]
    | succ i => simpa [orB, bitB] using ih i
theorem bestGo_max (a : Cv) : ∀ (cs : List Cv) (i : Nat) (p : Int × Nat), p.2 ≤ (bestGo a cs i p).2 ∧ ∀ c ∈ cs, gainN a c ≤ (bestGo a cs i p).2
  | [], _, p => ⟨Nat.le_refl _, by simp⟩
  | c :: cs, i, p => by
    have h := bestGo_max a cs (i + 1) (if p.2 < gainN a c then ((i : Int), gainN a c) else p)
    rw [bestGo]
    have h2 : p.2 ≤ (if p.2 < gainN a c then ((i : Int), gainN a c) else p).2 ∧ gainN a c ≤ (if p.2 < gainN a c then ((i : Int), gainN a c) else p).2 := by split <;> constructor <;> (try dsimp only) <;> omega
    refine ⟨Nat.le_trans h2.1 h.1, fun d hd => ?_⟩
    rcases List.mem_cons.1 hd with rfl | hd
    · exact Nat.le_trans h2.2 h.1
    · exact h.2 d hd
/-- What has been chosen, and what all of it covers. -/
structure ChI (s : Sy) (each : List Cv) (a : Cv) (out : List Int) : Prop where
  fit : FitC s a
  nd : out.Nodup
  ok : ∀ j ∈ out, ∃ k : Nat, ∃ h : k < each.length, j = (k : Int) ∧ ((∃ i, bitB each[k].l i = true) ∨ ∃ i, bitB each[k].e i = true)
  l : ∀ i, bitB a.l i = true ↔ ∃ j ∈ out, bitB (each.getD j.toNat ⟨[], []⟩).l i = true
  e : ∀ i, bitB a.e i = true ↔ ∃ j ∈ out, bitB (each.getD j.toNat ⟨[], []⟩).e i = true
theorem chGo_ok {s : Sy} {each : List Cv} (hfit : ∀ c ∈ each, FitC s c) : ∀ (f : Nat) (a : Cv) (out : List Int), potN a < f → ChI s each a out → ∃ b, ChI s each b (chGo each f a out) ∧ ∀ c ∈ each, gainN b c = 0
  | 0, a, out, hf, _ => absurd hf (by omega)
  | f + 1, a, out, hf, h => by
    rw [chGo]
    rcases bestOf_ok a each with hb | ⟨j, hj, hb, hg⟩
    · rw [hb, if_pos (by decide)]
      refine ⟨a, h, fun c hc => ?_⟩
      have := (bestGo_max a each 0 (-1, 0)).2 c hc
      rw [show bestGo a each 0 (-1, 0) = (-1, 0) from hb] at this
      exact Nat.le_zero.1 this
    · rw [hb, if_neg (by omega), Int.toNat_natCast]
      have hd : each.getD j ⟨[], []⟩ = each[j] := by rw [List.getD_eq_getElem?_getD, List.getElem?_eq_getElem hj]; rfl
      have hc := hfit _ (List.getElem_mem hj)
      have hp := orCv_pot a each[j]
      rw [hd]
      have e1 : ∀ i, bitB (orCv a each[j]).l i = (bitB a.l i || bitB each[j].l i) := orB_bit _ _ (h.fit.1.trans hc.1.symm)
      have e2 : ∀ i, bitB (orCv a each[j]).e i = (bitB a.e i || bitB each[j].e i) := orB_bit _ _ (h.fit.2.trans hc.2.symm)
      refine chGo_ok hfit f _ _ (by omega) ⟨⟨(orB_len _ _).trans h.fit.1, (orB_len _ _).trans h.fit.2⟩, ?_, fun k hk => ?_, fun i => ?_, fun i => ?_⟩
      · refine List.nodup_append.2 ⟨h.nd, by simp, fun k hk b hb' e => ?_⟩
        rw [List.mem_singleton.1 hb'] at e
        subst e
        have h0 : gainN a each[j] = 0 := (gain_zero h.fit hc).2 ⟨fun i hi => (h.l i).2 ⟨_, hk, by rw [Int.toNat_natCast, hd]; exact hi⟩, fun i hi => (h.e i).2 ⟨_, hk, by rw [Int.toNat_natCast, hd]; exact hi⟩⟩
        omega
      · rcases List.mem_append.1 hk with hk | hk
        · exact h.ok k hk
        · refine ⟨j, hj, List.mem_singleton.1 hk, Classical.byContradiction fun hn => ?_⟩
          have h0 : gainN a each[j] = 0 := (gain_zero h.fit hc).2 ⟨fun i hi => absurd (.inl ⟨i, hi⟩) hn, fun i hi => absurd (.inr ⟨i, hi⟩) hn⟩
          omega
      · rw [e1, Bool.or_eq_true, h.l]
        simp only [List.mem_append, List.mem_singleton, or_and_right, exists_or, exists_eq_left, Int.toNat_natCast, hd]
      · rw [e2, Bool.or_eq_true, h.e]
        simp only [List.mem_append, List.mem_singleton, or_and_right, exists_or, exists_eq_left, Int.toNat_natCast, hd]
/-- The law of Covers and Choose. -/
structure CovLaw (s : Sy) (ts : List Te) : Prop where
  pre : ∀ n, askE s (ts.take n) = 0 ∧ ∀ i, (bitB (covR s (ts.take n)).l i = true → bitB (covR s ts).l i = true) ∧ (bitB (covR s (ts.take n)).e i = true → bitB (covR s ts).e i = true)
  inc : (chooseR s ts).Pairwise (· < ·)
  one : ∀ j ∈ chooseR s ts, ∃ k : Nat, ∃ h : k < ts.length, j = (k : Int) ∧ askE s [ts[k]] = 0 ∧ ((∃ i, bitB (covR s [ts[k]]).l i = true) ∨ ∃ i, bitB (covR s [ts[k]]).e i = true)
  all : ∀ us, us = (chooseR s ts).map (fun j => ts.getD j.toNat ⟨[], []⟩) → askE s us = 0 ∧ covR s us = covR s ts
theorem askE_sub {s : Sy} {ts us : List Te} (h : askE s ts = 0) (hl : us.length ≤ ts.length) (hs : ∀ t ∈ us, t ∈ ts) : askE s us = 0 := by
  obtain ⟨hok, h1, h2⟩ := askE_ok h
  rw [askE, if_pos hok, testsE, if_pos (by omega), if_pos (List.all_eq_true.2 fun t ht => h2 t (hs t ht))]
theorem nodup_le {n : Nat} {l : List Int} (hn : l.Nodup) (h : ∀ j ∈ l, ∃ k : Nat, k < n ∧ j = (k : Int)) : l.length ≤ n := by
  have hs : ∀ j ∈ l, j ∈ (List.range n).map fun k : Nat => (k : Int) := fun j hj => by
    obtain ⟨k, hk, e⟩ := h j hj
    exact List.mem_map.2 ⟨k, List.mem_range.2 hk, e.symm⟩
  have := List.Nodup.length_le_of_subset hn hs
  simpa using this
theorem cov_law {s : Sy} {ts : List Te} (h : askE s ts = 0) : CovLaw s ts := by
  have hR : ∀ us, askE s us = 0 → covR s us = covAll s us := fun us hu => if_pos hu
  have hfit : ∀ c ∈ eachL s ts, FitC s c := fun c hc => by
    obtain ⟨t, _, rfl⟩ := List.mem_map.1 hc
    exact covL_fit (cv0_fit s) t
  have hlen : (eachL s ts).length = ts.length := by simp [eachL]
  have hget : ∀ k (hk : k < ts.length), (eachL s ts)[k]'(by omega) = covL s ts[k] (cv0 s) := fun k hk => by simp [eachL]
  have h0 : ChI s (eachL s ts) (cv0 s) [] := ⟨cv0_fit s, by simp, by simp, fun i => by rw [show (cv0 s).l = List.replicate s.ls.length false from rfl, bit_rep]; simp, fun i => by rw [show (cv0 s).e = List.replicate s.es.length false from rfl, bit_rep]; simp⟩
  obtain ⟨b, hb, hz⟩ := chGo_ok hfit (s.ls.length + s.es.length + 1) (cv0 s) [] (by rw [cv0_pot]; omega) h0
  have hch : chooseR s ts = sortI (chGo (eachL s ts) (s.ls.length + s.es.length + 1) (cv0 s) []) := if_pos h
  have hmem : ∀ j, j ∈ chooseR s ts ↔ j ∈ chGo (eachL s ts) (s.ls.length + s.es.length + 1) (cv0 s) [] := fun j => by rw [hch, sortI_mem]
  have hnd : (chooseR s ts).Nodup := by rw [hch]; exact (sortI_perm _).nodup_iff.2 hb.nd
  have hok : ∀ j ∈ chooseR s ts, ∃ k : Nat, ∃ h : k < ts.length, j = (k : Int) ∧ ((∃ i, hitL s ts[k] i = true) ∨ ∃ i, hitE s ts[k] i = true) := fun j hj => by
    obtain ⟨k, hk, e, hx⟩ := hb.ok j ((hmem j).1 hj)
    refine ⟨k, by omega, e, ?_⟩
    rw [hget k (by omega)] at hx
    exact hx
  refine ⟨fun n => ?_, ?_, fun j hj => ?_, fun us hus => ?_⟩
  · have hp := askE_sub h (us := ts.take n) (by rw [List.length_take]; omega) fun t ht => List.mem_of_mem_take ht
    refine ⟨hp, fun i => ?_⟩
    rw [hR _ hp, hR _ h, (covAll_hit s _ i).1, (covAll_hit s _ i).1, (covAll_hit s _ i).2, (covAll_hit s _ i).2, List.any_eq_true, List.any_eq_true, List.any_eq_true, List.any_eq_true]
    exact ⟨fun ⟨t, ht, hx⟩ => ⟨t, List.mem_of_mem_take ht, hx⟩, fun ⟨t, ht, hx⟩ => ⟨t, List.mem_of_mem_take ht, hx⟩⟩
  · rw [hch] at hnd ⊢
    have := (sortI_sorted (chGo (eachL s ts) (s.ls.length + s.es.length + 1) (cv0 s) [])).and hnd
    exact this.imp fun {a b} h => by have := h.1; have := h.2; omega
  · obtain ⟨k, hk, e, hx⟩ := hok j hj
    have hp := askE_sub h (us := [ts[k]]) (by simp; omega) fun t ht => by rw [List.mem_singleton.1 ht]; exact List.getElem_mem hk
    refine ⟨k, hk, e, hp, ?_⟩
    rw [hR _ hp]
    exact hx.imp (fun ⟨i, hi⟩ => ⟨i, by rw [(covAll_hit s _ i).1]; simpa using hi⟩) fun ⟨i, hi⟩ => ⟨i, by rw [(covAll_hit s _ i).2]; simpa using hi⟩
  · have hd : ∀ k (hk : k < ts.length), ts.getD k ⟨[], []⟩ = ts[k] := fun k hk => by rw [List.getD_eq_getElem?_getD, List.getElem?_eq_getElem hk]; rfl
    have hin : ∀ t ∈ us, t ∈ ts := fun t ht => by
      rw [hus] at ht
      obtain ⟨j, hj, rfl⟩ := List.mem_map.1 ht
      obtain ⟨k, hk, rfl, _⟩ := hok j hj
      rw [Int.toNat_natCast, hd k hk]
      exact List.getElem_mem hk
    have hp := askE_sub h (us := us) (by
      rw [hus, List.length_map]
      exact nodup_le hnd fun j hj => by obtain ⟨k, hk, e, _⟩ := hok j hj; exact ⟨k, hk, e⟩) hin
    refine ⟨hp, ?_⟩
    rw [hR _ hp, hR _ h]
    have hl1 := covAll_len s us
    have hl2 := covAll_len s ts
    have hhit : ∀ (P : Te → Bool), (∀ k (hk : k < ts.length), P ts[k] = true → ∃ j ∈ chooseR s ts, P (ts.getD j.toNat ⟨[], []⟩) = true) → us.any P = ts.any P := fun P hP => by
      cases hx : ts.any P with
      | false => exact List.any_eq_false.2 fun t ht => List.any_eq_false.1 hx t (hin t ht)
      | true =>
        obtain ⟨t, ht, hPt⟩ := List.any_eq_true.1 hx
        obtain ⟨k, hk, rfl⟩ := List.mem_iff_getElem.1 ht
        obtain ⟨j, hj, hPj⟩ := hP k hk hPt
        exact List.any_eq_true.2 ⟨_, by rw [hus]; exact List.mem_map.2 ⟨j, hj, rfl⟩, hPj⟩
    have hge : ∀ j ∈ chooseR s ts, (eachL s ts).getD j.toNat ⟨[], []⟩ = covL s (ts.getD j.toNat ⟨[], []⟩) (cv0 s) := fun j hj => by
      obtain ⟨k, hk, rfl, _⟩ := hok j hj
      rw [Int.toNat_natCast, hd k hk, List.getD_eq_getElem?_getD, List.getElem?_eq_getElem (by omega), ← hget k hk]
      rfl
    have e1 : (covAll s us).l = (covAll s ts).l := bits_ext (hl1.1.trans hl2.1.symm) fun i => by
      rw [(covAll_hit s _ i).1, (covAll_hit s _ i).1]
      refine hhit _ fun k hk hx => ?_
      have hg := (gain_zero hb.fit (hfit _ (List.getElem_mem (by omega : k < (eachL s ts).length)))).1 (hz _ (List.getElem_mem _))
      obtain ⟨j, hj, hx'⟩ := (hb.l i).1 (hg.1 i (by rw [hget k hk]; exact hx))
      have hj' := (hmem j).2 hj
      rw [hge j hj'] at hx'
      exact ⟨j, hj', hx'⟩
    have e2 : (covAll s us).e = (covAll s ts).e := bits_ext (hl1.2.trans hl2.2.symm) fun i => by
      rw [(covAll_hit s _ i).2, (covAll_hit s _ i).2]
      refine hhit _ fun k hk hx => ?_
      have hg := (gain_zero hb.fit (hfit _ (List.getElem_mem (by omega : k < (eachL s ts).length)))).1 (hz _ (List.getElem_mem _))
      obtain ⟨j, hj, hx'⟩ := (hb.e i).1 (hg.2 i (by rw [hget k hk]; exact hx))
      have hj' := (hmem j).2 hj
      rw [hge j hj'] at hx'
      exact ⟨j, hj', hx'⟩
    show Cv.mk (covAll s us).l (covAll s us).e = _
    rw [e1, e2]
end Go.Proofs.YtegenalcheooeaaGreat

