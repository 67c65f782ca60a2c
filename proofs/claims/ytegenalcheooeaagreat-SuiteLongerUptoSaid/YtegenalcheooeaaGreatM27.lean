/- Of the proof of a law of the suites: PlainLonger, LawLonger, OpenA, SayParts. -/
import Derived.Test.YtegenalcheooeaaGreatM01
import Derived.Test.YtegenalcheooeaaGreatM04
import Derived.Test.YtegenalcheooeaaGreatM15
import Derived.Test.YtegenalcheooeaaGreatM24
import Derived.Test.YtegenalcheooeaaGreatM26
import Derived.Test.YtegenalcheooeaaGreatRows
import Derived.ProofKit
import Derived.OpenShut
import Derived.JoinedCond
import Derived.Deep.Strs
import Derived.ChangeStays
import Derived.ChangeBook
/- Tests of greater depth: the plain law. -/
set_option linter.unusedSectionVars false
set_option linter.unusedSimpArgs false
set_option linter.unusedVariables false
namespace Go.Proofs.YtegenalcheooeaaGreat
open Go.RowKit
attribute [local go_sem] cell?_exto

theorem placesGo_pre (s : Sy) : ∀ (e : Nat) (out lev r : List Pl), placesGo s e out lev = some r → ∃ m, r = out ++ m
  | 0, out, lev, r, h => by
    rw [placesGo] at h
    injection h with h
    exact ⟨[], by rw [List.append_nil, h]⟩
  | e + 1, out, lev, r, h => by
    rw [placesGo] at h
    split at h
    · cases h
    · obtain ⟨m, hm⟩ := placesGo_pre s e _ _ _ h
      exact ⟨plNext s lev ++ m, by rw [hm, List.append_assoc]⟩
theorem placesGo_more (s : Sy) : ∀ (d k : Nat) (out lev : List Pl), (placesGo s d out lev = none → placesGo s (d + k) out lev = none) ∧ ∀ r, placesGo s d out lev = some r → ∀ q, placesGo s (d + k) out lev = some q → ∃ m, q = r ++ m
  | 0, k, out, lev => by
    refine ⟨fun h => ?_, fun r h q hq => ?_⟩
    · rw [placesGo] at h
      cases h
    · rw [placesGo] at h
      injection h with h
      subst h
      exact placesGo_pre s _ _ _ _ hq
  | d + 1, k, out, lev => by
    rw [show d + 1 + k = d + k + 1 by omega, placesGo, placesGo]
    by_cases h : 4000 < out.length + (plNext s lev).length
    · rw [if_pos h, if_pos h]
      exact ⟨fun _ => rfl, fun r hr => by cases hr⟩
    · rw [if_neg h, if_neg h]
      exact placesGo_more s d k _ _
theorem genGo_pre (s : Sy) : ∀ (ps : List Pl) (out r : List Te), genGo s ps out = some r → ∃ m, r = out ++ m
  | [], out, r, h => by
    rw [genGo] at h
    injection h with h
    exact ⟨[], by rw [List.append_nil, h]⟩
  | p :: ps, out, r, h => by
    rw [genGo] at h
    split at h
    · cases h
    · split at h
      · cases h
      · obtain ⟨m, hm⟩ := genGo_pre s ps _ _ h
        exact ⟨_, by rw [hm, List.append_assoc]⟩
theorem genGo_app (s : Sy) : ∀ (ps qs : List Pl) (out : List Te), genGo s (ps ++ qs) out = match genGo s ps out with
    | none => none
    | some r => genGo s qs r
  | [], qs, out => by rw [List.nil_append, genGo]
  | p :: ps, qs, out => by
    rw [List.cons_append, genGo, genGo]
    cases mustsL s p.st with
    | none => rfl
    | some ms =>
      simp only
      split
      · rfl
      · exact genGo_app s ps qs _
theorem generate_more (s : Sy) (d e : Nat) (h : d ≤ e) : (generateL s d = none → generateL s e = none) ∧ ∀ ts us, generateL s d = some ts → generateL s e = some us → ∃ m, us = ts ++ m := by
  obtain ⟨k, rfl⟩ : ∃ k, e = d + k := ⟨e - d, by omega⟩
  have hp := placesGo_more s d k [⟨[], calmL s [0]⟩] [⟨[], calmL s [0]⟩]
  unfold generateL placesL
  cases h1 : placesGo s d [⟨[], calmL s [0]⟩] [⟨[], calmL s [0]⟩] with
  | none =>
    rw [hp.1 h1]
    exact ⟨fun _ => rfl, fun ts us hts => by cases hts⟩
  | some pls =>
    cases h2 : placesGo s (d + k) [⟨[], calmL s [0]⟩] [⟨[], calmL s [0]⟩] with
    | none => exact ⟨fun _ => rfl, fun ts us _ hus => by cases hus⟩
    | some q =>
      obtain ⟨m, rfl⟩ := hp.2 pls h1 q h2
      simp only
      rw [genGo_app]
      cases h3 : genGo s pls [] with
      | none => exact ⟨fun _ => rfl, fun ts us hts => by cases hts⟩
      | some r =>
        refine ⟨fun h => (by cases h), fun ts us hts hus => ?_⟩
        injection hts with hts
        subst hts
        exact genGo_pre s m r us hus
end Go.Proofs.YtegenalcheooeaaGreat

/- SuiteLonger: walked. -/
set_option linter.unusedSectionVars false
set_option linter.unusedSimpArgs false
set_option linter.unusedVariables false
namespace Go.Proofs.YtegenalcheooeaaGreat
open Go.RowKit
attribute [local go_sem] cell?_exto
open Go.Shelf

theorem leq_refl {α : Type} {cf : α → α → Bool} (h : ∀ x, cf x x = true) : ∀ l : List α, leq cf l l = true
  | [] => rfl
  | x :: xs => by rw [leq, h x, leq_refl h xs]; rfl
theorem sameLbs_refl (l : List Lb) : sameLbs l l = true := leq_refl (cf := sameLb) (fun x => by unfold sameLb; exact decide_eq_true (ordLb.refl x)) l
theorem sameTe_refl (t : Te) : sameTe t t = true := by rw [sameTe, sameLbs_refl, sameLbs_refl]; rfl
theorem RSl.takeN {α : Type} {R : Rdr α} {k : Nat} {S : Nat → Prop} {W : World} {xs : List α} {A : Option Addr} {n c : Nat} (h : RSl R k S W xs [.slice A n c]) (m : Nat) (hm : m ≤ xs.length) : RSl R k S W (xs.take m) [.slice A m c] := by
  obtain ⟨A', c', e, h1, h2, h3⟩ := h
  injection e with e
  injection e with e1 e2 e3
  subst e1 e3
  have hl : (xs.take m).length = m := by rw [List.length_take]; omega
  refine ⟨A, c, by rw [hl], by rw [hl]; omega, h2, ?_⟩
  rcases h3 with rfl | ⟨b, off, rfl, hb, hS, hr⟩
  · exact .inl (by simp)
  · refine .inr ⟨b, off, rfl, hb, hS, RowAt.of_get fun i hi => ?_⟩
    obtain ⟨cs, g1, g2, g3⟩ := hr.get i (by rw [hl] at hi; omega)
    exact ⟨cs, g1, by rw [List.getElem_take]; exact g2, g3⟩
theorem te_of {W : World} {base : Nat} {T : Nat → Prop} {xs : List Te} {v : Value} (h : ROwn RTe 2 40 base T W xs v) : RSl RTe 2 (fun _ => True) W xs [v] := (RSl.good RTe.good).mono (h.sl RTe.good (by decide)) fun _ _ _ => trivial

/-- How errors and lists of two depths stand to each other. -/
theorem longer_plain (s : Sy) (d e : Int) (hd : 0 ≤ d) (hde : d ≤ e) :
    ((genE s d ≠ 0 ∨ genE s e ≠ 0) → genE s d = genE s e ∨ genE s e = 2 ∨ genE s e = 1) ∧ (genE s d = 0 → genE s e = 0 → ∃ m, genR s e = genR s d ++ m) := by
  by_cases hok : okSyP s
  · have hm := generate_more s d.toNat e.toNat (by omega)
    by_cases h8 : e ≤ 8
    · have hdd : 0 ≤ d ∧ d ≤ 8 := by omega
      have hee : 0 ≤ e ∧ e ≤ 8 := by omega
      have e1 : genE s d = errO (generateL s d.toNat) := by rw [genE, if_pos hok, if_pos hdd]
      have e2 : genE s e = errO (generateL s e.toNat) := by rw [genE, if_pos hok, if_pos hee]
      have r1 : genR s d = rowO (generateL s d.toNat) := by rw [genR, if_pos ⟨hok, hdd⟩]
      have r2 : genR s e = rowO (generateL s e.toNat) := by rw [genR, if_pos ⟨hok, hee⟩]
      rw [e1, e2, r1, r2]
      cases h1 : generateL s d.toNat with
      | none =>
        rw [hm.1 h1]
        exact ⟨fun _ => .inl rfl, fun h => by cases h⟩
      | some ts =>
        cases h2 : generateL s e.toNat with
        | none => exact ⟨fun _ => .inr (.inl rfl), fun _ h => by cases h⟩
        | some us =>
          refine ⟨fun _ => .inl rfl, fun _ _ => ?_⟩
          exact hm.2 ts us h1 h2
    · have e2 : genE s e = 1 := by rw [genE, if_pos hok, if_neg (by omega)]
      rw [e2]
      exact ⟨fun _ => .inr (.inr rfl), fun _ h => by cases h⟩
  · have e1 : genE s d = 8 := by rw [genE, if_neg hok]
    have e2 : genE s e = 8 := by rw [genE, if_neg hok]
    rw [e1, e2]
    exact ⟨fun _ => .inl rfl, fun h => by cases h⟩

def TruePost (w : World) (e : Ending) (w' : World) : Prop := e = .returned (.bool true) ∧ Ext w w'
set_option maxHeartbeats 2000000 in
set_option maxRecDepth 100000 in
theorem longer_c (S : Nat → Prop) (s : Sy) (hsm : SmallSy s) (cs : List Value) (d e : Int) (w : World) (hx : RSy S w s cs) : Calls Tryz.prog 4 #[.agg cs.toArray, .int .i64 d, .int .i64 e] w (TruePost w) := by
  have hx2 : RSy (fun _ => True) w s cs := RSy.good.mono hx fun _ _ _ => trivial
  obtain ⟨j1, v, u, rfl, hv, hu⟩ := id hx2
  obtain ⟨A, c, rfl, _, _⟩ := hv.val
  obtain ⟨B, k, rfl, _, _⟩ := hu.val
  have HX := Lib.hid hx2
  clear hx hv hu hx2
  go_enter Tryz.func4, Tryz.ntmps4
  go_wp2_with fail
  refine (sane_c _).mono ?_
  rintro e1 w1 ⟨rfl, h1⟩
  have hB : BoxL w1 w.heap.size 25 [.int .i64 s.n, .slice A s.ls.length c, .slice B s.es.length k] := (BoxL.new w 25 _).ext h1
  have c0 := hB.cell 0 _
  have c1 := hB.cell 1 _
  have c2 := hB.cell 2 _
  have hX1 : Ext w w1 := Ext.trans' ((Ext.refl w).alloc _) h1
  have HB := Lib.hid hB
  clear hB h1
  go_wp2_with fail
  have hl := lit_of RSy.good (by decide) (e := 25) (flat1 (RSy.good.bel HX.out hX1) rfl) (by simp)
  refine (small_c (fun _ => True) 10 [s] _ _ hl).mono ?_
  rintro e2 w2 ⟨bb, rfl, h2⟩
  have hX2 : Ext w1 w2 := Ext.trans' ((Ext.refl w1).alloc _) h2
  have z2 := (HB.out.ext hX2).lt
  have c0 := (HB.out.ext hX2).cell 0 _
  have c1 := (HB.out.ext hX2).cell 1 _
  have c2 := (HB.out.ext hX2).cell 2 _
  have HX2 : Hid (Ext w w2) := hX1.trans' hX2
  have HB2 := Lib.hid (HB.out.ext hX2)
  clear hl h2 hX2 hX1 HB
  cases bb
  · go_wp2_with fail
    go_ret
    exact ⟨rfl, HX2.out⟩
  go_wp2_with fail
  refine (light_c (fun _ => True) s _ d _ (RSy.good.bel HX.out HX2.out)).mono ?_
  rintro e3 w3 ⟨bb, rfl, h3⟩
  have z3 := (HB2.out.ext h3).lt
  have c0 := (HB2.out.ext h3).cell 0 _
  have c1 := (HB2.out.ext h3).cell 1 _
  have c2 := (HB2.out.ext h3).cell 2 _
  have HX3 : Hid (Ext w w3) := HX2.out.trans' h3
  have HB3 := Lib.hid (HB2.out.ext h3)
  clear h3 HX2 HB2
  cases bb
  · go_wp2_with fail
    go_ret
    exact ⟨rfl, HX3.out⟩
  go_wp2_with fail
  refine (light_c (fun _ => True) s _ e _ (RSy.good.bel HX.out HX3.out)).mono ?_
  rintro e4 w4 ⟨bb, rfl, h4⟩
  have z4 := (HB3.out.ext h4).lt
  have c0 := (HB3.out.ext h4).cell 0 _
  have c1 := (HB3.out.ext h4).cell 1 _
  have c2 := (HB3.out.ext h4).cell 2 _
  have HX4 : Hid (Ext w w4) := HX3.out.trans' h4
  have HB4 := Lib.hid (HB3.out.ext h4)
  clear h4 HX3 HB3
  cases bb
  · go_wp2_with fail
    go_ret
    exact ⟨rfl, HX4.out⟩
  by_cases hd : d < 0
  · go_wp2_with fail
    go_ret
    exact ⟨rfl, HX4.out⟩
  by_cases hde : e < d
  · go_wp2_with fail
    go_ret
    exact ⟨rfl, HX4.out⟩
  have hpl := longer_plain s d e (by omega) (by omega)
  have hq1 := Generate_c (fun _ => True) s hsm _ d w4 (RSy.good.bel HX.out HX4.out)
  have hq2 := fun W (hW : Ext w W) => Generate_c (fun _ => True) s hsm _ e W (RSy.good.bel HX.out hW)
  obtain ⟨ts, hts⟩ : ∃ ts, genR s d = ts := ⟨_, rfl⟩
  obtain ⟨us, hus⟩ : ∃ us, genR s e = us := ⟨_, rfl⟩
  obtain ⟨ea, hea⟩ : ∃ ea, genE s d = ea := ⟨_, rfl⟩
  obtain ⟨eb, heb⟩ : ∃ eb, genE s e = eb := ⟨_, rfl⟩
  rw [hts, hus, hea, heb] at hpl
  rw [hts, hea] at hq1
  rw [hus, heb] at hq2
  have HPL := Lib.hid hpl
  clear hts hus hea heb hpl
  go_wp2_with fail
  refine hq1.mono ?_
  rintro e5 w5 ⟨A7, c7, rfl, r7, h5⟩
  have R7 := te_of r7
  have z5 := (HB4.out.ext h5).lt
  have c0 := (HB4.out.ext h5).cell 0 _
  have c1 := (HB4.out.ext h5).cell 1 _
  have c2 := (HB4.out.ext h5).cell 2 _
  have HX5 : Hid (Ext w w5) := HX4.out.trans' h5
  have HR7 := Lib.hid R7
  clear h5 HX4 HB4 hq1 r7 R7
  go_wp2_with fail
  refine (hq2 _ HX5.out).mono ?_
  rintro e6 w6 ⟨A9, c9, rfl, r9, h6⟩
  have R9 := te_of r9
  have HX6 : Hid (Ext w w6) := HX5.out.trans' h6
  have HR7b := Lib.hid ((RSl.good RTe.good).bel HR7.out h6)
  have HR9 := Lib.hid R9
  obtain ⟨_, _, e9, hc9, hc9'⟩ := R9.val
  injection e9 with e9a _ e9
  subst e9a
  subst e9
  clear h6 HX5 HR7 hq2 r9 R9
  by_cases ha : ea = 0
  · by_cases hb : eb = 0
    · subst ha hb
      obtain ⟨m, hm⟩ := HPL.out.2 rfl rfl
      subst hm
      have hl : ts.length ≤ (ts ++ m).length := by simp
      have htk : (ts ++ m).take ts.length = ts := by simp
      have hsl := HR9.out.takeN ts.length hl
      rw [htk] at hsl
      have hcall := fun W (hW : Ext w6 W) => sameTests_c (fun _ => True) ts ts _ _ W ((RSl.good RTe.good).bel HR7b.out hW) ((RSl.good RTe.good).bel hsl hW)
      rw [leq_refl sameTe_refl ts] at hcall
      have hl2 : ts.length ≤ ts.length + m.length := by omega
      have hl3 : ts.length + m.length ≤ c9 := by rw [← List.length_append]; exact hc9
      have hl4 : ts.length ≤ c9 := by omega
      clear htk hsl hl HPL
      go_wp2_with fail
      refine (hcall _ (Ext.refl _)).mono ?_
      rintro e7 w7 ⟨rfl, h7⟩
      have HX7 : Hid (Ext w w7) := HX6.out.trans' h7.ext
      clear hcall h7
      go_wp2_with fail
      go_ret
      exact ⟨rfl, HX7.out⟩
    · have h3 := HPL.out.1 (.inr hb)
      rcases h3 with h3 | h3 | h3
      · omega
      · subst h3 ha
        go_wp2_with fail
        go_ret
        exact ⟨rfl, HX6.out⟩
      · subst h3 ha
        go_wp2_with fail
        go_ret
        exact ⟨rfl, HX6.out⟩
  · have h3 := HPL.out.1 (.inl ha)
    rcases h3 with h3 | h3 | h3
    · subst h3
      go_wp2_with fail
      go_ret
      exact ⟨rfl, HX6.out⟩
    · subst h3
      by_cases h2 : ea = 2
      · subst h2
        go_wp2_with fail
        go_ret
        exact ⟨rfl, HX6.out⟩
      · go_wp2_with fail
        go_ret
        exact ⟨rfl, HX6.out⟩
    · subst h3
      by_cases h2 : ea = 1
      · subst h2
        go_wp2_with fail
        go_ret
        exact ⟨rfl, HX6.out⟩
      · go_wp2_with fail
        go_ret
        exact ⟨rfl, HX6.out⟩
end Go.Proofs.YtegenalcheooeaaGreat

/- The arguments read. -/
set_option linter.unusedSectionVars false
set_option linter.unusedSimpArgs false
set_option linter.unusedVariables false
namespace Go.Proofs.YtegenalcheooeaaGreat
open Go.RowKit
attribute [local go_sem] cell?_exto
open Go.ChangeShapes Go.WideShapes Go.ChangeAt

section
variable {H : Type} {enc : TypeId × Value → H} {W : World} {sp : Nat → Bool} {held : Bool}
theorem bulkAll_sum : ∀ (l : List Nat) (es : List (DataW H)), l.length = es.length → (∀ i, (h : i < l.length) → (h' : i < es.length) → l[i] ≤ Rows.uptoBulk es[i]) → l.sum ≤ Rows.uptoBulkAll es
  | [], [], _, _ => by simp [Rows.uptoBulkAll]
  | [], _ :: _, h, _ => by simp at h
  | _ :: _, [], h, _ => by simp at h
  | x :: l, e :: es, h, hi => by
    rw [List.sum_cons, Rows.uptoBulkAll]
    have h0 := hi 0 (by simp) (by simp)
    have := bulkAll_sum l es (by simpa using h) fun i h1 h2 => hi (i + 1) (Nat.succ_lt_succ h1) (Nat.succ_lt_succ h2)
    simp only [List.getElem_cons_zero] at h0
    omega
/-- A slice, its elements read one by one. -/
theorem open_sl {α : Type} {R : Rdr α} {k : Nat} (hk : 0 < k) {t te : TypeId} {fuel : Nat} {cs : List Value} {x : DataW H × List MemPlace} (sz : α → Nat) (ht : Tryz.prog.underlying t = some (.slice te)) (hc : Tryz.prog.cellsOf te = k)
    (h : DataW.trod enc Tryz.prog W 0 sp held fuel t cs = some x) (hel : ∀ n, n < fuel → ∀ cs y, DataW.trod enc Tryz.prog W 0 sp held n te cs = some y → cs.length = k ∧ ∃ a, R (fun _ => True) W a cs ∧ sz a ≤ Rows.uptoBulk y.1) :
    ∃ l v, cs = [v] ∧ RSl R k (fun _ => True) W l [v] ∧ (l.map sz).sum ≤ Rows.uptoBulk x.1 := by
  rcases DataW.trod_slice ht h with ⟨rfl, rfl⟩ | ⟨a, len, cap, elems, rest, n, rfl, rfl, rfl, _, h1, h2, h3, h4, _, _⟩
  · exact ⟨[], _, rfl, ⟨none, 0, rfl, Nat.le_refl _, by decide, .inl rfl⟩, by simp⟩
  · have hx : ∀ i : Fin len, ∃ a' ds, R (fun _ => True) W a' ds ∧ ds.length = k ∧ W.cells? 0 (a.add (i.1 * k)) k = some ds ∧ sz a' ≤ Rows.uptoBulk (elems[i.1]'(by omega)).1 := fun i => by
      have hi := h4 i.1 i.2
      rw [hc, List.getElem?_eq_getElem (by omega)] at hi
      obtain ⟨ds, hd, hy⟩ := Option.bind_eq_some_iff.1 hi
      obtain ⟨hl, a', ha, hs⟩ := hel n (Nat.lt_succ_self n) ds _ hy
      exact ⟨a', ds, ha, hl, hd, hs⟩
    obtain ⟨f, hf⟩ := Classical.axiomOfChoice hx
    have hlen : (List.ofFn f).length = len := List.length_ofFn
    have hget : ∀ i, (h : i < len) → (List.ofFn f)[i]'(by rw [hlen]; exact h) = f ⟨i, h⟩ := fun i h => by simp
    refine ⟨List.ofFn f, _, rfl, ⟨some a, cap, by rw [hlen], by rw [hlen]; exact h1, by unfold maxLen at h2; omega, ?_⟩, ?_⟩
    · by_cases h0 : len = 0
      · left
        exact List.length_eq_zero_iff.1 (by rw [hlen]; exact h0)
      · right
        obtain ⟨b, off, spot⟩ := a
        obtain ⟨ds, _, hl0, hc0, _⟩ := hf ⟨0, by omega⟩
        obtain ⟨_, _, hcell0⟩ := World.cells?_some hc0
        have g0 := hcell0 0 hk
        rw [List.getElem?_eq_getElem (by omega)] at g0
        have hspot : spot = none := by simpa [Addr.add] using World.cell?_spot g0
        subst hspot
        refine ⟨b, off, rfl, World.block_lt_of_cell? W _ (by simpa [Addr.add] using g0), trivial, RowAt.of_get fun i hi => ?_⟩
        rw [hlen] at hi
        obtain ⟨ds, hr, hl, hcs, _⟩ := hf ⟨i, hi⟩
        obtain ⟨_, _, hcell⟩ := World.cells?_some hcs
        refine ⟨ds, hl, by rw [hget i hi]; exact hr, fun j u hj => ?_⟩
        have hjk : j < k := by rw [← hl]; exact (List.getElem?_eq_some_iff.1 hj).1
        have := hcell j hjk
        rw [hj] at this
        rw [Addr.add_lit, Addr.add_lit] at this
        exact this
    · have hb := bulkAll_sum ((List.ofFn f).map sz) (elems.map (·.1)) (by simp [h3]) fun i h h' => by
        have hi : i < len := by simpa using h
        obtain ⟨_, _, _, _, hs⟩ := hf ⟨i, hi⟩
        simpa using hs
      simp only [Rows.uptoBulk]
      omega
theorem i64_of {n : Int} (h : (Lit.int .i64 n).wf = true) : I64 n := by
  simp only [Lit.wf, Bool.and_eq_true, decide_eq_true_eq] at h
  have h1 : IntKind.i64.min = -9223372036854775808 := by decide
  have h2 : IntKind.i64.max = 9223372036854775807 := by decide
  rw [h1, h2] at h
  unfold I64
  omega
theorem list2 {α : Type} : ∀ {l : List α}, l.length = 2 → ∃ a b, l = [a, b]
  | [a, b], _ => ⟨a, b, rfl⟩
theorem list3 {α : Type} : ∀ {l : List α}, l.length = 3 → ∃ a b c, l = [a, b, c]
  | [a, b, c], _ => ⟨a, b, c, rfl⟩
theorem k3 : Tryz.prog.cellsOf 3 = 1 := by kernel_rfl
theorem k59 : Tryz.prog.cellsOf 59 = 1 := by kernel_rfl
theorem k22 : Tryz.prog.cellsOf 22 = 1 := by kernel_rfl
theorem k23 : Tryz.prog.cellsOf 23 = 1 := by kernel_rfl
theorem k159 : Tryz.prog.cellsOf 159 = 3 := by kernel_rfl
theorem k61 : Tryz.prog.cellsOf 61 = 2 := by kernel_rfl
theorem k88 : Tryz.prog.cellsOf 88 = 3 := by kernel_rfl
theorem k25 : Tryz.prog.cellsOf 25 = 3 := by kernel_rfl
theorem sizes_sum : ∀ l : List Tm, (l.map Tm.size).sum = Tm.sizes l
  | [] => by rw [Tm.sizes]; rfl
  | t :: ts => by rw [Tm.sizes, List.map_cons, List.sum_cons, sizes_sum ts]
theorem open_tm : ∀ (fuel : Nat) (cs : List Value) (x : DataW H × List MemPlace), DataW.trod enc Tryz.prog W 0 sp held fuel 159 cs = some x → cs.length = 3 ∧ ∃ t : Tm, RTm (fun _ => True) W t cs ∧ t.size ≤ Rows.uptoBulk x.1 := by
  intro fuel
  induction fuel using Nat.strongRecOn with
  | _ fuel ih =>
  intro cs x h
  obtain ⟨xs, n, rfl, rfl, hl, hlen, hf⟩ := DataW.trod_struct Tryz.underlying159 h
  have hl3 : cs.length = 3 := by rw [hl, k159]
  obtain ⟨c0, c1, c2, rfl⟩ := list3 hl3
  obtain ⟨y0, y1, y2, rfl⟩ := list3 (show xs.length = 3 from hlen)
  clear hl hlen hl3
  have g0 : DataW.trod enc Tryz.prog W 0 sp held n 3 (([c0, c1, c2].drop 0).take (Tryz.prog.cellsOf 3)) = some y0 := hf 0 _ rfl
  rw [k3] at g0
  have g1 : DataW.trod enc Tryz.prog W 0 sp held n 3 (([c0, c1, c2].drop 1).take (Tryz.prog.cellsOf 3)) = some y1 := hf 1 _ rfl
  rw [k3] at g1
  have g2 : DataW.trod enc Tryz.prog W 0 sp held n 59 (([c0, c1, c2].drop 2).take (Tryz.prog.cellsOf 59)) = some y2 := hf 2 _ rfl
  rw [k59] at g2
  obtain ⟨n0, e0, _, w0⟩ := DataW.trod_int Tryz.underlying3 g0
  obtain ⟨n1, e1, _, w1⟩ := DataW.trod_int Tryz.underlying3 g1
  obtain ⟨l, v, e2, hr, hs⟩ := open_sl (R := RTm) (k := 3) (by decide) Tm.size Tryz.underlying59 k159 g2 (fun m hm cs y hy => ih m (by omega) cs y hy)
  have f0 : c0 = .int .i64 n0 := by injection e0
  have f1 : c1 = .int .i64 n1 := by injection e1
  have f2 : c2 = v := by injection e2
  subst f0 f1 f2
  refine ⟨rfl, .mk n0 n1 l, (RTm_iff ..).2 ⟨i64_of w0, i64_of w1, _, rfl, hr⟩, ?_⟩
  rw [sizes_sum] at hs
  rw [Tm.size]
  simp only [List.map_cons, List.map_nil, Rows.uptoBulk, Rows.uptoBulkAll]
  omega
theorem open_lb (fuel : Nat) (cs : List Value) (x : DataW H × List MemPlace) (h : DataW.trod enc Tryz.prog W 0 sp held fuel 61 cs = some x) : cs.length = 2 ∧ ∃ a : Lb, RLb (fun _ => True) W a cs ∧ a.size ≤ Rows.uptoBulk x.1 := by
  obtain ⟨xs, n, rfl, rfl, hl, hlen, hf⟩ := DataW.trod_struct Tryz.underlying61 h
  have hl3 : cs.length = 2 := by rw [hl, k61]
  obtain ⟨c0, c1, rfl⟩ := list2 hl3
  obtain ⟨y0, y1, rfl⟩ := list2 (show xs.length = 2 from hlen)
  clear hl hlen hl3
  have g0 : DataW.trod enc Tryz.prog W 0 sp held n 3 (([c0, c1].drop 0).take (Tryz.prog.cellsOf 3)) = some y0 := hf 0 _ rfl
  rw [k3] at g0
  have g1 : DataW.trod enc Tryz.prog W 0 sp held n 59 (([c0, c1].drop 1).take (Tryz.prog.cellsOf 59)) = some y1 := hf 1 _ rfl
  rw [k59] at g1
  obtain ⟨n0, e0, _, w0⟩ := DataW.trod_int Tryz.underlying3 g0
  obtain ⟨l, v, e2, hr, hs⟩ := open_sl (R := RTm) (k := 3) (by decide) Tm.size Tryz.underlying59 k159 g1 (fun m _ cs y hy => open_tm m cs y hy)
  have f0 : c0 = .int .i64 n0 := by injection e0
  have f2 : c1 = v := by injection e2
  subst f0 f2
  refine ⟨rfl, ⟨n0, l⟩, ⟨i64_of w0, _, rfl, hr⟩, ?_⟩
  rw [sizes_sum] at hs
  simp only [List.map_cons, List.map_nil, Rows.uptoBulk, Rows.uptoBulkAll]
  show Tm.sizes l ≤ _
  omega
theorem open_ed (fuel : Nat) (cs : List Value) (x : DataW H × List MemPlace) (h : DataW.trod enc Tryz.prog W 0 sp held fuel 88 cs = some x) : cs.length = 3 ∧ ∃ a : Ed, REd (fun _ => True) W a cs ∧ 1 ≤ Rows.uptoBulk x.1 := by
  obtain ⟨xs, n, rfl, rfl, hl, hlen, hf⟩ := DataW.trod_struct Tryz.underlying88 h
  have hl3 : cs.length = 3 := by rw [hl, k88]
  obtain ⟨c0, c1, c2, rfl⟩ := list3 hl3
  obtain ⟨y0, y1, y2, rfl⟩ := list3 (show xs.length = 3 from hlen)
  clear hl hlen hl3
  have g0 : DataW.trod enc Tryz.prog W 0 sp held n 3 (([c0, c1, c2].drop 0).take (Tryz.prog.cellsOf 3)) = some y0 := hf 0 _ rfl
  rw [k3] at g0
  have g1 : DataW.trod enc Tryz.prog W 0 sp held n 3 (([c0, c1, c2].drop 1).take (Tryz.prog.cellsOf 3)) = some y1 := hf 1 _ rfl
  rw [k3] at g1
  have g2 : DataW.trod enc Tryz.prog W 0 sp held n 3 (([c0, c1, c2].drop 2).take (Tryz.prog.cellsOf 3)) = some y2 := hf 2 _ rfl
  rw [k3] at g2
  obtain ⟨n0, e0, _, w0⟩ := DataW.trod_int Tryz.underlying3 g0
  obtain ⟨n1, e1, _, w1⟩ := DataW.trod_int Tryz.underlying3 g1
  obtain ⟨n2, e2, _, w2⟩ := DataW.trod_int Tryz.underlying3 g2
  have f0 : c0 = .int .i64 n0 := by injection e0
  have f1 : c1 = .int .i64 n1 := by injection e1
  have f2 : c2 = .int .i64 n2 := by injection e2
  subst f0 f1 f2
  refine ⟨rfl, ⟨n0, n1, n2⟩, ⟨i64_of w0, i64_of w1, i64_of w2, rfl⟩, ?_⟩
  simp only [Rows.uptoBulk]
  omega
theorem sum_mem : ∀ (l : List Nat) (n : Nat), n ∈ l → n ≤ l.sum
  | x :: l, n, h => by
    rw [List.sum_cons]
    rcases List.mem_cons.1 h with rfl | h
    · omega
    · have := sum_mem l n h; omega
theorem open_sy (fuel : Nat) (cs : List Value) (x : DataW H × List MemPlace) (h : DataW.trod enc Tryz.prog W 0 sp held fuel 25 cs = some x) : cs.length = 3 ∧ ∃ s : Sy, RSy (fun _ => True) W s cs ∧ (∀ a ∈ s.ls, a.size ≤ Rows.uptoBulk x.1) := by
  obtain ⟨xs, n, rfl, rfl, hl, hlen, hf⟩ := DataW.trod_struct Tryz.underlying25 h
  have hl3 : cs.length = 3 := by rw [hl, k25]
  obtain ⟨c0, c1, c2, rfl⟩ := list3 hl3
  obtain ⟨y0, y1, y2, rfl⟩ := list3 (show xs.length = 3 from hlen)
  clear hl hlen hl3
  have g0 : DataW.trod enc Tryz.prog W 0 sp held n 3 (([c0, c1, c2].drop 0).take (Tryz.prog.cellsOf 3)) = some y0 := hf 0 _ rfl
  rw [k3] at g0
  have g1 : DataW.trod enc Tryz.prog W 0 sp held n 22 (([c0, c1, c2].drop 1).take (Tryz.prog.cellsOf 22)) = some y1 := hf 1 _ rfl
  rw [k22] at g1
  have g2 : DataW.trod enc Tryz.prog W 0 sp held n 23 (([c0, c1, c2].drop 2).take (Tryz.prog.cellsOf 23)) = some y2 := hf 2 _ rfl
  rw [k23] at g2
  obtain ⟨n0, e0, _, w0⟩ := DataW.trod_int Tryz.underlying3 g0
  obtain ⟨ls, v, e1, hr1, hs1⟩ := open_sl (R := RLb) (k := 2) (by decide) Lb.size Tryz.underlying22 k61 g1 (fun m _ cs y hy => open_lb m cs y hy)
  obtain ⟨es, u, e2, hr2, hs2⟩ := open_sl (R := REd) (k := 3) (by decide) (fun _ => 1) Tryz.underlying23 k88 g2 (fun m _ cs y hy => open_ed m cs y hy)
  have f0 : c0 = .int .i64 n0 := by injection e0
  have f1 : c1 = v := by injection e1
  have f2 : c2 = u := by injection e2
  subst f0 f1 f2
  refine ⟨rfl, ⟨n0, ls, es⟩, ⟨i64_of w0, _, _, rfl, hr1, hr2⟩, fun a ha => ?_⟩
  have h9 : a.size ≤ (ls.map Lb.size).sum := sum_mem _ _ (List.mem_map_of_mem (f := Lb.size) (show a ∈ ls from ha))
  simp only [List.map_cons, List.map_nil, Rows.uptoBulk, Rows.uptoBulkAll]
  omega
end
end Go.Proofs.YtegenalcheooeaaGreat

/- SuiteLonger: closed facts. -/
set_option linter.unusedSectionVars false
set_option linter.unusedSimpArgs false
set_option linter.unusedVariables false
namespace Go.Proofs.YtegenalcheooeaaGreat
open Go.RowKit
attribute [local go_sem] cell?_exto
theorem inPlace4 : (Rows.suiteLongerUptoRow.inPlace == Tryz.pinned.checked.prog.inPlace 4) = true := by kernel_rfl
theorem named4 : Tryz.pinned.checked.prog.funcNamed Rows.suiteLongerUptoRow.func = some 4 := by kernel_rfl
theorem unfollowed4 : (Rows.suiteLongerUptoRow.unfollowed == Tryz.pinned.checked.prog.unfollowed 4) = true := by kernel_rfl
theorem recurses4 : (Rows.suiteLongerUptoRow.recurses == Tryz.pinned.checked.prog.recurses 4) = true := by kernel_rfl
theorem varsNamed4 : (Rows.suiteLongerUptoRow.named == Tryz.pinned.checked.prog.varsNamed 4) = true := by kernel_rfl
theorem laid4 : laidOutB Tryz.pinned.checked.prog = true := by kernel_rfl
theorem maps4 : mapsRowed Tryz.pinned.checked.prog = true := by kernel_rfl
set_option maxHeartbeats 4000000 in
theorem closed4 : joinedFacts Tryz.pinned.checked.prog 4 Tryz.f4 (Rows.OpenSpec.upto Rows.suiteLongerSpec).bare Rows.suiteLongerUptoRow = true := by
  unfold joinedFacts
  simp only [inPlace4, unfollowed4, recurses4, varsNamed4, laid4, maps4, Bool.and_true, Bool.true_and, Bool.and_eq_true]
  repeat' apply And.intro
  all_goals (as_aux_lemma => kernel_rfl)
end Go.Proofs.YtegenalcheooeaaGreat

