/- Of the proof of a law of the suites: RVal, RVis. -/
import Derived.Test.YtegenalcheooeaaGreatB05
import Derived.Test.YtegenalcheooeaaGreatB06
import Derived.Test.YtegenalcheooeaaGreatB26
set_option linter.unusedSectionVars false
set_option linter.unusedSimpArgs false
set_option linter.unusedVariables false
namespace Go.Proofs.YtegenalcheooeaaGreat
open Go.RowKit
attribute [local go_sem] cell?_exto
section
set_option maxHeartbeats 1000000
set_option maxRecDepth 100000
/- The reference's values: madrigalref17.Value and what it calls: walked. -/

/-! ### What they come to -/
mutual
def cntR : Tm → Int → Int → Int × Bool
 | .mk _ _ l, left, deep => if left - 1 < 0 ∨ 200 < deep then (left - 1, false) else cntRs l (left - 1) deep
def cntRs : List Tm → Int → Int → Int × Bool
 | [], left, _ => (left, true)
 | x :: xs, left, deep => if (cntR x left (deep + 1)).2 = true then cntRs xs (cntR x left (deep + 1)).1 deep else ((cntR x left (deep + 1)).1, false)
end
def ovr (s : Int × Int) : Prop := s.1 > 2000 ∨ s.2 > 200
theorem cntTms_ovr : ∀ (l : List Tm) (d : Int) (s : Int × Int), ovr s → cntTms l d s = s
 | [], d, s, _ => by rw [cntTms]
 | x :: xs, d, s, h => by rw [cntTms, if_pos (show s.1 > 2000 ∨ s.2 > 200 from h)]
mutual
theorem cntR_eq : ∀ (t : Tm) (d : Int) (s : Int × Int), ¬ ovr s → ((cntR t (2000 - s.1) d).2 = true ↔ ¬ ovr (cntTm t d s)) ∧ ((cntR t (2000 - s.1) d).2 = true → (cntR t (2000 - s.1) d).1 = 2000 - (cntTm t d s).1)
 | .mk _ _ l, d, s, h => by
  have h0 : ¬ (s.1 > 2000 ∨ s.2 > 200) := h
  rw [cntR, cntTm]
  by_cases ho : ovr (s.1 + 1, if s.2 < d then d else s.2)
  ·have ho' : s.1 + 1 > 2000 ∨ (if s.2 < d then d else s.2) > 200 := ho
   have hc : 2000 - s.1 - 1 < 0 ∨ 200 < d := by
    rcases ho' with h1 | h1
    ·left; omega
    ·right; split at h1 <;> omega
   rw [if_pos hc, cntTms_ovr l d _ ho]
   exact ⟨⟨fun h => (by cases h), fun h => absurd ho h⟩, fun h => by cases h⟩
  ·have ho' : ¬ (s.1 + 1 > 2000 ∨ (if s.2 < d then d else s.2) > 200) := ho
   have hc : ¬ (2000 - s.1 - 1 < 0 ∨ 200 < d) := by
    intro h1
    refine ho' (h1.elim (fun h => .inl (by omega)) fun h => .inr ?_)
    split <;> omega
   rw [if_neg hc]
   have := cntRs_eq l d (s.1 + 1, if s.2 < d then d else s.2) ho
   simp only at this
   rw [show 2000 - s.1 - 1 = 2000 - (s.1 + 1) by omega]
   exact this
theorem cntRs_eq : ∀ (l : List Tm) (d : Int) (s : Int × Int), ¬ ovr s → ((cntRs l (2000 - s.1) d).2 = true ↔ ¬ ovr (cntTms l d s)) ∧ ((cntRs l (2000 - s.1) d).2 = true → (cntRs l (2000 - s.1) d).1 = 2000 - (cntTms l d s).1)
 | [], d, s, h => by
  rw [cntRs, cntTms]
  exact ⟨⟨fun _ => h, fun _ => rfl⟩, fun _ => rfl⟩
 | x :: xs, d, s, h => by
  have hx := cntR_eq x (d + 1) s h
  rw [cntRs, cntTms, if_neg (show ¬ (s.1 > 2000 ∨ s.2 > 200) from h)]
  by_cases hc : (cntR x (2000 - s.1) (d + 1)).2 = true
  ·rw [if_pos hc, hx.2 hc]
   exact cntRs_eq xs d _ (hx.1.1 hc)
  ·have ho : ovr (cntTm x (d + 1) s) := Classical.byContradiction fun hn => hc (hx.1.2 hn)
   rw [if_neg hc, cntTms_ovr xs d _ ho]
   exact ⟨⟨fun h => (by cases h), fun h => absurd ho h⟩, fun h => by cases h⟩
end
mutual
def nodesB : Tm → Bool
 | .mk k n l => !(decide (n < 0) || (decide (k ≠ 1) && decide (k ≠ 2)) || (decide (k = 1) && decide (0 < l.length)) || decide (8 < l.length)) && nodesBs l
def nodesBs : List Tm → Bool
 | [] => true
 | x :: xs => nodesB x && nodesBs xs
end
mutual
theorem allV_nodes : ∀ t, allV t = true → nodesB t = true
 | .mk k n l, h => by
  rw [allV] at h
  simp only [Bool.and_eq_true, decide_eq_true_eq] at h
  rw [nodesB, allVs_nodes l h.2, Bool.and_true, Bool.not_eq_true']
  obtain ⟨⟨⟨⟨h1, h2⟩, h3⟩, h4⟩, _⟩ := h
  rw [decide_eq_false (by omega), decide_eq_false (by omega : ¬ 8 < l.length), show decide (k ≠ 2) = false from decide_eq_false (by omega), show decide (k = 1) = false from decide_eq_false (by omega)]
  simp
theorem allVs_nodes : ∀ l, allVs l = true → nodesBs l = true
 | [], _ => by rw [nodesBs]
 | x :: xs, h => by
  rw [allVs, Bool.and_eq_true] at h
  rw [nodesBs, allV_nodes x h.1, allVs_nodes xs h.2]
  rfl
end
theorem isV_ref (t : Tm) : isV t = (allV t && ((cntR t 2000 1).2 && nodesB t)) := by
 have h := (cntR_eq t 1 (0, 0) (by unfold ovr; simp)).1
 simp only [Int.sub_zero] at h
 rw [isV]
 cases hv : allV t with
 | false => simp
 | true =>
  rw [allV_nodes t hv, Bool.and_true, Bool.and_true, Bool.true_and]
  by_cases ho : ovr (cntTm t 1 (0, 0))
  ·have h2 : (cntR t 2000 1).2 = false := by
    cases hc : (cntR t 2000 1).2 with
    | false => rfl
    | true => exact absurd ho (h.1 hc)
   rw [h2, sizeTm, if_pos (show (cntTm t 1 (0, 0)).1 > 2000 ∨ (cntTm t 1 (0, 0)).2 > 200 from ho)]
   decide
  ·have ho' : ¬ ((cntTm t 1 (0, 0)).1 > 2000 ∨ (cntTm t 1 (0, 0)).2 > 200) := ho
   rw [h.2 ho, sizeTm, if_neg ho']
   exact decide_eq_true (by omega)
theorem allVs_take {l : List Tm} {k : Nat} (h : k < l.length) : allVs (l.take (k + 1)) = (allVs (l.take k) && allV l[k]) := by
 rw [allVs_any, allVs_any, List.take_succ_eq_append_getElem h, List.any_append, List.any_cons, List.any_nil, Bool.or_false, Bool.not_or, Bool.not_not]
theorem allVs_no {l : List Tm} {k : Nat} (h : k < l.length) (hf : allV l[k] = false) : allVs l = false := by
 rw [allVs_any, List.any_eq_true.2 ⟨l[k], List.getElem_mem h, by rw [hf]; rfl⟩]
 rfl
theorem allV_mk (t : Tm) : allV t = (decide (t.k = 2) && decide (0 ≤ t.n) && decide (t.n < 256) && decide (t.l.length ≤ 8) && allVs t.l) := by cases t; rw [allV]; rfl

/-! ### madrigalref17.value -/
def VlC (t : Tm) : Prop := ∀ (S : Nat → Prop) (cs : List Value) (W : World), RTm S W t cs → Calls Tryz.prog 283 #[.agg cs.toArray] W fun e w' => e = .returned (.bool (allV t)) ∧ Ext W w'
theorem value_of (t : Tm) (ht : ∀ x ∈ t.l, VlC x) : VlC t := by
 intro S cs w hx
 obtain ⟨_, _, v, rfl, hv⟩ := (RTm_iff ..).1 hx
 obtain ⟨A, c, rfl, hc, hc0⟩ := hv.val
 have HV := Lib.hid hv
 have HT := Lib.hid ht
 have hmk := allV_mk t
 clear hv hx ht
 by_cases h1 : t.k = 2
 rotate_left
 ·have HA : Hid (allV t = false) := by
   show _ = _
   rw [hmk, decide_eq_false h1]
   rfl
  clear hmk
  go_enter Tryz.func283, Tryz.ntmps283
  go_wp2_with fail
  go_ret
  exact ⟨by rw [HA.out]; rfl, bel⟩
 by_cases h2 : t.n < 0
 ·have HA : Hid (allV t = false) := by
   show _ = _
   rw [hmk, decide_eq_false (by omega : ¬ 0 ≤ t.n), Bool.and_false]
   rfl
  clear hmk
  go_enter Tryz.func283, Tryz.ntmps283
  go_wp2_with fail
  go_ret
  exact ⟨by rw [HA.out]; rfl, bel⟩
 by_cases h3 : 255 < t.n
 ·have HA : Hid (allV t = false) := by
   show _ = _
   rw [hmk, decide_eq_false (by omega : ¬ t.n < 256), Bool.and_false]
   rfl
  clear hmk
  go_enter Tryz.func283, Tryz.ntmps283
  go_wp2_with fail
  go_ret
  exact ⟨by rw [HA.out]; rfl, bel⟩
 by_cases h4 : 8 < t.l.length
 ·have HA : Hid (allV t = false) := by
   show _ = _
   rw [hmk, decide_eq_false (by omega : ¬ t.l.length ≤ 8), Bool.and_false]
   rfl
  clear hmk
  go_enter Tryz.func283, Tryz.ntmps283
  go_wp2_with fail
  go_ret
  exact ⟨by rw [HA.out]; rfl, bel⟩
 have HA : Hid (allV t = allVs t.l) := by
  show _ = _
  rw [hmk, decide_eq_true h1, decide_eq_true (by omega : 0 ≤ t.n), decide_eq_true (by omega : t.n < 256), decide_eq_true (by omega : t.l.length ≤ 8)]
  rfl
 have hkb : (t.k != 2) = false := by rw [h1]; rfl
 clear h1
 obtain ⟨W0, hW0⟩ : ∃ W0, w.alloc (.cells #[.int .i64 t.k, .int .i64 t.n, .slice A t.l.length c] 159) = W0 := ⟨_, rfl⟩
 have hE0 : Ext w W0 := by rw [← hW0]; exact (Ext.refl w).alloc _
 have hB0 : BoxL W0 w.heap.size 159 [.int .i64 t.k, .int .i64 t.n, .slice A t.l.length c] := by rw [← hW0]; exact BoxL.new w 159 _
 have HB0 := Lib.hid hB0
 have HE0 := Lib.hid hE0
 have HW0 := Lib.hid hW0
 clear hmk hE0 hB0 hW0
 go_enter Tryz.func283, Tryz.ntmps283
 go_wp2_with fail
 rw [HW0.out]
 obtain ⟨p0, hp0⟩ : ∃ p0, w.heap.size = p0 := ⟨_, rfl⟩
 rw [hp0] at HB0
 rw [hp0]
 clear hp0 HW0
 go_loopw [3] (fun vi wr => ∃ k : Nat, k ≤ t.l.length ∧ vi = .int .i64 k ∧ Ext W0 wr ∧ Hid (allVs (t.l.take k) = true)) (fun vi _ => t.l.length - (intOf vi).toNat)
 case atStart => exact ⟨0, Nat.zero_le _, rfl, Ext.refl _, (show allVs [] = true by rw [allVs])⟩
 case round =>
  obtain ⟨k, hk, rfl, hE, hal⟩ := hrel
  have hbx := HB0.out.ext hE
  have x2 := hbx.cell 2 _
  have xz := hbx.lt
  clear hbx
  by_cases hlt : k < t.l.length
  ·obtain ⟨b, off, cs, rfl, hb, hS, hl, hr, hcell⟩ := (RTms.good.bel HV.out (HE0.out.trans' hE)).get k hlt
   obtain ⟨_, _, v3, rfl, hv3⟩ := (RTm_iff ..).1 hr
   have a0 := hcell.get 0 _
   have a1 := hcell.get 1 _
   have a2 := hcell.get 2 _
   simp only [Nat.add_zero] at a0
   obtain ⟨A3, c3, rfl, _, _⟩ := hv3.val
   have hca := HT.out _ (List.getElem_mem hlt) S _ wr hr
   have HTK := Lib.hid (allVs_take hlt)
   have HNO := Lib.hid (allVs_no hlt)
   obtain ⟨bb, hbb⟩ : ∃ bb, allV t.l[k] = bb := ⟨_, rfl⟩
   rw [hbb] at hca HTK HNO
   obtain ⟨q1, hq1⟩ : ∃ q1, t.l[k].k = q1 := ⟨_, rfl⟩
   obtain ⟨q2, hq2⟩ : ∃ q2, t.l[k].n = q2 := ⟨_, rfl⟩
   obtain ⟨q3, hq3⟩ : ∃ q3, t.l[k].l.length = q3 := ⟨_, rfl⟩
   rw [hq1, hq2, hq3] at hca
   rw [hq1] at a0
   rw [hq2] at a1
   rw [hq3] at a2
   have hk1 : k + 1 ≤ t.l.length := hlt
   clear hcell hl hS hr hv3 hbb hq1 hq2 hq3
   go_wp2_with fail
   refine hca.mono ?_
   rintro e w1 ⟨rfl, h1⟩
   cases bb
   ·go_wp2_with fail
    go_ret
    exact ⟨by rw [HA.out, HNO.out (by trivial)]; rfl, HE0.out.trans' (hE.trans' h1)⟩
   ·go_wp2_with fail
    go_roundw
    case rel => exact ⟨k + 1, hk1, by go_num, hE.trans' h1, (by rw [HTK.out, hal.out]; rfl : allVs (t.l.take (k + 1)) = true)⟩
    case measure => simp [intOf]; omega
  ·have HAL : Hid (allV t = true) := by
    show _ = _
    have := hal.out
    rw [List.take_of_length_le (by omega)] at this
    rw [HA.out, this]
   go_wp2_with fail
   go_ret
   exact ⟨by rw [HAL.out]; rfl, HE0.out.trans' hE⟩
theorem value17_c : ∀ t, VlC t := Tm.ind value_of

/-! ### madrigalref04: nodes, counted, Is, Tree -/
theorem nodesBs_any : ∀ l : List Tm, nodesBs l = !(l.any fun x => !nodesB x)
 | [] => by rw [nodesBs]; rfl
 | x :: xs => by rw [nodesBs, List.any_cons, nodesBs_any xs]; simp
theorem nodesBs_take {l : List Tm} {k : Nat} (h : k < l.length) : nodesBs (l.take (k + 1)) = (nodesBs (l.take k) && nodesB l[k]) := by
 rw [nodesBs_any, nodesBs_any, List.take_succ_eq_append_getElem h, List.any_append, List.any_cons, List.any_nil, Bool.or_false, Bool.not_or, Bool.not_not]
theorem nodesBs_no {l : List Tm} {k : Nat} (h : k < l.length) (hf : nodesB l[k] = false) : nodesBs l = false := by
 rw [nodesBs_any, List.any_eq_true.2 ⟨l[k], List.getElem_mem h, by rw [hf]; rfl⟩]
 rfl
theorem nodesB_mk (t : Tm) : nodesB t = (!(decide (t.n < 0) || (decide (t.k ≠ 1) && decide (t.k ≠ 2)) || (decide (t.k = 1) && decide (0 < t.l.length)) || decide (8 < t.l.length)) && nodesBs t.l) := by cases t; rw [nodesB]; rfl
def NdC (t : Tm) : Prop := ∀ (S : Nat → Prop) (cs : List Value) (W : World), RTm S W t cs → Calls Tryz.prog 326 #[.agg cs.toArray] W fun e w' => e = .returned (.bool (nodesB t)) ∧ Ext W w'
theorem nodes_of (t : Tm) (ht : ∀ x ∈ t.l, NdC x) : NdC t := by
 intro S cs w hx
 obtain ⟨_, _, v, rfl, hv⟩ := (RTm_iff ..).1 hx
 obtain ⟨A, c, rfl, hc, hc0⟩ := hv.val
 have HV := Lib.hid hv
 have HT := Lib.hid ht
 have hmk := nodesB_mk t
 clear hv hx ht
 by_cases hbad : (decide (t.n < 0) || (decide (t.k ≠ 1) && decide (t.k ≠ 2)) || (decide (t.k = 1) && decide (0 < t.l.length)) || decide (8 < t.l.length)) = true
 ·have HA : Hid (nodesB t = false) := by
   show _ = _
   rw [hmk, hbad]
   rfl
  clear hmk
  simp only [Bool.or_eq_true, Bool.and_eq_true, decide_eq_true_eq] at hbad
  by_cases g1 : t.n < 0
  ·clear hbad
   go_enter Tryz.func326, Tryz.ntmps326
   go_wp2_with fail
   go_ret
   exact ⟨by rw [HA.out]; rfl, bel⟩
  by_cases g2 : t.k = 1
  ·by_cases g3 : 0 < t.l.length
   ·clear hbad
    go_enter Tryz.func326, Tryz.ntmps326
    go_wp2_with fail
    go_ret
    exact ⟨by rw [HA.out]; rfl, bel⟩
   ·exfalso
    omega
  ·by_cases g3 : t.k = 2
   ·have g4 : 8 < t.l.length := by omega
    clear hbad
    go_enter Tryz.func326, Tryz.ntmps326
    go_wp2_with fail
    go_ret
    exact ⟨by rw [HA.out]; rfl, bel⟩
   ·clear hbad
    go_enter Tryz.func326, Tryz.ntmps326
    go_wp2_with fail
    go_ret
    exact ⟨by rw [HA.out]; rfl, bel⟩
 have hbad' := eq_false_of_ne_true hbad
 have HA : Hid (nodesB t = nodesBs t.l) := by
  show _ = _
  rw [hmk, hbad']
  rfl
 simp only [Bool.or_eq_true, Bool.and_eq_true, decide_eq_true_eq, not_or, not_and] at hbad
 obtain ⟨⟨⟨g1, g2⟩, g3⟩, g4⟩ := hbad
 have hk12 : t.k = 1 ∨ t.k = 2 := by omega
 obtain ⟨q, hq⟩ : ∃ q, t.k = q := ⟨_, rfl⟩
 obtain ⟨m, hm⟩ : ∃ m, t.n = m := ⟨_, rfl⟩
 rw [hq] at hk12 g3
 rw [hm] at g1
 rw [hq, hm]
 clear hmk hbad' g2 hq hm
 obtain ⟨W0, hW0⟩ : ∃ W0, w.alloc (.cells #[.int .i64 q, .int .i64 m, .slice A t.l.length c] 159) = W0 := ⟨_, rfl⟩
 have hE0 : Ext w W0 := by rw [← hW0]; exact (Ext.refl w).alloc _
 have hB0 : BoxL W0 w.heap.size 159 [.int .i64 q, .int .i64 m, .slice A t.l.length c] := by rw [← hW0]; exact BoxL.new w 159 _
 have HB0 := Lib.hid hB0
 have HE0 := Lib.hid hE0
 obtain ⟨p0, hp0⟩ : ∃ p0, w.heap.size = p0 := ⟨_, rfl⟩
 rw [hp0] at HB0
 have HP0 := Lib.hid hp0
 have HW0 := Lib.hid hW0
 clear hE0 hB0 hp0 hW0
 rcases hk12 with rfl | rfl
 all_goals
  try have g5 : ¬ 0 < t.l.length := g3 (by trivial)
  try clear g3
  go_enter Tryz.func326, Tryz.ntmps326
  go_wp2_with fail
  rw [HW0.out, HP0.out]
  go_loopw [3] (fun vi wr => ∃ k : Nat, k ≤ t.l.length ∧ vi = .int .i64 k ∧ Ext W0 wr ∧ Hid (nodesBs (t.l.take k) = true)) (fun vi _ => t.l.length - (intOf vi).toNat)
  case atStart => exact ⟨0, Nat.zero_le _, rfl, Ext.refl _, (show nodesBs [] = true by rw [nodesBs])⟩
  case round =>
   obtain ⟨k, hk, rfl, hE, hal⟩ := hrel
   have hbx := HB0.out.ext hE
   have x2 := hbx.cell 2 _
   have xz := hbx.lt
   clear hbx
   by_cases hlt : k < t.l.length
   ·first
    | (exfalso; exact g5 (by omega))
    | (
     obtain ⟨b, off, cs, rfl, hb, hS, hl, hr, hcell⟩ := (RTms.good.bel HV.out (HE0.out.trans' hE)).get k hlt
     obtain ⟨_, _, v3, rfl, hv3⟩ := (RTm_iff ..).1 hr
     have a0 := hcell.get 0 _
     have a1 := hcell.get 1 _
     have a2 := hcell.get 2 _
     simp only [Nat.add_zero] at a0
     obtain ⟨A3, c3, rfl, _, _⟩ := hv3.val
     have hca := HT.out _ (List.getElem_mem hlt) S _ wr hr
     have HTK := Lib.hid (nodesBs_take hlt)
     have HNO := Lib.hid (nodesBs_no hlt)
     obtain ⟨bb, hbb⟩ : ∃ bb, nodesB t.l[k] = bb := ⟨_, rfl⟩
     rw [hbb] at hca HTK HNO
     obtain ⟨q1, hq1⟩ : ∃ q1, t.l[k].k = q1 := ⟨_, rfl⟩
     obtain ⟨q2, hq2⟩ : ∃ q2, t.l[k].n = q2 := ⟨_, rfl⟩
     obtain ⟨q3, hq3⟩ : ∃ q3, t.l[k].l.length = q3 := ⟨_, rfl⟩
     rw [hq1, hq2, hq3] at hca
     rw [hq1] at a0
     rw [hq2] at a1
     rw [hq3] at a2
     have hk1 : k + 1 ≤ t.l.length := hlt
     clear hcell hl hS hr hv3 hbb hq1 hq2 hq3
     go_wp2_with fail
     refine hca.mono ?_
     rintro e w1 ⟨rfl, h1⟩
     cases bb
     ·go_wp2_with fail
      go_ret
      exact ⟨by rw [HA.out, HNO.out (by trivial)]; rfl, HE0.out.trans' (hE.trans' h1)⟩
     ·go_wp2_with fail
      go_roundw
      case rel => exact ⟨k + 1, hk1, by go_num, hE.trans' h1, (by rw [HTK.out, hal.out]; rfl : nodesBs (t.l.take (k + 1)) = true)⟩
      case measure => simp [intOf]; omega)
   ·have HAL : Hid (nodesB t = true) := by
     show _ = _
     have := hal.out
     rw [List.take_of_length_le (by omega)] at this
     rw [HA.out, this]
    go_wp2_with fail
    go_ret
    exact ⟨by rw [HAL.out]; rfl, HE0.out.trans' hE⟩
theorem nodes_c : ∀ t, NdC t := Tm.ind nodes_of
end
section
set_option maxHeartbeats 1000000
set_option maxRecDepth 100000
/- The reference's values and labels: counted, Is, Tree, Value, IsLabel, Visible, right, Trace: walked. -/

mutual
theorem cntR_le : ∀ (t : Tm) (left d : Int), 0 ≤ left → -1 ≤ (cntR t left d).1 ∧ (cntR t left d).1 ≤ left ∧ ((cntR t left d).2 = true → 0 ≤ (cntR t left d).1)
 | .mk _ _ l, left, d, h => by
  rw [cntR]
  by_cases hc : left - 1 < 0 ∨ 200 < d
  ·rw [if_pos hc]
   exact ⟨by show -1 ≤ left - 1; omega, by show left - 1 ≤ left; omega, fun h => by cases h⟩
  ·rw [if_neg hc]
   have := cntRs_le l (left - 1) d (by omega)
   exact ⟨this.1, by omega, this.2.2⟩
theorem cntRs_le : ∀ (l : List Tm) (left d : Int), 0 ≤ left → -1 ≤ (cntRs l left d).1 ∧ (cntRs l left d).1 ≤ left ∧ ((cntRs l left d).2 = true → 0 ≤ (cntRs l left d).1)
 | [], left, d, h => by rw [cntRs]; exact ⟨by show -1 ≤ left; omega, Int.le_refl _, fun _ => h⟩
 | x :: xs, left, d, h => by
  have hx := cntR_le x left (d + 1) h
  rw [cntRs]
  by_cases hc : (cntR x left (d + 1)).2 = true
  ·rw [if_pos hc]
   have := cntRs_le xs _ d (hx.2.2 hc)
   exact ⟨this.1, by omega, this.2.2⟩
  ·rw [if_neg hc]
   exact ⟨hx.1, hx.2.1, fun h => by cases h⟩
end
theorem cntR_mk (t : Tm) (left d : Int) : cntR t left d = if left - 1 < 0 ∨ 200 < d then (left - 1, false) else cntRs t.l (left - 1) d := by cases t; rw [cntR]; rfl
theorem cntRs_snoc : ∀ (xs ys : List Tm) (left d lk : Int), cntRs xs left d = (lk, true) → cntRs (xs ++ ys) left d = cntRs ys lk d
 | [], ys, left, d, lk, h => by
  rw [cntRs] at h
  injection h with h _
  rw [List.nil_append, h]
 | x :: xs, ys, left, d, lk, h => by
  rw [cntRs] at h
  rw [List.cons_append, cntRs]
  by_cases hc : (cntR x left (d + 1)).2 = true
  ·rw [if_pos hc] at h ⊢
   exact cntRs_snoc xs ys _ d lk h
  ·rw [if_neg hc] at h
   injection h with _ h
   cases h
theorem cntRs_take {l : List Tm} {k : Nat} (h : k < l.length) {left d lk a : Int} (h1 : cntRs (l.take k) left d = (lk, true)) (h2 : cntR l[k] lk (d + 1) = (a, true)) : cntRs (l.take (k + 1)) left d = (a, true) := by
 rw [List.take_succ_eq_append_getElem h, cntRs_snoc _ _ _ _ _ h1, cntRs, h2, if_pos rfl, cntRs]
theorem cntRs_no {l : List Tm} {k : Nat} (h : k < l.length) {left d lk a : Int} (h1 : cntRs (l.take k) left d = (lk, true)) (h2 : cntR l[k] lk (d + 1) = (a, false)) : cntRs l left d = (a, false) := by
 have : l = l.take k ++ (l[k] :: l.drop (k + 1)) := by rw [List.getElem_cons_drop, List.take_append_drop]
 rw [this, cntRs_snoc _ _ _ _ _ h1, cntRs]
 have h2' : cntR l[k] lk (d + 1) = (a, false) := h2
 rw [h2', if_neg (by simp)]

def CtC (t : Tm) : Prop := ∀ (S : Nat → Prop) (cs : List Value) (W : World) (left deep : Int), RTm S W t cs → 0 ≤ left → left ≤ 1000000 → 0 ≤ deep → deep ≤ 1000000 →
 Calls Tryz.prog 325 #[.agg cs.toArray, .int .i64 left, .int .i64 deep] W fun e w' => e = .returned (.tuple #[.int .i64 (cntR t left deep).1, .bool (cntR t left deep).2]) ∧ Ext W w'
theorem counted_of (t : Tm) (ht : ∀ x ∈ t.l, CtC x) : CtC t := by
 intro S cs w left deep hx hl0 hl1 hd0 hd1
 obtain ⟨_, _, v, rfl, hv⟩ := (RTm_iff ..).1 hx
 obtain ⟨A, c, rfl, hc, hc0⟩ := hv.val
 have HV := Lib.hid hv
 have HT := Lib.hid ht
 have hmk := cntR_mk t left deep
 obtain ⟨q, hq⟩ : ∃ q, t.k = q := ⟨_, rfl⟩
 obtain ⟨m, hm⟩ : ∃ m, t.n = m := ⟨_, rfl⟩
 rw [hq, hm]
 clear hv hx ht hq hm
 by_cases h1 : left - 1 < 0
 ·have HA : Hid (cntR t left deep = (left - 1, false)) := by
   show _ = _
   rw [hmk, if_pos (.inl h1)]
  clear hmk
  go_enter Tryz.func325, Tryz.ntmps325
  go_wp2_with fail
  go_ret2
  exact ⟨by rw [HA.out]; rfl, bel⟩
 by_cases h2 : 200 < deep
 ·have HA : Hid (cntR t left deep = (left - 1, false)) := by
   show _ = _
   rw [hmk, if_pos (.inr h2)]
  clear hmk
  go_enter Tryz.func325, Tryz.ntmps325
  go_wp2_with fail
  go_ret2
  exact ⟨by rw [HA.out]; rfl, bel⟩
 have HA : Hid (cntR t left deep = cntRs t.l (left - 1) deep) := by
  show _ = _
  rw [hmk, if_neg (by omega)]
 obtain ⟨W0, hW0⟩ : ∃ W0, w.alloc (.cells #[.int .i64 q, .int .i64 m, .slice A t.l.length c] 159) = W0 := ⟨_, rfl⟩
 have hE0 : Ext w W0 := by rw [← hW0]; exact (Ext.refl w).alloc _
 have hB0 : BoxL W0 w.heap.size 159 [.int .i64 q, .int .i64 m, .slice A t.l.length c] := by rw [← hW0]; exact BoxL.new w 159 _
 have HB0 := Lib.hid hB0
 have HE0 := Lib.hid hE0
 obtain ⟨p0, hp0⟩ : ∃ p0, w.heap.size = p0 := ⟨_, rfl⟩
 rw [hp0] at HB0
 have HP0 := Lib.hid hp0
 have HW0 := Lib.hid hW0
 clear hmk hE0 hB0 hp0 hW0
 go_enter Tryz.func325, Tryz.ntmps325
 go_wp2_with fail
 rw [HW0.out, HP0.out]
 go_loopw [1, 8] (fun vl vi wr => ∃ (k : Nat) (lk : Int), k ≤ t.l.length ∧ vi = .int .i64 k ∧ vl = .int .i64 lk ∧ 0 ≤ lk ∧ lk ≤ left ∧ Ext W0 wr ∧ Hid (cntRs (t.l.take k) (left - 1) deep = (lk, true))) (fun _ vi _ => t.l.length - (intOf vi).toNat)
 case atStart => exact ⟨0, left - 1, Nat.zero_le _, rfl, rfl, by omega, by omega, Ext.refl _, (show cntRs [] (left - 1) deep = (left - 1, true) by rw [cntRs])⟩
 case round =>
  obtain ⟨k, lk, hk, rfl, rfl, hlk0, hlk1, hE, hal⟩ := hrel
  have hbx := HB0.out.ext hE
  have x2 := hbx.cell 2 _
  have xz := hbx.lt
  clear hbx
  by_cases hlt : k < t.l.length
  ·obtain ⟨b, off, cs, rfl, hb, hS, hl, hr, hcell⟩ := (RTms.good.bel HV.out (HE0.out.trans' hE)).get k hlt
   obtain ⟨_, _, v3, rfl, hv3⟩ := (RTm_iff ..).1 hr
   have a0 := hcell.get 0 _
   have a1 := hcell.get 1 _
   have a2 := hcell.get 2 _
   simp only [Nat.add_zero] at a0
   obtain ⟨A3, c3, rfl, _, _⟩ := hv3.val
   have hca := HT.out _ (List.getElem_mem hlt) S _ wr lk (deep + 1) hr hlk0 (by omega) (by omega) (by omega)
   have hle := cntR_le t.l[k] lk (deep + 1) hlk0
   have HTK : ∀ a, cntR t.l[k] lk (deep + 1) = (a, true) → Hid (cntRs (t.l.take (k + 1)) (left - 1) deep = (a, true)) := fun a h => cntRs_take hlt hal.out h
   have HNO : ∀ a, cntR t.l[k] lk (deep + 1) = (a, false) → Hid (cntR t left deep = (a, false)) := fun a h => by
    show _ = _
    rw [HA.out, cntRs_no hlt hal.out h]
   obtain ⟨⟨la, bb⟩, hbb⟩ : ∃ p : Int × Bool, cntR t.l[k] lk (deep + 1) = p := ⟨_, rfl⟩
   rw [hbb] at hca hle HTK HNO
   simp only at hca hle
   obtain ⟨q1, hq1⟩ : ∃ q1, t.l[k].k = q1 := ⟨_, rfl⟩
   obtain ⟨q2, hq2⟩ : ∃ q2, t.l[k].n = q2 := ⟨_, rfl⟩
   obtain ⟨q3, hq3⟩ : ∃ q3, t.l[k].l.length = q3 := ⟨_, rfl⟩
   rw [hq1, hq2, hq3] at hca
   rw [hq1] at a0
   rw [hq2] at a1
   rw [hq3] at a2
   have hk1 : k + 1 ≤ t.l.length := hlt
   obtain ⟨hle1, hle2, hle3⟩ := hle
   cases bb
   ·have HN := HNO la rfl
    clear hcell hl hS hr hv3 hbb hq1 hq2 hq3 HTK HNO hle3
    go_wp2_with fail
    refine hca.mono ?_
    rintro e w1 ⟨rfl, h1⟩
    go_wp2_with fail
    go_ret2
    exact ⟨by rw [HN.out]; rfl, HE0.out.trans' (hE.trans' h1)⟩
   ·have HN := HTK la rfl
    replace hle3 := hle3 rfl
    clear hcell hl hS hr hv3 hbb hq1 hq2 hq3 HTK HNO
    go_wp2_with fail
    refine hca.mono ?_
    rintro e w1 ⟨rfl, h1⟩
    go_wp2_with fail
    go_roundw
    case rel => exact ⟨k + 1, la, hk1, by go_num, rfl, hle3, by omega, hE.trans' h1, HN⟩
    case measure => simp [intOf]; omega
  ·have HAL : Hid (cntR t left deep = (lk, true)) := by
    show _ = _
    have := hal.out
    rw [List.take_of_length_le (by omega)] at this
    rw [HA.out, this]
   go_wp2_with fail
   go_ret2
   exact ⟨by rw [HAL.out]; rfl, HE0.out.trans' hE⟩
theorem counted_c : ∀ t, CtC t := Tm.ind counted_of

/-! ### Is, Tree, Value -/
def ruleB (t : Tm) : Bool := (cntR t 2000 1).2 && nodesB t
theorem Is_c (S : Nat → Prop) (t : Tm) (cs : List Value) (w : World) (hx : RTm S w t cs) :
  Calls Tryz.prog 316 #[.agg cs.toArray] w fun e w' => e = .returned (.bool (ruleB t)) ∧ Ext w w' := by
 have hc1 := fun W h => counted_c t S cs W 2000 1 h (by omega) (by omega) (by omega) (by omega)
 have hc2 := fun W h => nodes_c t S cs W h
 obtain ⟨_, _, v, rfl, hv⟩ := (RTm_iff ..).1 hx
 obtain ⟨A, c, rfl, hc, hc0⟩ := hv.val
 have HX := Lib.hid hx
 clear hx hv
 have hmk : ruleB t = ((cntR t 2000 1).2 && nodesB t) := rfl
 obtain ⟨⟨la, bb⟩, hbb⟩ : ∃ p : Int × Bool, cntR t 2000 1 = p := ⟨_, rfl⟩
 rw [hbb] at hc1 hmk
 cases bb
 ·have HA : Hid (ruleB t = false) := hmk
  clear hmk hbb hc2
  go_enter Tryz.func316, Tryz.ntmps316
  go_wp2_with fail
  refine (hc1 _ (RTm.good.bel HX.out bel)).mono ?_
  rintro e w1 ⟨rfl, h1⟩
  go_wp2_with fail
  go_ret
  exact ⟨by rw [HA.out]; rfl, bel⟩
 ·have HA : Hid (ruleB t = nodesB t) := hmk
  clear hmk hbb
  go_enter Tryz.func316, Tryz.ntmps316
  go_wp2_with fail
  refine (hc1 _ (RTm.good.bel HX.out bel)).mono ?_
  rintro e w1 ⟨rfl, h1⟩
  have hcl := h1.cells
  go_wp2_with fail
  refine (hc2 _ (RTm.good.bel HX.out bel)).mono ?_
  rintro e w2 ⟨rfl, h2⟩
  go_wp2_with fail
  go_ret
  exact ⟨by rw [HA.out]; rfl, bel⟩
def treeE (t : Tm) : Int := if ruleB t then 0 else 4
theorem Tree_c (S : Nat → Prop) (t : Tm) (cs : List Value) (w : World) (hx : RTm S w t cs) :
  Calls Tryz.prog 284 #[.agg cs.toArray] w fun e w' => e = .returned (.int .i64 (treeE t)) ∧ Ext w w' := by
 have hc1 := fun W h => Is_c S t cs W h
 obtain ⟨_, _, v, rfl, hv⟩ := (RTm_iff ..).1 hx
 obtain ⟨A, c, rfl, hc, hc0⟩ := hv.val
 have HX := Lib.hid hx
 clear hx hv
 cases hb : ruleB t
 all_goals
  have HA := Lib.hid (show treeE t = _ from by rw [treeE, hb])
  rw [hb] at hc1
  simp only [if_true, Bool.false_eq_true, if_false] at HA
  clear hb
  go_enter Tryz.func284, Tryz.ntmps284
  go_wp2_with fail
  refine (hc1 _ (RTm.good.bel HX.out bel)).mono ?_
  rintro e w1 ⟨rfl, h1⟩
  go_wp2_with fail
  go_ret
  exact ⟨by rw [HA.out]; rfl, bel⟩
theorem Value17_c (S : Nat → Prop) (t : Tm) (cs : List Value) (w : World) (hx : RTm S w t cs) :
  Calls Tryz.prog 262 #[.agg cs.toArray] w fun e w' => e = .returned (.bool (isV t)) ∧ Ext w w' := by
 have hc1 := fun W h => value17_c t S cs W h
 have hc2 := fun W h => Tree_c S t cs W h
 obtain ⟨_, _, v, rfl, hv⟩ := (RTm_iff ..).1 hx
 obtain ⟨A, c, rfl, hc, hc0⟩ := hv.val
 have HX := Lib.hid hx
 clear hx hv
 have hmk : isV t = (allV t && ruleB t) := isV_ref t
 cases hb : allV t
 ·have HA : Hid (isV t = false) := by
   show _ = _
   rw [hmk, hb]
   rfl
  rw [hb] at hc1
  clear hmk hb hc2
  go_enter Tryz.func262, Tryz.ntmps262
  go_wp2_with fail
  refine (hc1 _ (RTm.good.bel HX.out bel)).mono ?_
  rintro e w1 ⟨rfl, h1⟩
  go_wp2_with fail
  go_ret
  exact ⟨by rw [HA.out]; rfl, bel⟩
 ·rw [hb, Bool.true_and] at hmk
  cases hi : ruleB t
  all_goals
   rw [hi] at hmk
   have hte : treeE t = if ruleB t then 0 else 4 := rfl
   rw [hi] at hte
   simp only [if_true, Bool.false_eq_true, if_false] at hte
   have HA := Lib.hid hmk
   rw [hb] at hc1
   rw [hte] at hc2
   clear hmk hb hi hte
   go_enter Tryz.func262, Tryz.ntmps262
   go_wp2_with fail
   refine (hc1 _ (RTm.good.bel HX.out bel)).mono ?_
   rintro e w1 ⟨rfl, h1⟩
   have hcl := h1.cells
   go_wp2_with fail
   refine (hc2 _ (RTm.good.bel HX.out bel)).mono ?_
   rintro e w2 ⟨rfl, h2⟩
   go_wp2_with fail
   go_ret
   exact ⟨by rw [HA.out]; rfl, bel⟩

/-! ### IsLabel -/
theorem anyV_take {l : List Tm} {k : Nat} (h : k < l.length) : ((l.take (k + 1)).all isV) = ((l.take k).all isV && isV l[k]) := by
 rw [List.take_succ_eq_append_getElem h, List.all_append, List.all_cons, List.all_nil, Bool.and_true]
theorem anyV_no {l : List Tm} {k : Nat} (h : k < l.length) (hf : isV l[k] = false) : (l.all isV) = false := by
 rw [List.all_eq_false]
 exact ⟨l[k], List.getElem_mem h, by rw [hf]; simp⟩
theorem okLb_all (x : Lb) : okLb x = (!(decide (x.g < -3) || decide (32 ≤ x.g) || decide (8 < x.v.length) || ((decide (x.g = -3) || decide (x.g = -1)) && decide (0 < x.v.length))) && x.v.all isV) := by
 rw [okLb, Bool.not_or, any_not]
theorem IsLabel_c (S : Nat → Prop) (x : Lb) (cs : List Value) (w : World) (hx : RLb S w x cs) :
  Calls Tryz.prog 222 #[.agg cs.toArray] w fun e w' => e = .returned (.bool (okLb x)) ∧ Ext w w' := by
 obtain ⟨_, v, rfl, hv⟩ := id hx
 obtain ⟨A, c, rfl, hc, hc0⟩ := hv.val
 have HV := Lib.hid hv
 have hmk := okLb_all x
 obtain ⟨q, hq⟩ : ∃ q, x.g = q := ⟨_, rfl⟩
 rw [hq] at hmk
 rw [hq]
 clear hx hv hq
 by_cases g1 : q < -3
 ·have HA : Hid (okLb x = false) := by show _ = _; rw [hmk, decide_eq_true g1]; rfl
  clear hmk
  go_enter Tryz.func222, Tryz.ntmps222
  go_wp2_with fail
  go_ret
  exact ⟨by rw [HA.out]; rfl, bel⟩
 by_cases g2 : 31 < q
 ·have HA : Hid (okLb x = false) := by show _ = _; rw [hmk, decide_eq_false g1, decide_eq_true (show 32 ≤ q by omega)]; rfl
  clear hmk
  go_enter Tryz.func222, Tryz.ntmps222
  go_wp2_with fail
  go_ret
  exact ⟨by rw [HA.out]; rfl, bel⟩
 by_cases g3 : 8 < x.v.length
 ·have HA : Hid (okLb x = false) := by show _ = _; rw [hmk, decide_eq_false g1, decide_eq_false (show ¬ 32 ≤ q by omega), decide_eq_true g3]; rfl
  clear hmk
  go_enter Tryz.func222, Tryz.ntmps222
  go_wp2_with fail
  go_ret
  exact ⟨by rw [HA.out]; rfl, bel⟩
 rw [decide_eq_false g1, decide_eq_false (show ¬ 32 ≤ q by omega), decide_eq_false g3, Bool.false_or, Bool.false_or, Bool.false_or] at hmk
 by_cases g4 : (q = -3 ∨ q = -1) ∧ 0 < x.v.length
 ·have HA : Hid (okLb x = false) := by
   show _ = _
   rw [hmk, decide_eq_true g4.2, Bool.and_true]
   rcases g4.1 with h | h <;> rw [h] <;> rfl
  clear hmk
  obtain ⟨g4, g5⟩ := g4
  rcases g4 with rfl | rfl
  all_goals
   go_enter Tryz.func222, Tryz.ntmps222
   go_wp2_with fail
   go_ret
   exact ⟨by rw [HA.out]; rfl, bel⟩
 have HA : Hid (okLb x = x.v.all isV) := by
  show _ = _
  have : ((decide (q = -3) || decide (q = -1)) && decide (0 < x.v.length)) = false := by
   rw [Bool.and_eq_false_iff, Bool.or_eq_false_iff, decide_eq_false_iff_not, decide_eq_false_iff_not, decide_eq_false_iff_not]
   by_cases h : 0 < x.v.length
   ·left
    exact ⟨fun h1 => g4 ⟨.inl h1, h⟩, fun h1 => g4 ⟨.inr h1, h⟩⟩
   ·exact .inr h
  rw [hmk, this]
  rfl
 clear hmk
 obtain ⟨W0, hW0⟩ : ∃ W0, w.alloc (.cells #[.int .i64 q, .slice A x.v.length c] 61) = W0 := ⟨_, rfl⟩
 have hE0 : Ext w W0 := by rw [← hW0]; exact (Ext.refl w).alloc _
 have hB0 : BoxL W0 w.heap.size 61 [.int .i64 q, .slice A x.v.length c] := by rw [← hW0]; exact BoxL.new w 61 _
 have HB0 := Lib.hid hB0
 have HE0 := Lib.hid hE0
 obtain ⟨p0, hp0⟩ : ∃ p0, w.heap.size = p0 := ⟨_, rfl⟩
 rw [hp0] at HB0
 have HP0 := Lib.hid hp0
 have HW0 := Lib.hid hW0
 clear hE0 hB0 hp0 hW0
 have g6 : (¬ (q = -3) ∧ ¬ (q = -1)) ∨ ((q = -3 ∨ q = -1) ∧ ¬ 0 < x.v.length) := by omega
 clear g4
 have HAT : Hid (([] : List Tm).all isV = true) := rfl
 have HRD : ∀ wr, Ext W0 wr → RTms S wr x.v [.slice A x.v.length c] := fun wr h => RTms.good.bel HV.out (HE0.out.trans' h)
 have HCV := fun (t : Tm) (cs : List Value) (wr : World) (h : RTm S wr t cs) => Value17_c S t cs wr h
 rcases g6 with ⟨g6, g7⟩ | ⟨g6, g7⟩
 rotate_left
 ·rcases g6 with rfl | rfl
  all_goals
   go_enter Tryz.func222, Tryz.ntmps222
   go_wp2_with fail
   rw [HW0.out, HP0.out]
   go_loopw [3] (fun vi wr => vi = .int .i64 0 ∧ Ext W0 wr) (fun vi _ => 0)
   case atStart => exact ⟨rfl, Ext.refl _⟩
   case round =>
    obtain ⟨rfl, hE⟩ := hrel
    have hbx := HB0.out.ext hE
    have x1 := hbx.cell 1 _
    have xz := hbx.lt
    clear hbx
    have HAL : Hid (okLb x = true) := by
     show _ = _
     rw [HA.out, List.eq_nil_of_length_eq_zero (show x.v.length = 0 by omega)]
     rfl
    go_wp2_with fail
    go_ret
    exact ⟨by rw [HAL.out]; rfl, HE0.out.trans' hE⟩
 go_enter Tryz.func222, Tryz.ntmps222
 go_wp2_with fail
 rw [HW0.out, HP0.out]
 go_loopw [3] (fun vi wr => ∃ k : Nat, k ≤ x.v.length ∧ vi = .int .i64 k ∧ Ext W0 wr ∧ Hid ((x.v.take k).all isV = true)) (fun vi _ => x.v.length - (intOf vi).toNat)
 case atStart => exact ⟨0, Nat.zero_le _, rfl, Ext.refl _, HAT⟩
 case round =>
  obtain ⟨k, hk, rfl, hE, hal⟩ := hrel
  have hbx := HB0.out.ext hE
  have x1 := hbx.cell 1 _
  have xz := hbx.lt
  clear hbx
  by_cases hlt : k < x.v.length
  ·obtain ⟨b, off, cs, rfl, hb, hS, hl, hr, hcell⟩ := (HRD wr hE).get k hlt
   obtain ⟨_, _, v3, rfl, hv3⟩ := (RTm_iff ..).1 hr
   have a0 := hcell.get 0 _
   have a1 := hcell.get 1 _
   have a2 := hcell.get 2 _
   simp only [Nat.add_zero] at a0
   obtain ⟨A3, c3, rfl, _, _⟩ := hv3.val
   have hca := HCV _ _ wr hr
   have HTK := Lib.hid (anyV_take hlt)
   have HNO := Lib.hid (anyV_no hlt)
   obtain ⟨bb, hbb⟩ : ∃ bb, isV x.v[k] = bb := ⟨_, rfl⟩
   rw [hbb] at hca HTK HNO
   obtain ⟨q1, hq1⟩ : ∃ q1, x.v[k].k = q1 := ⟨_, rfl⟩
   obtain ⟨q2, hq2⟩ : ∃ q2, x.v[k].n = q2 := ⟨_, rfl⟩
   obtain ⟨q3, hq3⟩ : ∃ q3, x.v[k].l.length = q3 := ⟨_, rfl⟩
   rw [hq1, hq2, hq3] at hca
   rw [hq1] at a0
   rw [hq2] at a1
   rw [hq3] at a2
   have hk1 : k + 1 ≤ x.v.length := hlt
   clear hcell hl hS hr hv3 hbb hq1 hq2 hq3
   go_wp2_with fail
   refine hca.mono ?_
   rintro e w1 ⟨rfl, h1⟩
   cases bb
   ·go_wp2_with fail
    go_ret
    exact ⟨by rw [HA.out, HNO.out (by trivial)]; rfl, HE0.out.trans' (hE.trans' h1)⟩
   ·go_wp2_with fail
    go_roundw
    case rel => exact ⟨k + 1, hk1, by go_num, hE.trans' h1, (by rw [HTK.out, hal.out]; rfl : (x.v.take (k + 1)).all isV = true)⟩
    case measure => simp [intOf]; omega
  ·have HAL : Hid (okLb x = true) := by
    show _ = _
    have := hal.out
    rw [List.take_of_length_le (by omega)] at this
    rw [HA.out, this]
   go_wp2_with fail
   go_ret
   exact ⟨by rw [HAL.out]; rfl, HE0.out.trans' hE⟩

/-! ### Visible, right, Trace -/
theorem Visible_c (g : Int) (v : Value) (w : World) :
  Calls Tryz.prog 90 #[.agg #[.int .i64 g, v]] w fun e w' => e = .returned (.bool (visB g)) ∧ Ext w w' := by
 by_cases h : 0 ≤ g
 ·have HV := Lib.hid (show visB g = true from by simp [visB, h])
  go_enter Tryz.func90, Tryz.ntmps90
  go_wp2_with fail
  go_ret
  exact ⟨by rw [HV.out]; rfl, bel⟩
 ·have HV := Lib.hid (show visB g = (g == -2) from by unfold visB; rw [decide_eq_false h, Bool.false_or]; rfl)
  go_enter Tryz.func90, Tryz.ntmps90
  go_wp2_with fail
  go_ret
  exact ⟨by rw [HV.out]; simp, bel⟩
theorem okV_take {l : List Lb} {k : Nat} (h : k < l.length) : ((l.take (k + 1)).all okV) = ((l.take k).all okV && okV l[k]) := by
 rw [List.take_succ_eq_append_getElem h, List.all_append, List.all_cons, List.all_nil, Bool.and_true]
theorem okV_no {l : List Lb} {k : Nat} (h : k < l.length) (hf : okV l[k] = false) : (l.all okV) = false := by
 rw [List.all_eq_false]
 exact ⟨l[k], List.getElem_mem h, by rw [hf]; simp⟩
theorem right_c (S : Nat → Prop) (l : List Lb) (v : Value) (w : World) (hx : RLbs S w l [v]) :
  Calls Tryz.prog 154 #[v] w fun e w' => e = .returned (.bool (l.all okV)) ∧ Ext w w' := by
 obtain ⟨A, c, rfl, hc, hc0⟩ := hx.val
 have HX := Lib.hid hx
 have HIL := fun (x : Lb) (cs : List Value) (wr : World) (h : RLb S wr x cs) => IsLabel_c S x cs wr h
 clear hx
 go_enter Tryz.func154, Tryz.ntmps154
 go_wp2_with fail
 go_loopw [3] (fun vi wr => ∃ k : Nat, k ≤ l.length ∧ vi = .int .i64 k ∧ Ext w wr ∧ Hid ((l.take k).all okV = true)) (fun vi _ => l.length - (intOf vi).toNat)
 case atStart => exact ⟨0, Nat.zero_le _, rfl, Ext.refl _, (rfl : ([] : List Lb).all okV = true)⟩
 case round =>
  obtain ⟨k, hk, rfl, hE, hal⟩ := hrel
  by_cases hlt : k < l.length
  ·obtain ⟨b, off, cs, rfl, hb, hS, hl, hr, hcell⟩ := (RLbs.good.bel HX.out hE).get k hlt
   obtain ⟨_, v3, rfl, hv3⟩ := id hr
   have a0 := hcell.get 0 _
   have a1 := hcell.get 1 _
   simp only [Nat.add_zero] at a0
   obtain ⟨A3, c3, rfl, _, _⟩ := hv3.val
   have hca := HIL _ _ wr hr
   have HTK := Lib.hid (okV_take hlt)
   have HNO := okV_no hlt
   have hokv : okV l[k] = (okLb l[k] && visB l[k].g) := rfl
   have hk1 : k + 1 ≤ l.length := hlt
   obtain ⟨q1, hq1⟩ : ∃ q1, l[k].g = q1 := ⟨_, rfl⟩
   obtain ⟨q3, hq3⟩ : ∃ q3, l[k].v.length = q3 := ⟨_, rfl⟩
   rw [hq1, hq3] at hca
   rw [hq1] at a0
   rw [hq3] at a1
   cases hb1 : okLb l[k]
   ·have HN : Hid ((l.all okV) = false) := HNO (by rw [hokv, hb1]; rfl)
    rw [hb1] at hca
    clear hcell hl hS hr hv3 hq1 hq3 HTK HNO hokv hb1
    go_wp2_with fail
    refine hca.mono ?_
    rintro e w1 ⟨rfl, h1⟩
    go_wp2_with fail
    go_ret
    exact ⟨by rw [HN.out]; rfl, hE.trans' h1⟩
   ·rw [hb1, hq1, Bool.true_and] at hokv
    rw [hb1] at hca
    rw [hokv] at HTK HNO
    have hcv := fun w => Visible_c q1 (.slice A3 q3 c3) w
    cases hb2 : visB q1
    ·have HN : Hid ((l.all okV) = false) := HNO hb2
     rw [hb2] at hcv
     clear hcell hl hS hr hv3 hq1 hq3 HTK HNO hokv hb1 hb2
     go_wp2_with fail
     refine hca.mono ?_
     rintro e w1 ⟨rfl, h1⟩
     have hcl := h1.cells
     go_wp2_with fail
     refine (hcv _).mono ?_
     rintro e w2 ⟨rfl, h2⟩
     go_wp2_with fail
     go_ret
     exact ⟨by rw [HN.out]; rfl, (hE.trans' h1).trans' h2⟩
    ·rw [hb2] at hcv HTK
     clear hcell hl hS hr hv3 hq1 hq3 HNO hokv hb1 hb2
     go_wp2_with fail
     refine hca.mono ?_
     rintro e w1 ⟨rfl, h1⟩
     have hcl := h1.cells
     go_wp2_with fail
     refine (hcv _).mono ?_
     rintro e w2 ⟨rfl, h2⟩
     go_wp2_with fail
     go_roundw
     case rel => exact ⟨k + 1, hk1, by go_num, (hE.trans' h1).trans' h2, (by rw [HTK.out, hal.out]; rfl : (l.take (k + 1)).all okV = true)⟩
     case measure => simp [intOf]; omega
  ·have HAL : Hid ((l.all okV) = true) := by
    show _ = _
    have := hal.out
    rwa [List.take_of_length_le (by omega)] at this
   go_wp2_with fail
   go_ret
   exact ⟨by rw [HAL.out]; rfl, hE⟩
theorem Trace_c (S : Nat → Prop) (l : List Lb) (v : Value) (w : World) (hx : RLbs S w l [v]) :
  Calls Tryz.prog 84 #[v] w fun e w' => e = .returned (.bool (isTraceB l)) ∧ Ext w w' := by
 have hcon := right_c S l v w hx
 obtain ⟨A, c, rfl, hc, hc0⟩ := hx.val
 clear hx
 by_cases h : l.length ≤ 40
 ·have HV := Lib.hid (show isTraceB l = l.all okV from by simp [isTraceB, h])
  go_enter Tryz.func84, Tryz.ntmps84
  go_wp2_with fail
  refine hcon.mono ?_
  rintro e w1 ⟨rfl, h1⟩
  go_wp2_with fail
  go_ret
  exact ⟨by rw [HV.out]; rfl, bel⟩
 ·have HV := Lib.hid (show isTraceB l = false from by simp [isTraceB, h])
  go_enter Tryz.func84, Tryz.ntmps84
  go_wp2_with fail
  go_ret
  exact ⟨by rw [HV.out]; rfl, bel⟩
end
end Go.Proofs.YtegenalcheooeaaGreat
