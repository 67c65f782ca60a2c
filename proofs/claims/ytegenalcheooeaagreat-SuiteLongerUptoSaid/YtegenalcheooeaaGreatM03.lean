/- Of the proof of a law of the suites: Su1, Lts3, MapW, Sys. -/
import Derived.Test.YtegenalcheooeaaGreatM01
import Derived.Test.YtegenalcheooeaaGreatM02
import Derived.Carry
import Derived.StillTailTactics
/- suite: what a trace, a set, a test is. -/
set_option linter.unusedSectionVars false
set_option linter.unusedSimpArgs false
set_option linter.unusedVariables false
namespace Go.Proofs.YtegenalcheooeaaGreat
open Go.RowKit
attribute [local go_sem] cell?_exto

def visB (g : Int) : Bool := decide (0 ≤ g) || decide (g = -2)
set_option maxHeartbeats 1000000 in
set_option maxRecDepth 100000 in
theorem visible_c (g : Int) (v : Value) (w : World) :
    Calls Tryz.prog 176 #[.agg #[.int .i64 g, v]] w fun e w' => e = .returned (.bool (visB g)) ∧ Ext w w' := by
  by_cases h : 0 ≤ g
  · have HV := Lib.hid (show visB g = true from by simp [visB, h])
    go_enter Tryz.func176, Tryz.ntmps176
    go_wp2_with fail
    go_ret
    exact ⟨by rw [HV.out]; rfl, (by repeat (first | exact Ext.refl _ | apply Ext.alloc | apply Below.drew | apply Ext.drewN | refine Ext.trans' ?_ (by assumption) | refine Ext.trans' ?_ (ExtD.ext (by assumption))))⟩
  · have HV := Lib.hid (show visB g = (g == -2) from by unfold visB; rw [decide_eq_false h, Bool.false_or]; rfl)
    go_enter Tryz.func176, Tryz.ntmps176
    go_wp2_with fail
    go_ret
    exact ⟨by rw [HV.out]; simp, (by repeat (first | exact Ext.refl _ | apply Ext.alloc | apply Below.drew | apply Ext.drewN | refine Ext.trans' ?_ (by assumption) | refine Ext.trans' ?_ (ExtD.ext (by assumption))))⟩

def okV (x : Lb) : Bool := okLb x && visB x.g
theorem eg207 : ∀ args w, (callFunc 207 args).run Tryz.prog w = .ok (.enter 207 args) w := enters_of Tryz.func207 (by kernel_rfl) rfl
set_option maxHeartbeats 1000000 in
set_option maxRecDepth 100000 in
theorem shown1_c (S : Nat → Prop) (x : Lb) (cs : List Value) (w : World) (hx : RLb S w x cs) :
    Calls Tryz.prog 207 #[.agg cs.toArray] w fun e w' => e = .returned (.bool (!okV x)) ∧ Ext w w' := by
  have hcon := fun W h => CheckLabel_c S x cs W h
  obtain ⟨_, v, rfl, hv⟩ := id hx
  have HX := Lib.hid hx
  clear hx hv
  cases ho : okLb x with
  | true =>
    have HV := Lib.hid (show (!okV x) = !visB x.g from by simp [okV, ho])
    have e : ckLb x = 0 := by rw [ckLb, if_pos ho]
    rw [e] at hcon
    clear e ho
    go_enter Tryz.func207, Tryz.ntmps207
    go_wp2_with fail
    refine (hcon _ (RLb.good.bel HX.out (by repeat (first | exact Ext.refl _ | apply Ext.alloc | apply Below.drew | apply Ext.drewN | refine Ext.trans' ?_ (by assumption) | refine Ext.trans' ?_ (ExtD.ext (by assumption)))))).mono ?_
    rintro e w1 ⟨rfl, h1⟩
    have hc1 := h1.cells
    go_wp2_with fail
    refine (visible_c _ _ _).mono ?_
    rintro e w2 ⟨rfl, h2⟩
    go_wp2_with fail
    go_ret
    exact ⟨by rw [HV.out]; rfl, (by repeat (first | exact Ext.refl _ | apply Ext.alloc | apply Below.drew | apply Ext.drewN | refine Ext.trans' ?_ (by assumption) | refine Ext.trans' ?_ (ExtD.ext (by assumption))))⟩
  | false =>
    have HV := Lib.hid (show (!okV x) = true from by simp [okV, ho])
    have e : ckLb x = 170 := by rw [ckLb, if_neg (by simp [ho])]
    rw [e] at hcon
    clear e ho
    go_enter Tryz.func207, Tryz.ntmps207
    go_wp2_with fail
    refine (hcon _ (RLb.good.bel HX.out (by repeat (first | exact Ext.refl _ | apply Ext.alloc | apply Below.drew | apply Ext.drewN | refine Ext.trans' ?_ (by assumption) | refine Ext.trans' ?_ (ExtD.ext (by assumption)))))).mono ?_
    rintro e w1 ⟨rfl, h1⟩
    go_wp2_with fail
    go_ret
    exact ⟨by rw [HV.out]; rfl, (by repeat (first | exact Ext.refl _ | apply Ext.alloc | apply Below.drew | apply Ext.drewN | refine Ext.trans' ?_ (by assumption) | refine Ext.trans' ?_ (ExtD.ext (by assumption))))⟩

theorem any_not {α : Type} (p : α → Bool) (l : List α) : (!(l.any fun x => !p x)) = l.all p := by
  induction l with
  | nil => rfl
  | cons x xs ih => rw [List.any_cons, List.all_cons, ← ih]; cases p x <;> simp
set_option maxHeartbeats 1000000 in
set_option maxRecDepth 100000 in
theorem shown_c (S : Nat → Prop) (l : List Lb) (v : Value) (w : World) (hx : RLbs S w l [v]) :
    Calls Tryz.prog 140 #[v] w fun e w' => e = .returned (.bool (l.all okV)) ∧ Ext w w' := by
  have hcon := conPLb (fun x => !okV x) S w l v hx 207 #[] eg207 (fun x hx cs W' hW hr => shown1_c S x cs W' hr)
  obtain ⟨A, c, rfl, hc, hc0⟩ := hx.val
  have HV := Lib.hid (any_not okV l)
  clear hx
  go_enter Tryz.func140, Tryz.ntmps140
  go_wp2_with fail
  refine hcon.mono ?_
  rintro e w1 ⟨rfl, h1⟩
  go_wp2_with fail
  go_ret
  exact ⟨by rw [← HV.out]; rfl, (by repeat (first | exact Ext.refl _ | apply Ext.alloc | apply Below.drew | apply Ext.drewN | refine Ext.trans' ?_ (by assumption) | refine Ext.trans' ?_ (ExtD.ext (by assumption))))⟩

def isTraceB (l : List Lb) : Bool := decide (l.length ≤ 40) && l.all okV
set_option maxHeartbeats 1000000 in
set_option maxRecDepth 100000 in
theorem isTrace_c (S : Nat → Prop) (l : List Lb) (v : Value) (w : World) (hx : RLbs S w l [v]) :
    Calls Tryz.prog 79 #[v] w fun e w' => e = .returned (.bool (isTraceB l)) ∧ Ext w w' := by
  have hcon := shown_c S l v w hx
  obtain ⟨A, c, rfl, hc, hc0⟩ := hx.val
  clear hx
  by_cases h : l.length ≤ 40
  · have HV := Lib.hid (show isTraceB l = l.all okV from by simp [isTraceB, h])
    go_enter Tryz.func79, Tryz.ntmps79
    go_wp2_with fail
    refine hcon.mono ?_
    rintro e w1 ⟨rfl, h1⟩
    go_wp2_with fail
    go_ret
    exact ⟨by rw [HV.out]; rfl, (by repeat (first | exact Ext.refl _ | apply Ext.alloc | apply Below.drew | apply Ext.drewN | refine Ext.trans' ?_ (by assumption) | refine Ext.trans' ?_ (ExtD.ext (by assumption))))⟩
  · have HV := Lib.hid (show isTraceB l = false from by simp [isTraceB, h])
    go_enter Tryz.func79, Tryz.ntmps79
    go_wp2_with fail
    go_ret
    exact ⟨by rw [HV.out]; rfl, (by repeat (first | exact Ext.refl _ | apply Ext.alloc | apply Below.drew | apply Ext.drewN | refine Ext.trans' ?_ (by assumption) | refine Ext.trans' ?_ (ExtD.ext (by assumption))))⟩

/-- Labels increase. -/
def incLb : List Lb → Bool
  | [] => true
  | [_] => true
  | a :: b :: r => decide (cmpLb a b < 0) && incLb (b :: r)
def isSetB (l : List Lb) : Bool := incLb l && decide (l.length ≤ 64) && l.all okV
theorem incLb_iff : ∀ l : List Lb, incLb l = true ↔ ∀ i, (h : i + 1 < l.length) → cmpLb l[i] l[i + 1] < 0
  | [] => by simp [incLb]
  | [_] => by simp [incLb]
  | a :: b :: r => by
    rw [incLb, Bool.and_eq_true, incLb_iff (b :: r), decide_eq_true_eq]
    constructor
    · rintro ⟨h0, h⟩ i hi
      cases i with
      | zero => exact h0
      | succ i => exact h i (by simpa using hi)
    · intro h
      exact ⟨h 0 (by simp), fun i hi => h (i + 1) (by simpa using hi)⟩

set_option maxHeartbeats 1000000 in
set_option maxRecDepth 100000 in
theorem isSet_c (S : Nat → Prop) (l : List Lb) (v : Value) (w : World) (hx : RLbs S w l [v]) :
    Calls Tryz.prog 101 #[v] w fun e w' => e = .returned (.bool (isSetB l)) ∧ Ext w w' := by
  have hcon := fun W (hb : Ext w W) => shown_c S l v W (RLbs.good.bel hx hb)
  obtain ⟨A, c, rfl, hc, hc0⟩ := hx.val
  have HX := Lib.hid hx
  clear hx
  go_enter Tryz.func101, Tryz.ntmps101
  go_wp2_with fail
  go_loopw [2, 3] (fun r i wr => ∃ k : Nat, 1 ≤ k ∧ (k = 1 ∨ k ≤ l.length) ∧ i = .int .i64 k ∧ r = .bool false ∧ ExtD w wr ∧ Hid (∀ j, (h : j + 1 < l.length) → j + 1 < k → cmpLb l[j] l[j + 1] < 0)) (fun _ i _ => l.length - (intOf i).toNat)
  case atStart => exact ⟨1, by omega, .inl rfl, rfl, rfl, ExtD.refl _, fun j _ hj => absurd hj (by omega)⟩
  case round =>
    obtain ⟨k, hk1, hk, rfl, rfl, hE, hz⟩ := hrel
    by_cases hlt : k < l.length
    · obtain ⟨k, rfl⟩ : ∃ m, k = m + 1 := ⟨k - 1, by omega⟩
      have hk0 : k < l.length := by omega
      obtain ⟨b, off, cs, rfl, hb, hs, hl, hr, hcell⟩ := (RLbs.good.ext HX.out hE).get k hk0
      obtain ⟨b', off', cs', he, hb', hs', hl', hr', hcell'⟩ := (RLbs.good.ext HX.out hE).get (k + 1) hlt
      injection he with he
      injection he with he1 he2
      subst he1 he2
      obtain ⟨_, v1, rfl, hv1⟩ := id hr
      obtain ⟨_, v2, rfl, hv2⟩ := id hr'
      have g0 := hcell.get 0 _
      have g1 := hcell.get 1 _
      have g0' := hcell'.get 0 _
      have g1' := hcell'.get 1 _
      simp only [Nat.add_zero] at g0 g0'
      have hcmp := fun W (hW : ExtD wr W) => compare_c S _ _ _ _ W (RLb.good.ext hr hW) (RLb.good.ext hr' hW)
      have z1 : (0 : Int) ≤ (k : Int) := by omega
      have z2 : ((k : Int) + 1) < (l.length : Int) := by omega
      have z3 : (0 : Int) ≤ (k : Int) + 1 := by omega
      have z4 : (k : Int) < (l.length : Int) := by omega
      clear hcell hcell' hl hl' hs hs' hv1 hv2 hr hr' hcon
      have y1 : IntKind.i64.wrap ((k : Int) + 1 - 1) = (k : Int) := by rw [IntWalk.i64_in _ (by omega)]; omega
      have y2 : IntKind.i64.wrap (k : Int) = (k : Int) := IntWalk.i64_in _ (by omega)
      by_cases hc2 : cmpLb l[k] l[k + 1] < 0
      · have HC := Lib.hid hc2
        have hd : decide (cmpLb l[k] l[k + 1] ≥ 0) = false := by simp; omega
        have hd' : decide (0 ≤ cmpLb l[k] l[k + 1]) = false := by simp; omega
        clear hc2
        go_wp2_with fail
        go_region_held3 (fun W => W.cell? ⟨b, off + k * 2, none⟩ = some (.int .i64 l[k].g) ∧ W.cell? ⟨b, off + k * 2 + 1, none⟩ = some v1 ∧ W.cell? ⟨b, off + (k + 1) * 2, none⟩ = some (.int .i64 l[k + 1].g) ∧ W.cell? ⟨b, off + (k + 1) * 2 + 1, none⟩ = some v2)
          (first | (refine ⟨?_, ?_, ?_, ?_⟩ <;> go_simp <;> done) | exact hx1.k4 (by assumption) | exact ((ExtD.refl _).alloc _).k4 (by assumption))
          (first | (go_at_call 166; refine (hcmp _ (by repeat (first | exact ExtD.refl _ | apply ExtD.alloc | apply ExtD.drew | apply ExtD.drewN | refine ExtD.trans ?_ (by assumption)))).mono ?_; rintro e w1 ⟨rfl, hx1⟩))
        clear y1 y2
        go_wp2_with fail
        go_roundw
        case rel =>
          refine ⟨k + 1 + 1, by omega, .inr (by omega), by go_num, rfl, (by repeat (first | exact ExtD.refl _ | apply ExtD.alloc | apply ExtD.drew | apply ExtD.drewN | refine ExtD.trans ?_ (by assumption))), fun j h hj => ?_⟩
          rcases Nat.lt_or_ge j k with h' | h'
          · exact hz j h (by omega)
          · obtain rfl : j = k := by omega
            exact HC.out
        case measure => simp [intOf]; omega
      · have HC := Lib.hid (show isSetB l = false from by
          unfold isSetB
          have : incLb l = false := by
            cases h : incLb l with
            | false => rfl
            | true => exact absurd ((incLb_iff l).1 h k hlt) hc2
          rw [this]; rfl)
        have hd' : 0 ≤ cmpLb l[k] l[k + 1] := by omega
        clear hc2
        go_wp2_with fail
        go_region_held3 (fun W => W.cell? ⟨b, off + k * 2, none⟩ = some (.int .i64 l[k].g) ∧ W.cell? ⟨b, off + k * 2 + 1, none⟩ = some v1 ∧ W.cell? ⟨b, off + (k + 1) * 2, none⟩ = some (.int .i64 l[k + 1].g) ∧ W.cell? ⟨b, off + (k + 1) * 2 + 1, none⟩ = some v2)
          (first | (refine ⟨?_, ?_, ?_, ?_⟩ <;> go_simp <;> done) | exact hx1.k4 (by assumption) | exact ((ExtD.refl _).alloc _).k4 (by assumption))
          (first | (go_at_call 166; refine (hcmp _ (by repeat (first | exact ExtD.refl _ | apply ExtD.alloc | apply ExtD.drew | apply ExtD.drewN | refine ExtD.trans ?_ (by assumption)))).mono ?_; rintro e w1 ⟨rfl, hx1⟩))
        clear y1 y2
        go_wp2_with fail
        go_ret
        exact ⟨by rw [HC.out]; rfl, (by repeat (first | exact Ext.refl _ | apply Ext.alloc | apply Below.drew | apply Ext.drewN | refine Ext.trans' ?_ (by assumption) | refine Ext.trans' ?_ (ExtD.ext (by assumption))))⟩
    · have hinc : incLb l = true := (incLb_iff l).2 fun i hi => hz i hi (by omega)
      have hle := hcon wr hE.ext
      clear hz hcon
      by_cases h : l.length ≤ 64
      · have HV := Lib.hid (show isSetB l = l.all okV from by simp [isSetB, h, hinc])
        clear hinc
        go_wp2_with fail
        refine hle.mono ?_
        rintro e w1 ⟨rfl, h1⟩
        go_wp2_with fail
        go_ret
        exact ⟨by rw [HV.out]; rfl, (by repeat (first | exact Ext.refl _ | apply Ext.alloc | apply Below.drew | apply Ext.drewN | refine Ext.trans' ?_ (by assumption) | refine Ext.trans' ?_ (ExtD.ext (by assumption))))⟩
      · have HV := Lib.hid (show isSetB l = false from by simp [isSetB, h])
        clear hinc
        go_wp2_with fail
        go_ret
        exact ⟨by rw [HV.out]; rfl, (by repeat (first | exact Ext.refl _ | apply Ext.alloc | apply Below.drew | apply Ext.drewN | refine Ext.trans' ?_ (by assumption) | refine Ext.trans' ?_ (ExtD.ext (by assumption))))⟩

def isTestB (t : Te) : Bool := isTraceB t.tr && decide (0 < t.mu.length) && isSetB t.mu
def ckTe (t : Te) : Int := if isTestB t then 0 else 340
set_option maxHeartbeats 1000000 in
set_option maxRecDepth 100000 in
theorem CheckTest_c (S : Nat → Prop) (t : Te) (cs : List Value) (w : World) (hx : RTe S w t cs) :
    Calls Tryz.prog 45 #[.agg cs.toArray] w fun e w' => e = .returned (.int .i64 (ckTe t)) ∧ Ext w w' := by
  obtain ⟨v, u, rfl, hv, hu⟩ := id hx
  have h1 := fun W (hb : Ext w W) => isTrace_c S t.tr v W (RLbs.good.bel hv hb)
  have h2 := fun W (hb : Ext w W) => isSet_c S t.mu u W (RLbs.good.bel hu hb)
  obtain ⟨A, c, rfl, hc, hc0⟩ := hv.val
  obtain ⟨A', c', rfl, hc', hc0'⟩ := hu.val
  clear hx hv hu
  cases ha : isTraceB t.tr with
  | false =>
    have HV := Lib.hid (show ckTe t = 340 from by simp [ckTe, isTestB, ha])
    rw [ha] at h1
    clear ha
    go_enter Tryz.func45, Tryz.ntmps45
    go_wp2_with fail
    refine (h1 _ (by repeat (first | exact Ext.refl _ | apply Ext.alloc | apply Below.drew | apply Ext.drewN | refine Ext.trans' ?_ (by assumption) | refine Ext.trans' ?_ (ExtD.ext (by assumption))))).mono ?_
    rintro e w1 ⟨rfl, hw1⟩
    go_wp2_with fail
    go_ret
    exact ⟨by rw [HV.out]; rfl, (by repeat (first | exact Ext.refl _ | apply Ext.alloc | apply Below.drew | apply Ext.drewN | refine Ext.trans' ?_ (by assumption) | refine Ext.trans' ?_ (ExtD.ext (by assumption))))⟩
  | true =>
    rw [ha] at h1
    by_cases hz : 0 < t.mu.length
    · have hz' : ((t.mu.length : Int) == 0) = false := beq_eq_false_iff_ne.2 (by omega)
      cases hb : isSetB t.mu with
      | false =>
        have HV := Lib.hid (show ckTe t = 340 from by simp [ckTe, isTestB, hb])
        rw [hb] at h2
        clear ha hb
        go_enter Tryz.func45, Tryz.ntmps45
        go_wp2_with fail
        refine (h1 _ (by repeat (first | exact Ext.refl _ | apply Ext.alloc | apply Below.drew | apply Ext.drewN | refine Ext.trans' ?_ (by assumption) | refine Ext.trans' ?_ (ExtD.ext (by assumption))))).mono ?_
        rintro e w1 ⟨rfl, hw1⟩
        have hc1 := hw1.cells
        go_wp2_with fail
        refine (h2 _ (by repeat (first | exact Ext.refl _ | apply Ext.alloc | apply Below.drew | apply Ext.drewN | refine Ext.trans' ?_ (by assumption) | refine Ext.trans' ?_ (ExtD.ext (by assumption))))).mono ?_
        rintro e w2 ⟨rfl, hw2⟩
        go_wp2_with fail
        go_ret
        exact ⟨by rw [HV.out]; rfl, (by repeat (first | exact Ext.refl _ | apply Ext.alloc | apply Below.drew | apply Ext.drewN | refine Ext.trans' ?_ (by assumption) | refine Ext.trans' ?_ (ExtD.ext (by assumption))))⟩
      | true =>
        have HV := Lib.hid (show ckTe t = 0 from by simp [ckTe, isTestB, ha, hb, hz])
        rw [hb] at h2
        clear ha hb
        go_enter Tryz.func45, Tryz.ntmps45
        go_wp2_with fail
        refine (h1 _ (by repeat (first | exact Ext.refl _ | apply Ext.alloc | apply Below.drew | apply Ext.drewN | refine Ext.trans' ?_ (by assumption) | refine Ext.trans' ?_ (ExtD.ext (by assumption))))).mono ?_
        rintro e w1 ⟨rfl, hw1⟩
        have hc1 := hw1.cells
        go_wp2_with fail
        refine (h2 _ (by repeat (first | exact Ext.refl _ | apply Ext.alloc | apply Below.drew | apply Ext.drewN | refine Ext.trans' ?_ (by assumption) | refine Ext.trans' ?_ (ExtD.ext (by assumption))))).mono ?_
        rintro e w2 ⟨rfl, hw2⟩
        go_wp2_with fail
        go_ret
        exact ⟨by rw [HV.out]; rfl, (by repeat (first | exact Ext.refl _ | apply Ext.alloc | apply Below.drew | apply Ext.drewN | refine Ext.trans' ?_ (by assumption) | refine Ext.trans' ?_ (ExtD.ext (by assumption))))⟩
    · have HV := Lib.hid (show ckTe t = 340 from by simp [ckTe, isTestB, hz])
      have hz' : ((t.mu.length : Int) == 0) = true := beq_iff_eq.2 (by omega)
      clear ha
      go_enter Tryz.func45, Tryz.ntmps45
      go_wp2_with fail
      refine (h1 _ (by repeat (first | exact Ext.refl _ | apply Ext.alloc | apply Below.drew | apply Ext.drewN | refine Ext.trans' ?_ (by assumption) | refine Ext.trans' ?_ (ExtD.ext (by assumption))))).mono ?_
      rintro e w1 ⟨rfl, hw1⟩
      have hc1 := hw1.cells
      go_wp2_with fail
      go_ret
      exact ⟨by rw [HV.out]; rfl, (by repeat (first | exact Ext.refl _ | apply Ext.alloc | apply Below.drew | apply Ext.drewN | refine Ext.trans' ?_ (by assumption) | refine Ext.trans' ?_ (ExtD.ext (by assumption))))⟩
end Go.Proofs.YtegenalcheooeaaGreat

/- lts.Check: what a transition system is. -/
set_option linter.unusedSectionVars false
set_option linter.unusedSimpArgs false
set_option linter.unusedVariables false
namespace Go.Proofs.YtegenalcheooeaaGreat
open Go.RowKit
attribute [local go_sem] cell?_exto

def isB (a b : Int) : Bool := decide (0 ≤ a) && decide (a < b)
set_option maxHeartbeats 1000000 in
set_option maxRecDepth 100000 in
theorem is_c (a b : Int) (w : World) : Calls Tryz.prog 97 #[.int .i64 a, .int .i64 b] w fun e w' => e = .returned (.bool (isB a b)) ∧ w' = w := by
  by_cases h : 0 ≤ a
  · have HV := Lib.hid (show isB a b = decide (a < b) from by simp [isB, h])
    go_enter Tryz.func97, Tryz.ntmps97
    go_wp2_with fail
    go_ret
    exact ⟨by rw [HV.out]; rfl, rfl⟩
  · have HV := Lib.hid (show isB a b = false from by simp [isB, h])
    go_enter Tryz.func97, Tryz.ntmps97
    go_wp2_with fail
    go_ret
    exact ⟨by rw [HV.out]; rfl, rfl⟩

def okLbAt (l : List Lb) (j : Nat) : Prop := ∀ h : j < l.length, okLb l[j] = true ∧ ∀ h0 : 0 < j, cmpLb (l[j - 1]'(by omega)) l[j] < 0
def okEd (s : Sy) (e : Ed) : Bool := isB e.f s.n && isB e.t s.n && isB e.l s.ls.length
def okEdAt (s : Sy) (j : Nat) : Prop := ∀ h : j < s.es.length, okEd s s.es[j] = true ∧ ∀ h0 : 0 < j, cmpEd (s.es[j - 1]'(by omega)) s.es[j] < 0
def okSyP (s : Sy) : Prop := 1 ≤ s.n ∧ s.n ≤ 20000 ∧ s.ls.length ≤ 4000 ∧ s.es.length ≤ 100000 ∧ (∀ j, okLbAt s.ls j) ∧ (∀ j, okEdAt s j)
noncomputable def ckSy (s : Sy) : Int := @ite _ (okSyP s) (Classical.propDecidable _) 0 8
theorem ckSy_no {s : Sy} (h : ¬ okSyP s) : ckSy s = 8 := if_neg h
theorem ckSy_yes {s : Sy} (h : okSyP s) : ckSy s = 0 := if_pos h

set_option maxHeartbeats 1000000 in
set_option maxRecDepth 100000 in
theorem Check_c (S : Nat → Prop) (s : Sy) (cs : List Value) (w : World) (hx : RSy S w s cs) :
    Calls Tryz.prog 27 #[.agg cs.toArray] w fun e w' => e = .returned (.int .i64 (ckSy s)) ∧ Ext w w' := by
  obtain ⟨_, v, u, rfl, hv, hu⟩ := id hx
  obtain ⟨A, c, rfl, hc, hc0⟩ := hv.val
  obtain ⟨A', c', rfl, hc', hc0'⟩ := hu.val
  have HL := Lib.hid hv
  have HE := Lib.hid hu
  clear hx hv hu
  by_cases hb : 1 ≤ s.n ∧ s.n ≤ 20000 ∧ s.ls.length ≤ 4000 ∧ s.es.length ≤ 100000
  case neg =>
    have HV := Lib.hid (ckSy_no (s := s) (fun h => hb ⟨h.1, h.2.1, h.2.2.1, h.2.2.2.1⟩))
    have h4 : 1 ≤ s.n → s.n ≤ 20000 → (s.ls.length : Int) ≤ 4000 → 100000 < (s.es.length : Int) := by omega
    clear hb
    go_enter Tryz.func27, Tryz.ntmps27
    go_wp2_with fail
    all_goals go_ret
    all_goals exact ⟨by rw [HV.out]; rfl, (by repeat (first | exact Ext.refl _ | apply Ext.alloc | apply Below.drew | apply Ext.drewN | refine Ext.trans' ?_ (by assumption) | refine Ext.trans' ?_ (ExtD.ext (by assumption))))⟩
  obtain ⟨b1, b2, b3, b4⟩ := hb
  have b3' : (s.ls.length : Int) ≤ 4000 := by omega
  have b4' : (s.es.length : Int) ≤ 100000 := by omega
  go_enter Tryz.func27, Tryz.ntmps27
  go_wp2_with fail
  go_loopw [31] (fun i wr => ∃ k : Nat, k ≤ s.ls.length ∧ i = .int .i64 k ∧ Ext w wr ∧ wr.cell? ⟨w.heap.size, 0, none⟩ = some (.int .i64 s.n) ∧ wr.cell? ⟨w.heap.size, 1, none⟩ = some (.slice A s.ls.length c) ∧ wr.cell? ⟨w.heap.size, 2, none⟩ = some (.slice A' s.es.length c') ∧ w.heap.size < wr.heap.size ∧ Hid (∀ j, j < k → okLbAt s.ls j)) (fun i _ => s.ls.length - (intOf i).toNat)
  case atStart => exact ⟨0, Nat.zero_le _, rfl, (by repeat (first | exact Ext.refl _ | apply Ext.alloc | apply Below.drew | apply Ext.drewN | refine Ext.trans' ?_ (by assumption) | refine Ext.trans' ?_ (ExtD.ext (by assumption)))), by go_simp, by go_simp, by go_simp, by simp, fun j hj => absurd hj (by omega)⟩
  case round =>
    obtain ⟨k, hk, rfl, hX, q0, q1, q2, hsz, hz⟩ := hrel
    by_cases hlt : k < s.ls.length
    · obtain ⟨b, off, cs, rfl, hb, hS, hl, hr, hcell⟩ := (RLbs.good.bel HL.out hX).get k hlt
      obtain ⟨_, v1, rfl, hv1⟩ := id hr
      have o1 := fun (W : World) (a : Addr) (m : Mode) => run_store Tryz.prog W a v1 m (RLb.good.one hr v1 (by simp))
      have g0 := hcell.get 0 _
      have g1 := hcell.get 1 _
      simp only [Nat.add_zero] at g0
      have hX2 : ∀ (o : Obj) (y : World), Ext wr (exto (wr.alloc o) y) := fun o y => ((Ext.refl wr).alloc o).trans' (exto_ext _ y)
      have hck := fun W (hW : Ext wr W) => CheckLabel_c S _ _ W (RLb.good.bel hr hW)
      clear hcell hl hS hv1
      cases ho : okLb s.ls[k] with
      | false =>
        have HV := Lib.hid (ckSy_no (s := s) (fun h => by have := (h.2.2.2.2.1 k hlt).1; rw [ho] at this; cases this))
        have e : ckLb s.ls[k] = 170 := by rw [ckLb, if_neg (by rw [ho]; decide)]
        rw [e] at hck
        clear e ho hr
        go_wp2_with fail
        (refine wp_region_ext (by kernel_rfl) (by kernel_rfl) ?_; (repeat (first | go_big_quiet_step ((go_at_call 96; exact quiet_ext (hck _ (hX2 _ _)))) | quiet_step ((go_at_call 96; exact quiet_ext (hck _ (hX2 _ _)))))); refine wpQuiet_nil ?_)
        intro w1 hx1
        go_wp2_with fail
        go_ret
        exact ⟨by rw [HV.out]; rfl, (by repeat (first | exact Ext.refl _ | apply Ext.alloc | apply Below.drew | apply Ext.drewN | refine Ext.trans' ?_ (by assumption) | refine Ext.trans' ?_ (ExtD.ext (by assumption))))⟩
      | true =>
        have e : ckLb s.ls[k] = 0 := by rw [ckLb, if_pos ho]
        rw [e] at hck
        clear e
        rcases k with _ | k
        · have HO := Lib.hid ho
          simp only [Nat.zero_mul, Nat.add_zero] at g0 g1
          clear ho hr
          go_wp2_with fail
          (refine wp_region_ext (by kernel_rfl) (by kernel_rfl) ?_; (repeat (first | go_big_quiet_step ((go_at_call 96; exact quiet_ext (hck _ (hX2 _ _)))) | quiet_step ((go_at_call 96; exact quiet_ext (hck _ (hX2 _ _)))))); refine wpQuiet_nil ?_)
          intro w1 hx1
          go_wp2_with fail
          go_roundw
          case rel =>
            refine ⟨1, by omega, by go_num, (by repeat (first | exact Ext.refl _ | apply Ext.alloc | apply Below.drew | apply Ext.drewN | refine Ext.trans' ?_ (by assumption) | refine Ext.trans' ?_ (ExtD.ext (by assumption)))), Ext.keep hx1 (by go_simp), Ext.keep hx1 (by go_simp), Ext.keep hx1 (by go_simp), by have := hx1.size; simp at this; omega, fun j hj h => ?_⟩
            obtain rfl : j = 0 := by omega
            exact ⟨HO.out, fun h0 => absurd h0 (by omega)⟩
          case measure => simp [intOf]; omega
        · have hk0 : k < s.ls.length := by omega
          obtain ⟨b', off', cs', he, hb', hS', hl', hr', hcell'⟩ := (RLbs.good.bel HL.out hX).get k hk0
          injection he with he
          injection he with he1 he2
          subst he1 he2
          obtain ⟨_, v2, rfl, hv2⟩ := id hr'
          have g0' := hcell'.get 0 _
          have g1' := hcell'.get 1 _
          simp only [Nat.add_zero] at g0'
          have hcmp := fun W (hW : Ext wr W) => CompareLabels_c S _ _ _ _ W (RLb.good.bel hr' hW) (RLb.good.bel hr hW)
          have z1 : (0 : Int) ≤ (k : Int) := by omega
          have z2 : ((k : Int) + 1) < (s.ls.length : Int) := by omega
          have z4 : (k : Int) < (s.ls.length : Int) := by omega
          have z5 : (0 : Int) < (k : Int) + 1 := by omega
          have HO := Lib.hid ho
          clear ho hr hr' hcell' hl' hS' hv2
          by_cases hc2 : cmpLb s.ls[k] s.ls[k + 1] < 0
          · have HC := Lib.hid hc2
            have hd' : decide (0 ≤ cmpLb s.ls[k] s.ls[k + 1]) = false := by simp; omega
            clear hc2
            go_wp2_with fail
            (refine wp_region_ext (by kernel_rfl) (by kernel_rfl) ?_; (repeat (first | go_big_quiet_step ((first | (go_at_call 96; exact quiet_ext (hck _ (hX2 _ _))) | (go_at_call 57; exact quiet_extD (hcmp _ (hX2 _ _))))) | quiet_step ((first | (go_at_call 96; exact quiet_ext (hck _ (hX2 _ _))) | (go_at_call 57; exact quiet_extD (hcmp _ (hX2 _ _))))))); refine wpQuiet_nil ?_)
            intro w1 hx1
            go_wp2_with fail
            go_roundw
            case rel =>
              refine ⟨k + 1 + 1, by omega, by go_num, (by repeat (first | exact Ext.refl _ | apply Ext.alloc | apply Below.drew | apply Ext.drewN | refine Ext.trans' ?_ (by assumption) | refine Ext.trans' ?_ (ExtD.ext (by assumption)))), Ext.keep hx1 (by go_simp), Ext.keep hx1 (by go_simp), Ext.keep hx1 (by go_simp), by have := hx1.size; simp at this; omega, fun j hj h => ?_⟩
              rcases Nat.lt_or_ge j (k + 1) with h' | h'
              · exact hz j h' h
              · obtain rfl : j = k + 1 := by omega
                exact ⟨HO.out, fun _ => HC.out⟩
            case measure => simp [intOf]; omega
          · have HV := Lib.hid (ckSy_no (s := s) (fun h => hc2 ((h.2.2.2.2.1 (k + 1) hlt).2 (by omega))))
            have hd' : 0 ≤ cmpLb s.ls[k] s.ls[k + 1] := by omega
            clear hc2
            go_wp2_with fail
            (refine wp_region_ext (by kernel_rfl) (by kernel_rfl) ?_; (repeat (first | go_big_quiet_step ((first | (go_at_call 96; exact quiet_ext (hck _ (hX2 _ _))) | (go_at_call 57; exact quiet_extD (hcmp _ (hX2 _ _))))) | quiet_step ((first | (go_at_call 96; exact quiet_ext (hck _ (hX2 _ _))) | (go_at_call 57; exact quiet_extD (hcmp _ (hX2 _ _))))))); refine wpQuiet_nil ?_)
            intro w1 hx1
            go_wp2_with fail
            go_ret
            exact ⟨by rw [HV.out]; rfl, (by repeat (first | exact Ext.refl _ | apply Ext.alloc | apply Below.drew | apply Ext.drewN | refine Ext.trans' ?_ (by assumption) | refine Ext.trans' ?_ (ExtD.ext (by assumption))))⟩
    · have hok : ∀ j, okLbAt s.ls j := fun j h => hz j (by omega) h
      have HOK := Lib.hid hok
      clear hok hz
      go_wp2_with fail
      have q0' := q0
      have q1' := q1
      have q2' := q2
      have hsz' := hsz
      clear q0 q1 q2 hsz hlt hk
      go_loopw [58] (fun i wr => ∃ k : Nat, k ≤ s.es.length ∧ i = .int .i64 k ∧ Ext w wr ∧ wr.cell? ⟨w.heap.size, 0, none⟩ = some (.int .i64 s.n) ∧ wr.cell? ⟨w.heap.size, 1, none⟩ = some (.slice A s.ls.length c) ∧ wr.cell? ⟨w.heap.size, 2, none⟩ = some (.slice A' s.es.length c') ∧ w.heap.size < wr.heap.size ∧ Hid (∀ j, j < k → okEdAt s j)) (fun i _ => s.es.length - (intOf i).toNat)
      case atStart => exact ⟨0, Nat.zero_le _, rfl, hX, q0', q1', q2', hsz', fun j hj => absurd hj (by omega)⟩
      case round =>
        clear q0' q1' q2' hsz' hX
        obtain ⟨k, hk, rfl, hX, q0, q1, q2, hsz, hz⟩ := hrel
        have hX2 : ∀ (o : Obj) (y : World), Ext wr (exto (wr.alloc o) y) := fun o y => ((Ext.refl wr).alloc o).trans' (exto_ext _ y)
        by_cases hlt : k < s.es.length
        · obtain ⟨b, off, cs, rfl, hb, hS, hl, hr, hcell⟩ := (REds.good.bel HE.out hX).get k hlt
          obtain ⟨_, _, _, rfl⟩ := id hr
          have g0 := hcell.get 0 _
          have g1 := hcell.get 1 _
          have g2 := hcell.get 2 _
          simp only [Nat.add_zero] at g0
          clear hcell hl hS
          cases hf : isB s.es[k].f s.n with
          | false =>
            have HV := Lib.hid (ckSy_no (s := s) (fun h => by have := (h.2.2.2.2.2 k hlt).1; rw [okEd, hf] at this; cases this))
            clear hr
            go_wp2_with fail
            (refine wp_region_ext (by kernel_rfl) (by kernel_rfl) ?_; (repeat (first | go_big_quiet_step ((first | (go_at_call 97; exact quiet_same (is_c _ _ _)) | (go_at_call 98; exact quiet_extD (hcmp _ (hX2 _ _))))) | quiet_step ((first | (go_at_call 97; exact quiet_same (is_c _ _ _)) | (go_at_call 98; exact quiet_extD (hcmp _ (hX2 _ _))))))); refine wpQuiet_nil ?_)
            intro w1 hx1
            go_wp2_with fail
            go_ret
            exact ⟨by rw [HV.out]; rfl, (by repeat (first | exact Ext.refl _ | apply Ext.alloc | apply Below.drew | apply Ext.drewN | refine Ext.trans' ?_ (by assumption) | refine Ext.trans' ?_ (ExtD.ext (by assumption))))⟩
          | true =>
            cases ht : isB s.es[k].t s.n with
            | false =>
              have HV := Lib.hid (ckSy_no (s := s) (fun h => by have := (h.2.2.2.2.2 k hlt).1; rw [okEd, hf, ht] at this; cases this))
              clear hr
              go_wp2_with fail
              (refine wp_region_ext (by kernel_rfl) (by kernel_rfl) ?_; (repeat (first | go_big_quiet_step ((first | (go_at_call 97; exact quiet_same (is_c _ _ _)) | (go_at_call 98; exact quiet_extD (hcmp _ (hX2 _ _))))) | quiet_step ((first | (go_at_call 97; exact quiet_same (is_c _ _ _)) | (go_at_call 98; exact quiet_extD (hcmp _ (hX2 _ _))))))); refine wpQuiet_nil ?_)
              intro w1 hx1
              go_wp2_with fail
              go_ret
              exact ⟨by rw [HV.out]; rfl, (by repeat (first | exact Ext.refl _ | apply Ext.alloc | apply Below.drew | apply Ext.drewN | refine Ext.trans' ?_ (by assumption) | refine Ext.trans' ?_ (ExtD.ext (by assumption))))⟩
            | true =>
              cases hl : isB s.es[k].l s.ls.length with
              | false =>
                have HV := Lib.hid (ckSy_no (s := s) (fun h => by have := (h.2.2.2.2.2 k hlt).1; rw [okEd, hf, ht, hl] at this; cases this))
                clear hr
                go_wp2_with fail
                (refine wp_region_ext (by kernel_rfl) (by kernel_rfl) ?_; (repeat (first | go_big_quiet_step ((first | (go_at_call 97; exact quiet_same (is_c _ _ _)) | (go_at_call 98; exact quiet_extD (hcmp _ (hX2 _ _))))) | quiet_step ((first | (go_at_call 97; exact quiet_same (is_c _ _ _)) | (go_at_call 98; exact quiet_extD (hcmp _ (hX2 _ _))))))); refine wpQuiet_nil ?_)
                intro w1 hx1
                go_wp2_with fail
                go_ret
                exact ⟨by rw [HV.out]; rfl, (by repeat (first | exact Ext.refl _ | apply Ext.alloc | apply Below.drew | apply Ext.drewN | refine Ext.trans' ?_ (by assumption) | refine Ext.trans' ?_ (ExtD.ext (by assumption))))⟩
              | true =>
                have HO := Lib.hid (show okEd s s.es[k] = true from by rw [okEd, hf, ht, hl]; rfl)
                rcases k with _ | k
                · simp only [Nat.zero_mul, Nat.add_zero] at g0 g1 g2
                  clear hr
                  go_wp2_with fail
                  (refine wp_region_ext (by kernel_rfl) (by kernel_rfl) ?_; (repeat (first | go_big_quiet_step ((go_at_call 97; exact quiet_same (is_c _ _ _))) | quiet_step ((go_at_call 97; exact quiet_same (is_c _ _ _))))); refine wpQuiet_nil ?_)
                  intro w1 hx1
                  go_wp2_with fail
                  go_roundw
                  case rel =>
                    refine ⟨1, by omega, by go_num, (by repeat (first | exact Ext.refl _ | apply Ext.alloc | apply Below.drew | apply Ext.drewN | refine Ext.trans' ?_ (by assumption) | refine Ext.trans' ?_ (ExtD.ext (by assumption)))), Ext.keep hx1 (by go_simp), Ext.keep hx1 (by go_simp), Ext.keep hx1 (by go_simp), by have := hx1.size; simp at this; omega, fun j hj h => ?_⟩
                    obtain rfl : j = 0 := by omega
                    exact ⟨HO.out, fun h0 => absurd h0 (by omega)⟩
                  case measure => simp [intOf]; omega
                · have hk0 : k < s.es.length := by omega
                  obtain ⟨b', off', cs', he, hb', hS', hl', hr', hcell'⟩ := (REds.good.bel HE.out hX).get k hk0
                  injection he with he
                  injection he with he1 he2
                  subst he1 he2
                  obtain ⟨_, _, _, rfl⟩ := id hr'
                  have g0' := hcell'.get 0 _
                  have g1' := hcell'.get 1 _
                  have g2' := hcell'.get 2 _
                  simp only [Nat.add_zero] at g0'
                  have hcmp := fun W (hW : Ext wr W) => compareEdges_c S _ _ _ _ W (REd.good.bel hr' hW) (REd.good.bel hr hW)
                  have z1 : (0 : Int) ≤ (k : Int) := by omega
                  have z2 : ((k : Int) + 1) < (s.es.length : Int) := by omega
                  have z4 : (k : Int) < (s.es.length : Int) := by omega
                  have z5 : (0 : Int) < (k : Int) + 1 := by omega
                  clear hr hr' hcell' hl' hS'
                  by_cases hc2 : cmpEd s.es[k] s.es[k + 1] < 0
                  · have HC := Lib.hid hc2
                    have hd' : decide (0 ≤ cmpEd s.es[k] s.es[k + 1]) = false := by simp; omega
                    clear hc2
                    go_wp2_with fail
                    (refine wp_region_ext (by kernel_rfl) (by kernel_rfl) ?_; (repeat (first | go_big_quiet_step ((first | (go_at_call 97; exact quiet_same (is_c _ _ _)) | (go_at_call 98; exact quiet_extD (hcmp _ (hX2 _ _))))) | quiet_step ((first | (go_at_call 97; exact quiet_same (is_c _ _ _)) | (go_at_call 98; exact quiet_extD (hcmp _ (hX2 _ _))))))); refine wpQuiet_nil ?_)
                    intro w1 hx1
                    go_wp2_with fail
                    go_roundw
                    case rel =>
                      refine ⟨k + 1 + 1, by omega, by go_num, (by repeat (first | exact Ext.refl _ | apply Ext.alloc | apply Below.drew | apply Ext.drewN | refine Ext.trans' ?_ (by assumption) | refine Ext.trans' ?_ (ExtD.ext (by assumption)))), Ext.keep hx1 (by go_simp), Ext.keep hx1 (by go_simp), Ext.keep hx1 (by go_simp), by have := hx1.size; simp at this; omega, fun j hj h => ?_⟩
                      rcases Nat.lt_or_ge j (k + 1) with h' | h'
                      · exact hz j h' h
                      · obtain rfl : j = k + 1 := by omega
                        exact ⟨HO.out, fun _ => HC.out⟩
                    case measure => simp [intOf]; omega
                  · have HV := Lib.hid (ckSy_no (s := s) (fun h => hc2 ((h.2.2.2.2.2 (k + 1) hlt).2 (by omega))))
                    have hd' : 0 ≤ cmpEd s.es[k] s.es[k + 1] := by omega
                    clear hc2
                    go_wp2_with fail
                    (refine wp_region_ext (by kernel_rfl) (by kernel_rfl) ?_; (repeat (first | go_big_quiet_step ((first | (go_at_call 97; exact quiet_same (is_c _ _ _)) | (go_at_call 98; exact quiet_extD (hcmp _ (hX2 _ _))))) | quiet_step ((first | (go_at_call 97; exact quiet_same (is_c _ _ _)) | (go_at_call 98; exact quiet_extD (hcmp _ (hX2 _ _))))))); refine wpQuiet_nil ?_)
                    intro w1 hx1
                    go_wp2_with fail
                    go_ret
                    exact ⟨by rw [HV.out]; rfl, (by repeat (first | exact Ext.refl _ | apply Ext.alloc | apply Below.drew | apply Ext.drewN | refine Ext.trans' ?_ (by assumption) | refine Ext.trans' ?_ (ExtD.ext (by assumption))))⟩
        · have HV := Lib.hid (ckSy_yes (s := s) ⟨b1, b2, b3, b4, HOK.out, fun j h => hz j (by omega) h⟩)
          clear hz
          go_wp2_with fail
          go_ret
          exact ⟨by rw [HV.out]; rfl, hX⟩
end Go.Proofs.YtegenalcheooeaaGreat

/- Maps with whole numbers or strings as keys: what looking up and storing come to. -/
set_option linter.unusedSectionVars false
set_option linter.unusedSimpArgs false
set_option linter.unusedVariables false
namespace Go.Proofs.YtegenalcheooeaaGreat
open Go.RowKit
attribute [local go_sem] cell?_exto

section
variable {κ : Type} [DecidableEq κ]
/-- Keys of a kind that is compared at once. -/
structure KeyOk (P : Program) (kt : TypeId) (K : κ → Value) : Prop where
  kind : ∃ d, P.underlying kt = some d ∧ (∀ a b, Instr.sameNow d (K a) (K b) = some (decide (a = b))) ∧ (∀ W b n a, (Instr.checkKey b (n + 1) kt (K a)).run P W = .ok () W)
  bits : ∀ a, Instr.sameBits 10000 (K a) (K a) = true

/-- What entries hold at a key. -/
def lookE (K : κ → Value) : List MapEntry → κ → (κ → MapEntry → Bool) → Option Value
  | [], _, _ => none
  | e :: es, a, t => if t a e then some e.val else lookE K es a t

/-- Block m is a map whose entries hold f. -/
def IsMap (K : κ → Value) (W : World) (m : Nat) (f : κ → Option Value) : Prop :=
  ∃ (es : Array MapEntry) (clock : Nat) (ks : List κ), W.heap[m]? = some (.map es clock) ∧ es.toList.map (·.key) = ks.map K ∧ ks.Nodup ∧
    (∀ i, (h : i < ks.length) → f ks[i] = (es.toList[i]?).map (·.val)) ∧ (∀ a, a ∉ ks → f a = none)

theorem IsMap.move {K : κ → Value} {W W' : World} {m : Nat} {f : κ → Option Value} (h : IsMap K W m f) (hm : W'.heap[m]? = W.heap[m]?) : IsMap K W' m f := by
  obtain ⟨es, clock, ks, h1, h2⟩ := h
  exact ⟨es, clock, ks, hm.trans h1, h2⟩
theorem IsMap.lt {K : κ → Value} {W : World} {m : Nat} {f : κ → Option Value} (h : IsMap K W m f) : m < W.heap.size := by
  obtain ⟨es, clock, ks, h1, _⟩ := h
  exact (Array.getElem?_eq_some_iff.1 h1).1
theorem IsMap.new (K : κ → Value) (W : World) : IsMap K (W.alloc (.map #[] 0)) W.heap.size (fun _ => none) :=
  ⟨#[], 0, [], Array.getElem?_push_size, rfl, List.nodup_nil, fun i h => absurd h (by simp), fun _ _ => rfl⟩

/-- Where a key stands. -/
theorem find_at {d : TypeDesc} {K : κ → Value} (hK : ∀ a b, Instr.sameNow d (K a) (K b) = some (decide (a = b))) (a : κ) : ∀ (l : List MapEntry) (ks : List κ) (i : Nat), l.map (·.key) = ks.map K →
    Instr.findNow d (K a) l i = some (if h : a ∈ ks then (l[ks.idxOf a]?).map (fun e => (i + ks.idxOf a, e.val)) else none)
  | [], [], i, _ => by simp [Instr.findNow]
  | [], _ :: _, _, h => by simp at h
  | _ :: _, [], _, h => by simp at h
  | e :: l, k :: ks, i, h => by
    simp only [List.map_cons, List.cons.injEq] at h
    rw [Instr.findNow, h.1, hK a k]
    by_cases hak : a = k
    · subst hak
      simp
    · simp only [hak, decide_false]
      rw [find_at hK a l ks (i + 1) h.2]
      by_cases hm : a ∈ ks
      · rw [dif_pos hm, dif_pos (by simp [hm]), List.idxOf_cons, show (k == a) = false from beq_eq_false_iff_ne.2 (Ne.symm hak), cond_false]
        simp only [List.getElem?_cons_succ]
        congr 1
        congr 1
        funext e
        rw [show i + 1 + ks.idxOf a = i + (ks.idxOf a + 1) from by omega]
      · rw [dif_neg hm, dif_neg (by simp [hm, hak])]

/-- m[a]: what is there, or the zero value. -/
theorem IsMap.lookup {P : Program} {K : κ → Value} {W : World} {m : Nat} {f : κ → Option Value} (h : IsMap K W m f) {t kt et : TypeId} (ht : P.underlying t = some (.map kt et)) (hk : KeyOk P kt K) {z : Value} (hz : (zeroValue et).run P W = .ok z W) (a : κ) :
    (Instr.lookup t (.map (some m)) (K a) false).run P W = .ok ((f a).getD z) W := by
  obtain ⟨es, clock, ks, h1, h2, h3, h4, h5⟩ := h
  obtain ⟨d, hd, hs, hc⟩ := hk.kind
  have hf := find_at hs a es.toList ks 0 h2
  have hlen : es.toList.length = ks.length := by have := congrArg List.length h2; simpa using this
  unfold Instr.lookup Instr.findKey
  by_cases hm : a ∈ ks
  · rw [dif_pos hm] at hf
    have hi : ks.idxOf a < ks.length := List.idxOf_lt_length_of_mem hm
    have hv := h4 _ hi
    rw [List.getElem_idxOf] at hv
    rw [List.getElem?_eq_getElem (by omega)] at hv hf
    simp only [Option.map_some] at hv hf
    simp [run_underlying ht, run_underlying hd, getObj, Sem.run, h1, hc, hf, hv]
  · rw [dif_neg hm] at hf
    rw [h5 a hm]
    simp [run_underlying ht, run_underlying hd, getObj, Sem.run, h1, hc, hf, hz]

/-- m[a] = v -/
theorem IsMap.store {P : Program} {K : κ → Value} {W : World} {m : Nat} {f : κ → Option Value} (h : IsMap K W m f) {t kt et : TypeId} (ht : P.underlying t = some (.map kt et)) (hk : KeyOk P kt K) (a : κ) (v : Value) :
    ∃ W', (Instr.mapUpdate t (.map (some m)) (K a) v).run P W = .ok () W' ∧ IsMap K W' m (fun b => if b = a then some v else f b) ∧ W.grownBy W' (some m) := by
  have hlt := h.lt
  obtain ⟨es, clock, ks, h1, h2, h3, h4, h5⟩ := h
  obtain ⟨d, hd, hs, hc⟩ := hk.kind
  have hf := find_at hs a es.toList ks 0 h2
  have hlen : es.toList.length = ks.length := by have := congrArg List.length h2; simpa using this
  have hset : ∀ o : Obj, ({ W with heap := W.heap.setIfInBounds m o } : World).heap[m]? = some o := fun o => by simp [hlt]
  have hgr : ∀ o : Obj, W.grownBy { W with heap := W.heap.setIfInBounds m o } (some m) := fun o =>
    ⟨rfl, rfl, rfl, by simp, fun k hk hne => by
      have : m ≠ k := fun e => hne (by rw [e])
      simp [Array.getElem?_setIfInBounds, this]⟩
  by_cases hm : a ∈ ks
  · rw [dif_pos hm] at hf
    have hi : ks.idxOf a < ks.length := List.idxOf_lt_length_of_mem hm
    rw [List.getElem?_eq_getElem (by omega)] at hf
    simp only [Option.map_some, Nat.zero_add] at hf
    have hkey : (es.toList[ks.idxOf a]'(by omega)).key = K a := by
      have := congrArg (·[ks.idxOf a]?) h2
      simp only [List.getElem?_map] at this
      rw [List.getElem?_eq_getElem (by omega), List.getElem?_eq_getElem hi] at this
      simpa [List.getElem_idxOf] using this
    refine ⟨{ W with heap := W.heap.setIfInBounds m (.map (es.modify (ks.idxOf a) fun e => { e with key := K a, val := v }) clock) }, ?_, ⟨_, clock, ks, hset _, ?_, h3, ?_, ?_⟩, hgr _⟩
    · unfold Instr.mapUpdate Instr.findKey
      have hk2 : ((es[ks.idxOf a]?).map (·.key)).getD (K a) = K a := by
        rw [← Array.getElem?_toList, List.getElem?_eq_getElem (by omega)]
        simpa using hkey
      simp [run_underlying ht, run_underlying hd, getObj, setObj, Sem.run, h1, hc, hf, Instr.keyThatStays, hk2, hk.bits]
    · rw [Array.toList_modify, ← h2]
      apply List.ext_getElem
      · simp
      · intro i p q
        simp only [List.getElem_map, List.getElem_modify]
        split
        · rename_i e; subst e; simpa using hkey.symm
        · rfl
    · intro i p
      show (if ks[i] = a then some v else f ks[i]) = _
      simp only [Array.toList_modify, List.getElem?_modify]
      by_cases e : ks[i] = a
      · have : ks.idxOf a = i := by rw [← e]; exact List.Nodup.idxOf_getElem h3 i p
        rw [if_pos e, this, List.getElem?_eq_getElem (by omega)]
        simp
      · have : ks.idxOf a ≠ i := fun e' => e (by subst e'; exact List.getElem_idxOf hi)
        rw [if_neg e, h4 i p]
        simp [this]
    · intro b hb
      show (if b = a then some v else f b) = none
      rw [if_neg (fun e : b = a => hb (e ▸ hm)), h5 b hb]
  · rw [dif_neg hm] at hf
    refine ⟨{ W with heap := W.heap.setIfInBounds m (.map (es.push { key := K a, val := v, born := clock }) (clock + 1)) }, ?_, ⟨_, clock + 1, ks ++ [a], hset _, ?_, ?_, ?_, ?_⟩, hgr _⟩
    · unfold Instr.mapUpdate Instr.findKey
      simp [run_underlying ht, run_underlying hd, getObj, setObj, Sem.run, h1, hc, hf]
    · simp [h2]
    · rw [List.nodup_append]
      exact ⟨h3, by simp, by intro x hx y hy; simp at hy; subst hy; exact fun e => hm (e ▸ hx)⟩
    · intro i p
      rw [Array.toList_push]
      show (if (ks ++ [a])[i] = a then some v else f (ks ++ [a])[i]) = _
      rcases Nat.lt_or_ge i ks.length with h | h
      · have e1 : (ks ++ [a])[i] = ks[i] := List.getElem_append_left h
        rw [e1, if_neg (fun e : ks[i] = a => hm (e ▸ List.getElem_mem h)), h4 i h, List.getElem?_append_left (by omega)]
      · have e1 : (ks ++ [a])[i] = a := by
          rw [List.getElem_append_right h]; simp
        have e2 : i = es.toList.length := by simp at p; omega
        rw [e1, if_pos rfl, List.getElem?_append_right (by omega), e2]
        simp
    · intro b hb
      simp at hb
      show (if b = a then some v else f b) = none
      rw [if_neg hb.2, h5 b hb.1]
end
theorem keyInt : KeyOk Tryz.prog 3 (Value.int .i64) := {
  kind := ⟨.int .i64, Tryz.underlying3, fun a b => by
    have : (a == b) = decide (a = b) := by rw [Bool.eq_iff_iff]; simp
    simp [Instr.sameNow, this], fun W b n a => by simp [Instr.checkKey, run_underlying Tryz.underlying3]⟩
  bits a := by simp [Instr.sameBits] }
theorem bytes_beq (a b : ByteArray) : (a == b) = true ↔ a = b := by
  cases a; cases b
  rename_i x y
  show (x == y) = true ↔ _
  simp
theorem keyStr : KeyOk Tryz.prog 9 Value.string := {
  kind := ⟨.string, Tryz.underlying9, fun a b => by
    have : (a == b) = decide (a = b) := by rw [Bool.eq_iff_iff, bytes_beq]; simp
    simp [Instr.sameNow, this], fun W b n a => by simp [Instr.checkKey, run_underlying Tryz.underlying9]⟩
  bits a := by simp [Instr.sameBits, bytes_beq] }
end Go.Proofs.YtegenalcheooeaaGreat

/- suite.newSystem: a system, with the edges that leave its states in a map. -/
set_option linter.unusedSectionVars false
set_option linter.unusedSimpArgs false
set_option linter.unusedVariables false
namespace Go.Proofs.YtegenalcheooeaaGreat
open Go.RowKit
attribute [local go_sem] cell?_exto

/-- The indices of the edges that leave a state. -/
def outFrom : Nat → List Ed → Int → List Int
  | _, [], _ => []
  | i, e :: es, n => if e.f = n then (i : Int) :: outFrom (i + 1) es n else outFrom (i + 1) es n
def outIx (es : List Ed) (n : Int) : List Int := outFrom 0 es n
theorem outFrom_append (n : Int) : ∀ (es fs : List Ed) (i : Nat), outFrom i (es ++ fs) n = outFrom i es n ++ outFrom (i + es.length) fs n
  | [], fs, i => by simp [outFrom]
  | e :: es, fs, i => by
    rw [List.cons_append, outFrom, outFrom, outFrom_append n es fs (i + 1)]
    have : i + 1 + es.length = i + (e :: es).length := by simp only [List.length_cons]; omega
    rw [this]
    split <;> simp
theorem outIx_snoc (es : List Ed) (k : Nat) (h : k < es.length) (n : Int) : outIx (es.take (k + 1)) n = if es[k].f = n then outIx (es.take k) n ++ [(k : Int)] else outIx (es.take k) n := by
  rw [List.take_succ_eq_append_getElem h, outIx, outFrom_append]
  have : 0 + (es.take k).length = k := by simp; omega
  rw [this, outFrom, outFrom]
  split <;> simp [outIx]
theorem outFrom_len (n : Int) : ∀ (es : List Ed) (i : Nat), (outFrom i es n).length ≤ es.length
  | [], i => by simp [outFrom]
  | e :: es, i => by
    have := outFrom_len n es (i + 1)
    rw [outFrom]
    split <;> simp only [List.length_cons] <;> omega
theorem outFrom_mem (n : Int) : ∀ (es : List Ed) (i : Nat) (x : Int), x ∈ outFrom i es n → ∃ j, ∃ h : j < es.length, x = (i + j : Nat) ∧ es[j].f = n
  | [], i, x, h => by simp [outFrom] at h
  | e :: es, i, x, h => by
    rw [outFrom] at h
    have rec_ : x ∈ outFrom (i + 1) es n → ∃ j, ∃ h : j < (e :: es).length, x = (i + j : Nat) ∧ (e :: es)[j].f = n := fun h => by
      obtain ⟨j, hj, hx, he⟩ := outFrom_mem n es (i + 1) x h
      exact ⟨j + 1, by simpa using hj, by rw [hx]; congr 1; omega, by simpa using he⟩
    split at h
    · rename_i he
      rcases List.mem_cons.1 h with rfl | h
      · exact ⟨0, by simp, by simp, he⟩
      · exact rec_ h
    · exact rec_ h

/-- The rows of a map of rows of whole numbers; from base on; no two of one block. -/
structure Rows (w : World) (base : Nat) (f : Int → Option Value) (g : Int → List Int) : Prop where
  no : ∀ n, f n = none → g n = []
  own : ∀ n v, f n = some v → w.ownsRow base 3 1 v (g n).length ((g n).map (Value.int .i64))
  apart : ∀ n n' v v', n ≠ n' → f n = some v → f n' = some v' → v.ownBlock = none ∨ v.ownBlock ≠ v'.ownBlock
theorem Rows.kept {w w' : World} {base : Nat} {f : Int → Option Value} {g : Int → List Int} (h : Rows w base f g) {row : Option Nat} (hg : w.grownBy w' row) (hr : ∀ k, row = some k → k < base) : Rows w' base f g := {
  no := h.no
  own n v hv := (h.own n v hv).kept hg (by
    rcases hb : v.ownBlock with _ | k
    · exact .inl rfl
    · refine .inr fun e => ?_
      have h1 := hr k e.symm
      rcases (h.own n v hv).2 with ⟨rfl, _⟩ | ⟨g', cap, cur, rfl, hge, _⟩
      · simp [Value.ownBlock] at hb
      · simp [Value.ownBlock] at hb; omega)
  apart := h.apart }
theorem own_row_base {w : World} {base n size : Nat} {e : TypeId} {v : Value} {xs : List Value} (h : w.ownsRow base e size v n xs) (k : Nat) (hk : v.ownBlock = some k) : base ≤ k ∧ k < w.heap.size := by
  rcases h.2 with ⟨rfl, _⟩ | ⟨g, cap, cur, rfl, hb, hh, _⟩
  · simp [Value.ownBlock] at hk
  · have : g = k := by simpa [Value.ownBlock] using hk
    subst this
    exact ⟨hb, (Array.getElem?_eq_some_iff.1 hh).1⟩
/-- One row is appended to, and put back. -/
theorem Rows.put {w w1 : World} {base : Nat} {f : Int → Option Value} {g : Int → List Int} (h : Rows w base f g) (n : Int) (x : Int) {v' : Value}
    (hown : w1.ownsRow base 3 1 v' ((g n).length + 1) ((g n).map (Value.int .i64) ++ [.int .i64 x])) (hg : w.grownBy w1 ((f n).getD (.slice none 0 0)).ownBlock)
    (hat : v'.ownBlock = ((f n).getD (.slice none 0 0)).ownBlock ∨ ∃ b, v'.ownBlock = some b ∧ w.heap.size ≤ b) :
    Rows w1 base (fun b => if b = n then some v' else f b) (fun b => if b = n then g n ++ [x] else g b) := {
  no b hb := by
    show (if b = n then g n ++ [x] else g b) = []
    by_cases e : b = n
    · simp [e] at hb
    · simp only [e, if_false] at hb ⊢; exact h.no b hb
  own b v hv := by
    show w1.ownsRow base 3 1 v (if b = n then g n ++ [x] else g b).length _
    by_cases e : b = n
    · subst e
      simp only [if_true, Option.some.injEq] at hv
      subst hv
      simpa using hown
    · simp only [e, if_false] at hv ⊢
      refine (h.own b v hv).kept hg ?_
      cases hn : f n with
      | none =>
        rcases hb0 : v.ownBlock with _ | k
        · exact .inl rfl
        · exact .inr (by simp [Value.ownBlock])
      | some u => rw [Option.getD_some]; exact h.apart b n v u e hv hn
  apart b b' v u hne hv hu := by
    -- the row at n against another one
    have key : ∀ c y, c ≠ n → f c = some y → v'.ownBlock = none ∨ v'.ownBlock ≠ y.ownBlock := by
      intro c y hc hy
      rcases hat with hat | ⟨k, hk, hks⟩
      · rw [hat]
        cases hn : f n with
        | none => exact .inl (by simp [Value.ownBlock])
        | some z => rw [Option.getD_some]; exact h.apart n c z y (Ne.symm hc) hn hy
      · refine .inr ?_
        rw [hk]
        intro e
        have := (own_row_base (h.own c y hy) k e.symm).2
        omega
    by_cases e : b = n
    · subst e
      simp only [if_true, Option.some.injEq] at hv
      subst hv
      rw [if_neg (Ne.symm hne)] at hu
      exact key b' u (Ne.symm hne) hu
    · rw [if_neg e] at hv
      by_cases e' : b' = n
      · subst e'
        simp only [if_true, Option.some.injEq] at hu
        subst hu
        rcases key b v e hv with h1 | h1
        · rcases hb : v.ownBlock with _ | k
          · exact .inl rfl
          · exact .inr (by rw [h1]; simp)
        · rcases hb : v.ownBlock with _ | k
          · exact .inl rfl
          · exact .inr (by rw [← hb]; exact Ne.symm h1)
      · rw [if_neg e'] at hu
        exact h.apart b b' v u hne hv hu }

/-- An owned row of whole numbers is read. -/
theorem own_read {w : World} {base : Nat} {v : Value} {xs : List Int} (h : w.ownsRow base 3 1 v xs.length (xs.map (Value.int .i64))) (hx : ∀ x ∈ xs, I64 x) (S : Nat → Prop) (hS : ∀ k, base ≤ k → S k) : RSl RInt 1 S w xs [v] := by
  rcases h.2 with ⟨rfl, h0⟩ | ⟨g, cap, cur, rfl, hb, hh, hn, hc, hcs, hcur⟩
  · obtain rfl : xs = [] := List.eq_nil_of_length_eq_zero h0
    exact ⟨none, 0, rfl, Nat.le_refl _, by omega, .inl rfl⟩
  · refine ⟨_, cap, rfl, hn, by unfold maxLen at hc; omega, .inr ⟨g, 0, rfl, (Array.getElem?_eq_some_iff.1 hh).1, hS g hb, RowAt.of_get fun i hi => ⟨[.int .i64 xs[i]], rfl, ⟨rfl, hx _ (List.getElem_mem hi)⟩, ?_⟩⟩⟩
    intro j u hj
    have hj0 : j = 0 := by
      rcases j with _ | j
      · rfl
      · simp at hj
    subst hj0
    simp at hj
    subst hj
    have hcell := h.cells (g := g) rfl i (.int .i64 xs[i]) (by simp [hi])
    simpa [Addr.add_lit] using hcell

/-- A system in memory: its block, its map's block, and all that they lead to lie in S. -/
structure IsSys (S : Nat → Prop) (W : World) (g : Nat) (s : Sy) : Prop where
  mk ::
  ex : ∃ (v u : Value) (m : Nat) (f : Int → Option Value), W.heap[g]? = some (.cells #[.int .i64 s.n, v, u, .map (some m)] 184 (0, 0)) ∧ RLbs S W s.ls [v] ∧ REds S W s.es [u] ∧ S g ∧ S m ∧
    IsMap (Value.int .i64) W m f ∧ (∀ n, f n = none → outIx s.es n = []) ∧ (∀ n x, f n = some x → RSl RInt 1 S W (outIx s.es n) [x])
theorem IsSys.move {S : Nat → Prop} {W W' : World} {g : Nat} {s : Sy} (h : IsSys S W g s) (hk : Kp S W W') : IsSys S W' g s := by
  obtain ⟨v, u, m, f, h1, h2, h3, h4, h5, h6, h7, h8⟩ := h.ex
  exact ⟨v, u, m, f, (hk.block g (Array.getElem?_eq_some_iff.1 h1).1 h4).trans h1, RLbs.good.move h2 hk, REds.good.move h3 hk, h4, h5, h6.move (hk.block m h6.lt h5), h7, fun n x hx => (RSl.good RInt.good).move (h8 n x hx) hk⟩
theorem IsSys.bel {S : Nat → Prop} {W W' : World} {g : Nat} {s : Sy} (h : IsSys S W g s) (hk : Ext W W') : IsSys S W' g s := h.move (Ext.kp hk)
end Go.Proofs.YtegenalcheooeaaGreat

