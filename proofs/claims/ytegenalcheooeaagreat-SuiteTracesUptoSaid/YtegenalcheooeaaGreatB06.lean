/- Of the proof of a law of the suites: Su1. -/
import Derived.Test.YtegenalcheooeaaGreatB05
set_option linter.unusedSectionVars false
set_option linter.unusedSimpArgs false
set_option linter.unusedVariables false
namespace Go.Proofs.YtegenalcheooeaaGreat
open Go.RowKit
attribute [local go_sem] cell?_exto
section
set_option maxHeartbeats 1000000
set_option maxRecDepth 100000
/- suite: what a trace, a set, a test is. -/

def visB (g : Int) : Bool := decide (0 ≤ g) || decide (g = -2)
theorem visible_c (g : Int) (v : Value) (w : World) :
  Calls Tryz.prog 176 #[.agg #[.int .i64 g, v]] w fun e w' => e = .returned (.bool (visB g)) ∧ Ext w w' := by
 by_cases h : 0 ≤ g
 ·have HV := Lib.hid (show visB g = true from by simp [visB, h])
  go_enter Tryz.func176, Tryz.ntmps176
  go_wp2_with fail
  go_ret
  exact ⟨by rw [HV.out]; rfl, bel⟩
 ·have HV := Lib.hid (show visB g = (g == -2) from by unfold visB; rw [decide_eq_false h, Bool.false_or]; rfl)
  go_enter Tryz.func176, Tryz.ntmps176
  go_wp2_with fail
  go_ret
  exact ⟨by rw [HV.out]; simp, bel⟩

def okV (x : Lb) : Bool := okLb x && visB x.g
theorem eg207 : ∀ args w, (callFunc 207 args).run Tryz.prog w = .ok (.enter 207 args) w := enters_of Tryz.func207 (by kernel_rfl) rfl
theorem shown1_c (S : Nat → Prop) (x : Lb) (cs : List Value) (w : World) (hx : RLb S w x cs) :
  Calls Tryz.prog 207 #[.agg cs.toArray] w fun e w' => e = .returned (.bool (!okV x)) ∧ Ext w w' := by
 have hcon := fun W h => CheckLabel_c S x cs W h
 obtain ⟨_, v, rfl, hv⟩ := id hx
 have HX := Lib.hid hx
 clear hx hv
 cases ho : okLb x with
 | true =>
  have HV := Lib.hid (show (!okV x) = !visB x.g from by simp [okV, ho])
  have e : ckLb x = 0 := by rw [ckLb, if_pos ho]
  rw [e] at hcon
  clear e ho
  go_enter Tryz.func207, Tryz.ntmps207
  go_wp2_with fail
  refine (hcon _ (RLb.good.bel HX.out bel)).mono ?_
  rintro e w1 ⟨rfl, h1⟩
  have hc1 := h1.cells
  go_wp2_with fail
  refine (visible_c _ _ _).mono ?_
  rintro e w2 ⟨rfl, h2⟩
  go_wp2_with fail
  go_ret
  exact ⟨by rw [HV.out]; rfl, bel⟩
 | false =>
  have HV := Lib.hid (show (!okV x) = true from by simp [okV, ho])
  have e : ckLb x = 170 := by rw [ckLb, if_neg (by simp [ho])]
  rw [e] at hcon
  clear e ho
  go_enter Tryz.func207, Tryz.ntmps207
  go_wp2_with fail
  refine (hcon _ (RLb.good.bel HX.out bel)).mono ?_
  rintro e w1 ⟨rfl, h1⟩
  go_wp2_with fail
  go_ret
  exact ⟨by rw [HV.out]; rfl, bel⟩

theorem any_not {α : Type} (p : α → Bool) (l : List α) : (!(l.any fun x => !p x)) = l.all p := by
 induction l with
 | nil => rfl
 | cons x xs ih => rw [List.any_cons, List.all_cons, ← ih]; cases p x <;> simp
theorem shown_c (S : Nat → Prop) (l : List Lb) (v : Value) (w : World) (hx : RLbs S w l [v]) :
  Calls Tryz.prog 140 #[v] w fun e w' => e = .returned (.bool (l.all okV)) ∧ Ext w w' := by
 have hcon := conPLb (fun x => !okV x) S w l v hx 207 #[] eg207 (fun x hx cs W' hW hr => shown1_c S x cs W' hr)
 obtain ⟨A, c, rfl, hc, hc0⟩ := hx.val
 have HV := Lib.hid (any_not okV l)
 clear hx
 go_enter Tryz.func140, Tryz.ntmps140
 go_wp2_with fail
 refine hcon.mono ?_
 rintro e w1 ⟨rfl, h1⟩
 go_wp2_with fail
 go_ret
 exact ⟨by rw [← HV.out]; rfl, bel⟩

def isTraceB (l : List Lb) : Bool := decide (l.length ≤ 40) && l.all okV
theorem isTrace_c (S : Nat → Prop) (l : List Lb) (v : Value) (w : World) (hx : RLbs S w l [v]) :
  Calls Tryz.prog 79 #[v] w fun e w' => e = .returned (.bool (isTraceB l)) ∧ Ext w w' := by
 have hcon := shown_c S l v w hx
 obtain ⟨A, c, rfl, hc, hc0⟩ := hx.val
 clear hx
 by_cases h : l.length ≤ 40
 ·have HV := Lib.hid (show isTraceB l = l.all okV from by simp [isTraceB, h])
  go_enter Tryz.func79, Tryz.ntmps79
  go_wp2_with fail
  refine hcon.mono ?_
  rintro e w1 ⟨rfl, h1⟩
  go_wp2_with fail
  go_ret
  exact ⟨by rw [HV.out]; rfl, bel⟩
 ·have HV := Lib.hid (show isTraceB l = false from by simp [isTraceB, h])
  go_enter Tryz.func79, Tryz.ntmps79
  go_wp2_with fail
  go_ret
  exact ⟨by rw [HV.out]; rfl, bel⟩

/-- Labels increase. -/
def incLb : List Lb → Bool
 | [] => true
 | [_] => true
 | a :: b :: r => decide (cmpLb a b < 0) && incLb (b :: r)
def isSetB (l : List Lb) : Bool := incLb l && decide (l.length ≤ 64) && l.all okV
theorem incLb_iff : ∀ l : List Lb, incLb l = true ↔ ∀ i, (h : i + 1 < l.length) → cmpLb l[i] l[i + 1] < 0
 | [] => by simp [incLb]
 | [_] => by simp [incLb]
 | a :: b :: r => by
  rw [incLb, Bool.and_eq_true, incLb_iff (b :: r), decide_eq_true_eq]
  constructor
  ·rintro ⟨h0, h⟩ i hi
   cases i with
   | zero => exact h0
   | succ i => exact h i (by simpa using hi)
  ·intro h
   exact ⟨h 0 (by simp), fun i hi => h (i + 1) (by simpa using hi)⟩

theorem isSet_c (S : Nat → Prop) (l : List Lb) (v : Value) (w : World) (hx : RLbs S w l [v]) :
  Calls Tryz.prog 101 #[v] w fun e w' => e = .returned (.bool (isSetB l)) ∧ Ext w w' := by
 have hcon := fun W (hb : Ext w W) => shown_c S l v W (RLbs.good.bel hx hb)
 obtain ⟨A, c, rfl, hc, hc0⟩ := hx.val
 have HX := Lib.hid hx
 clear hx
 go_enter Tryz.func101, Tryz.ntmps101
 go_wp2_with fail
 go_loopw [2, 3] (fun r i wr => ∃ k : Nat, 1 ≤ k ∧ (k = 1 ∨ k ≤ l.length) ∧ i = .int .i64 k ∧ r = .bool false ∧ ExtD w wr ∧ Hid (∀ j, (h : j + 1 < l.length) → j + 1 < k → cmpLb l[j] l[j + 1] < 0)) (fun _ i _ => l.length - (intOf i).toNat)
 case atStart => exact ⟨1, by omega, .inl rfl, rfl, rfl, ExtD.refl _, fun j _ hj => absurd hj (by omega)⟩
 case round =>
  obtain ⟨k, hk1, hk, rfl, rfl, hE, hz⟩ := hrel
  by_cases hlt : k < l.length
  ·obtain ⟨k, rfl⟩ : ∃ m, k = m + 1 := ⟨k - 1, by omega⟩
   have hk0 : k < l.length := by omega
   obtain ⟨b, off, cs, rfl, hb, hs, hl, hr, hcell⟩ := (RLbs.good.ext HX.out hE).get k hk0
   obtain ⟨b', off', cs', he, hb', hs', hl', hr', hcell'⟩ := (RLbs.good.ext HX.out hE).get (k + 1) hlt
   injection he with he
   injection he with he1 he2
   subst he1 he2
   obtain ⟨_, v1, rfl, hv1⟩ := id hr
   obtain ⟨_, v2, rfl, hv2⟩ := id hr'
   have g0 := hcell.get 0 _
   have g1 := hcell.get 1 _
   have g0' := hcell'.get 0 _
   have g1' := hcell'.get 1 _
   simp only [Nat.add_zero] at g0 g0'
   have hcmp := fun W (hW : ExtD wr W) => compare_c S _ _ _ _ W (RLb.good.ext hr hW) (RLb.good.ext hr' hW)
   have z1 : (0 : Int) ≤ (k : Int) := by omega
   have z2 : ((k : Int) + 1) < (l.length : Int) := by omega
   have z3 : (0 : Int) ≤ (k : Int) + 1 := by omega
   have z4 : (k : Int) < (l.length : Int) := by omega
   clear hcell hcell' hl hl' hs hs' hv1 hv2 hr hr' hcon
   have y1 : IntKind.i64.wrap ((k : Int) + 1 - 1) = (k : Int) := by rw [IntWalk.i64_in _ (by omega)]; omega
   have y2 : IntKind.i64.wrap (k : Int) = (k : Int) := IntWalk.i64_in _ (by omega)
   by_cases hc2 : cmpLb l[k] l[k + 1] < 0
   ·have HC := Lib.hid hc2
    have hd : decide (cmpLb l[k] l[k + 1] ≥ 0) = false := by simp; omega
    have hd' : decide (0 ≤ cmpLb l[k] l[k + 1]) = false := by simp; omega
    clear hc2
    go_wp2_with fail
    go_region_held3 (fun W => W.cell? ⟨b, off + k * 2, none⟩ = some (.int .i64 l[k].g) ∧ W.cell? ⟨b, off + k * 2 + 1, none⟩ = some v1 ∧ W.cell? ⟨b, off + (k + 1) * 2, none⟩ = some (.int .i64 l[k + 1].g) ∧ W.cell? ⟨b, off + (k + 1) * 2 + 1, none⟩ = some v2)
     (first | (refine ⟨?_, ?_, ?_, ?_⟩ <;> go_simp <;> done) | exact hx1.k4 (by assumption) | exact ((ExtD.refl _).alloc _).k4 (by assumption))
     (first | (go_at_call 166; refine (hcmp _ extd).mono ?_; rintro e w1 ⟨rfl, hx1⟩))
    clear y1 y2
    go_wp2_with fail
    go_roundw
    case rel =>
     refine ⟨k + 1 + 1, by omega, .inr (by omega), by go_num, rfl, extd, fun j h hj => ?_⟩
     rcases Nat.lt_or_ge j k with h' | h'
     ·exact hz j h (by omega)
     ·obtain rfl : j = k := by omega
      exact HC.out
    case measure => simp [intOf]; omega
   ·have HC := Lib.hid (show isSetB l = false from by
     unfold isSetB
     have : incLb l = false := by
      cases h : incLb l with
      | false => rfl
      | true => exact absurd ((incLb_iff l).1 h k hlt) hc2
     rw [this]; rfl)
    have hd' : 0 ≤ cmpLb l[k] l[k + 1] := by omega
    clear hc2
    go_wp2_with fail
    go_region_held3 (fun W => W.cell? ⟨b, off + k * 2, none⟩ = some (.int .i64 l[k].g) ∧ W.cell? ⟨b, off + k * 2 + 1, none⟩ = some v1 ∧ W.cell? ⟨b, off + (k + 1) * 2, none⟩ = some (.int .i64 l[k + 1].g) ∧ W.cell? ⟨b, off + (k + 1) * 2 + 1, none⟩ = some v2)
     (first | (refine ⟨?_, ?_, ?_, ?_⟩ <;> go_simp <;> done) | exact hx1.k4 (by assumption) | exact ((ExtD.refl _).alloc _).k4 (by assumption))
     (first | (go_at_call 166; refine (hcmp _ extd).mono ?_; rintro e w1 ⟨rfl, hx1⟩))
    clear y1 y2
    go_wp2_with fail
    go_ret
    exact ⟨by rw [HC.out]; rfl, bel⟩
  ·have hinc : incLb l = true := (incLb_iff l).2 fun i hi => hz i hi (by omega)
   have hle := hcon wr hE.ext
   clear hz hcon
   by_cases h : l.length ≤ 64
   ·have HV := Lib.hid (show isSetB l = l.all okV from by simp [isSetB, h, hinc])
    clear hinc
    go_wp2_with fail
    refine hle.mono ?_
    rintro e w1 ⟨rfl, h1⟩
    go_wp2_with fail
    go_ret
    exact ⟨by rw [HV.out]; rfl, bel⟩
   ·have HV := Lib.hid (show isSetB l = false from by simp [isSetB, h])
    clear hinc
    go_wp2_with fail
    go_ret
    exact ⟨by rw [HV.out]; rfl, bel⟩

def isTestB (t : Te) : Bool := isTraceB t.tr && decide (0 < t.mu.length) && isSetB t.mu
def ckTe (t : Te) : Int := if isTestB t then 0 else 340
theorem CheckTest_c (S : Nat → Prop) (t : Te) (cs : List Value) (w : World) (hx : RTe S w t cs) :
  Calls Tryz.prog 45 #[.agg cs.toArray] w fun e w' => e = .returned (.int .i64 (ckTe t)) ∧ Ext w w' := by
 obtain ⟨v, u, rfl, hv, hu⟩ := id hx
 have h1 := fun W (hb : Ext w W) => isTrace_c S t.tr v W (RLbs.good.bel hv hb)
 have h2 := fun W (hb : Ext w W) => isSet_c S t.mu u W (RLbs.good.bel hu hb)
 obtain ⟨A, c, rfl, hc, hc0⟩ := hv.val
 obtain ⟨A', c', rfl, hc', hc0'⟩ := hu.val
 clear hx hv hu
 cases ha : isTraceB t.tr with
 | false =>
  have HV := Lib.hid (show ckTe t = 340 from by simp [ckTe, isTestB, ha])
  rw [ha] at h1
  clear ha
  go_enter Tryz.func45, Tryz.ntmps45
  go_wp2_with fail
  refine (h1 _ bel).mono ?_
  rintro e w1 ⟨rfl, hw1⟩
  go_wp2_with fail
  go_ret
  exact ⟨by rw [HV.out]; rfl, bel⟩
 | true =>
  rw [ha] at h1
  by_cases hz : 0 < t.mu.length
  ·have hz' : ((t.mu.length : Int) == 0) = false := beq_eq_false_iff_ne.2 (by omega)
   cases hb : isSetB t.mu with
   | false =>
    have HV := Lib.hid (show ckTe t = 340 from by simp [ckTe, isTestB, hb])
    rw [hb] at h2
    clear ha hb
    go_enter Tryz.func45, Tryz.ntmps45
    go_wp2_with fail
    refine (h1 _ bel).mono ?_
    rintro e w1 ⟨rfl, hw1⟩
    have hc1 := hw1.cells
    go_wp2_with fail
    refine (h2 _ bel).mono ?_
    rintro e w2 ⟨rfl, hw2⟩
    go_wp2_with fail
    go_ret
    exact ⟨by rw [HV.out]; rfl, bel⟩
   | true =>
    have HV := Lib.hid (show ckTe t = 0 from by simp [ckTe, isTestB, ha, hb, hz])
    rw [hb] at h2
    clear ha hb
    go_enter Tryz.func45, Tryz.ntmps45
    go_wp2_with fail
    refine (h1 _ bel).mono ?_
    rintro e w1 ⟨rfl, hw1⟩
    have hc1 := hw1.cells
    go_wp2_with fail
    refine (h2 _ bel).mono ?_
    rintro e w2 ⟨rfl, hw2⟩
    go_wp2_with fail
    go_ret
    exact ⟨by rw [HV.out]; rfl, bel⟩
  ·have HV := Lib.hid (show ckTe t = 340 from by simp [ckTe, isTestB, hz])
   have hz' : ((t.mu.length : Int) == 0) = true := beq_iff_eq.2 (by omega)
   clear ha
   go_enter Tryz.func45, Tryz.ntmps45
   go_wp2_with fail
   refine (h1 _ bel).mono ?_
   rintro e w1 ⟨rfl, hw1⟩
   have hc1 := hw1.cells
   go_wp2_with fail
   go_ret
   exact ⟨by rw [HV.out]; rfl, bel⟩
end
end Go.Proofs.YtegenalcheooeaaGreat
