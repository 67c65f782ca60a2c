/- Of the proof of a law of the suites: RSys, PMust. -/
import Derived.Test.YtegenalcheooeaaGreatB07
import Derived.Test.YtegenalcheooeaaGreatB23
import Derived.Test.YtegenalcheooeaaGreatB30
import Derived.Test.YtegenalcheooeaaGreatB31
import Derived.Test.YtegenalcheooeaaGreatB34
import Derived.Test.YtegenalcheooeaaGreatRA01
set_option linter.unusedSectionVars false
set_option linter.unusedSimpArgs false
set_option linter.unusedVariables false
namespace Go.Proofs.YtegenalcheooeaaGreat
open Go.RowKit
attribute [local go_sem] cell?_exto
section
set_option maxHeartbeats 4000000
set_option maxRecDepth 100000
/- The reference's Ahead, Is and Check of a transition system: walked. -/

theorem Ahead_c (S : Nat → Prop) (x y : Ed) (cx cy : List Value) (w : World) (hx : REd S w x cx) (hy : REd S w y cy) :
  Calls Tryz.prog 223 #[.agg cx.toArray, .agg cy.toArray] w fun e w' => e = .returned (.bool (decide (cmpEd x y < 0))) ∧ ExtD w w' := by
 obtain ⟨_, _, _, rfl⟩ := hx
 obtain ⟨_, _, _, rfl⟩ := hy
 have hmk := cmpEd_lt x y
 obtain ⟨xf, h⟩ : ∃ q, x.f = q := ⟨_, rfl⟩; rw [h] at hmk; rw [h]; clear h
 obtain ⟨xl, h⟩ : ∃ q, x.l = q := ⟨_, rfl⟩; rw [h] at hmk; rw [h]; clear h
 obtain ⟨xt, h⟩ : ∃ q, x.t = q := ⟨_, rfl⟩; rw [h] at hmk; rw [h]; clear h
 obtain ⟨yf, h⟩ : ∃ q, y.f = q := ⟨_, rfl⟩; rw [h] at hmk; rw [h]; clear h
 obtain ⟨yl, h⟩ : ∃ q, y.l = q := ⟨_, rfl⟩; rw [h] at hmk; rw [h]; clear h
 obtain ⟨yt, h⟩ : ∃ q, y.t = q := ⟨_, rfl⟩; rw [h] at hmk; rw [h]; clear h
 by_cases h1 : xf = yf
 rotate_left
 ·have hb : (xf != yf) = true := by simpa using h1
  have HV := Lib.hid (show decide (cmpEd x y < 0) = decide (xf < yf) from by
   by_cases h : xf < yf
   ·rw [decide_eq_true h, decide_eq_true (hmk.2 (.inl h))]
   ·rw [decide_eq_false h, decide_eq_false (fun h' => by rcases hmk.1 h' with h2 | ⟨h2, _⟩ <;> omega)])
  clear h1 hmk
  go_enter Tryz.func223, Tryz.ntmps223
  go_wp2_with fail
  go_ret
  exact ⟨by rw [HV.out]; rfl, extd⟩
 have hb : (xf != yf) = false := by simpa using h1
 by_cases h2 : xl = yl
 rotate_left
 ·have hb2 : (xl != yl) = true := by simpa using h2
  have HV := Lib.hid (show decide (cmpEd x y < 0) = decide (xl < yl) from by
   by_cases h : xl < yl
   ·rw [decide_eq_true h, decide_eq_true (hmk.2 (.inr ⟨h1, .inl h⟩))]
   ·rw [decide_eq_false h, decide_eq_false (fun h' => by rcases hmk.1 h' with h2 | ⟨h2, h3 | ⟨h3, _⟩⟩ <;> omega)])
  clear h1 h2 hmk
  go_enter Tryz.func223, Tryz.ntmps223
  go_wp2_with fail
  go_ret
  exact ⟨by rw [HV.out]; rfl, extd⟩
 have hb2 : (xl != yl) = false := by simpa using h2
 have HV := Lib.hid (show decide (cmpEd x y < 0) = decide (xt < yt) from by
  by_cases h : xt < yt
  ·rw [decide_eq_true h, decide_eq_true (hmk.2 (.inr ⟨h1, .inr ⟨h2, h⟩⟩))]
  ·rw [decide_eq_false h, decide_eq_false (fun h' => by rcases hmk.1 h' with h2 | ⟨h2, h3 | ⟨h3, h4⟩⟩ <;> omega)])
 clear h1 h2 hmk
 go_enter Tryz.func223, Tryz.ntmps223
 go_wp2_with fail
 go_ret
 exact ⟨by rw [HV.out]; rfl, extd⟩

noncomputable def okSyB (s : Sy) : Bool := @decide (okSyP s) (Classical.propDecidable _)
theorem okSyB_no {s : Sy} (h : ¬ okSyP s) : okSyB s = false := by unfold okSyB; exact @decide_eq_false _ (Classical.propDecidable _) h
theorem okSyB_yes {s : Sy} (h : okSyP s) : okSyB s = true := by unfold okSyB; exact @decide_eq_true _ (Classical.propDecidable _) h
theorem okEd_iff (s : Sy) (e : Ed) : okEd s e = true ↔ 0 ≤ e.f ∧ e.f < s.n ∧ 0 ≤ e.t ∧ e.t < s.n ∧ 0 ≤ e.l ∧ e.l < s.ls.length := by
 simp only [okEd, isB, Bool.and_eq_true, decide_eq_true_eq]
 omega

theorem Is17_c (S : Nat → Prop) (s : Sy) (cs : List Value) (w : World) (hx : RSy S w s cs) :
  Calls Tryz.prog 153 #[.agg cs.toArray] w fun e w' => e = .returned (.bool (okSyB s)) ∧ Ext w w' := by
 obtain ⟨_, v, u, rfl, hv, hu⟩ := id hx
 obtain ⟨A, c, rfl, hc, hc0⟩ := hv.val
 obtain ⟨A', c', rfl, hc', hc0'⟩ := hu.val
 have HL := Lib.hid hv
 have HE := Lib.hid hu
 clear hx hv hu
 obtain ⟨m, hm⟩ : ∃ m, s.n = m := ⟨_, rfl⟩
 rw [hm]
 by_cases b1 : 1 ≤ m
 rotate_left
 ·have HV := Lib.hid (okSyB_no (s := s) (fun h => b1 (hm ▸ h.1)))
  clear hm
  go_enter Tryz.func153, Tryz.ntmps153
  go_wp2_with fail
  go_ret
  exact ⟨by rw [HV.out]; rfl, bel⟩
 by_cases b2 : m ≤ 20000
 rotate_left
 ·have HV := Lib.hid (okSyB_no (s := s) (fun h => b2 (hm ▸ h.2.1)))
  clear hm
  go_enter Tryz.func153, Tryz.ntmps153
  go_wp2_with fail
  go_ret
  exact ⟨by rw [HV.out]; rfl, bel⟩
 by_cases b3 : s.ls.length ≤ 4000
 rotate_left
 ·have HV := Lib.hid (okSyB_no (s := s) (fun h => b3 h.2.2.1))
  clear hm
  go_enter Tryz.func153, Tryz.ntmps153
  go_wp2_with fail
  go_ret
  exact ⟨by rw [HV.out]; rfl, bel⟩
 by_cases b4 : s.es.length ≤ 100000
 rotate_left
 ·have HV := Lib.hid (okSyB_no (s := s) (fun h => b4 h.2.2.2.1))
  clear hm
  go_enter Tryz.func153, Tryz.ntmps153
  go_wp2_with fail
  go_ret
  exact ⟨by rw [HV.out]; rfl, bel⟩
 have b3' : (s.ls.length : Int) ≤ 4000 := by omega
 have b4' : (s.es.length : Int) ≤ 100000 := by omega
 have HM := Lib.hid hm
 clear hm
 obtain ⟨W0, hW0⟩ : ∃ W0, w.alloc (.cells #[.int .i64 m, .slice A s.ls.length c, .slice A' s.es.length c'] 25) = W0 := ⟨_, rfl⟩
 have hE0 : Ext w W0 := by rw [← hW0]; exact (Ext.refl w).alloc _
 have hB0 : BoxL W0 w.heap.size 25 [.int .i64 m, .slice A s.ls.length c, .slice A' s.es.length c'] := by rw [← hW0]; exact BoxL.new w 25 _
 have HB0 := Lib.hid hB0
 have HE0 := Lib.hid hE0
 obtain ⟨p0, hp0⟩ : ∃ p0, w.heap.size = p0 := ⟨_, rfl⟩
 rw [hp0] at HB0
 have HP0 := Lib.hid hp0
 have HW0 := Lib.hid hW0
 clear hE0 hB0 hp0 hW0
 go_enter Tryz.func153, Tryz.ntmps153
 go_wp2_with fail
 rw [HW0.out, HP0.out]
 go_loopw [3] (fun i wr => ∃ k : Nat, k ≤ s.ls.length ∧ i = .int .i64 k ∧ Ext W0 wr ∧ Hid (∀ j, j < k → okLbAt s.ls j)) (fun i _ => s.ls.length - (intOf i).toNat)
 case atStart => exact ⟨0, Nat.zero_le _, rfl, Ext.refl _, fun j hj => absurd hj (by omega)⟩
 case round =>
  obtain ⟨k, hk, rfl, hX, hz⟩ := hrel
  have hbx := HB0.out.ext hX
  have x1 := hbx.cell 1 _
  have xz := hbx.lt
  clear hbx
  by_cases hlt : k < s.ls.length
  ·obtain ⟨b, off, cs, rfl, hb, hS, hl, hr, hcell⟩ := (RLbs.good.bel HL.out (HE0.out.trans' hX)).get k hlt
   obtain ⟨_, v1, rfl, hv1⟩ := id hr
   have g0 := hcell.get 0 _
   have g1 := hcell.get 1 _
   simp only [Nat.add_zero] at g0
   have hck := IsLabel_c S _ _ wr hr
   clear hcell hl hS hv1
   cases ho : okLb s.ls[k] with
   | false =>
    have HV := Lib.hid (okSyB_no (s := s) (fun h => by have := (h.2.2.2.2.1 k hlt).1; rw [ho] at this; cases this))
    rw [ho] at hck
    clear ho hr
    go_wp2_with fail
    refine hck.mono ?_
    rintro e w1 ⟨rfl, h1⟩
    go_wp2_with fail
    go_ret
    exact ⟨by rw [HV.out]; rfl, (HE0.out.trans' hX).trans' h1⟩
   | true =>
    rw [ho] at hck
    rcases k with _ | k
    ·have HO := Lib.hid ho
     simp only [Nat.zero_mul, Nat.add_zero] at g0 g1
     clear ho hr
     go_wp2_with fail
     refine hck.mono ?_
     rintro e w1 ⟨rfl, h1⟩
     go_wp2_with fail
     (refine wp_region_ext (by kernel_rfl) (by kernel_rfl) ?_; (repeat (first | go_big_quiet_step ((fail)) | quiet_step ((fail)))); refine wpQuiet_nil ?_)
     intro w2 hx2
     go_wp2_with fail
     go_roundw
     case rel =>
      refine ⟨1, by omega, by go_num, (hX.trans' h1).trans' hx2, fun j hj h => ?_⟩
      obtain rfl : j = 0 := by omega
      exact ⟨HO.out, fun h0 => absurd h0 (by omega)⟩
     case measure => simp [intOf]; omega
    ·have hk0 : k < s.ls.length := by omega
     have z1 : (0 : Int) ≤ (k : Int) := by omega
     have z2 : ((k : Int) + 1) < (s.ls.length : Int) := by omega
     have z4 : (k : Int) < (s.ls.length : Int) := by omega
     have z5 : (0 : Int) < (k : Int) + 1 := by omega
     have HO := Lib.hid ho
     clear ho hr
     go_wp2_with fail
     refine hck.mono ?_
     rintro e w1 ⟨rfl, h1⟩
     clear g0 g1 x1
     have hbx := HB0.out.ext (hX.trans' h1)
     have x1 := hbx.cell 1 _
     have xz1 := hbx.lt
     clear hbx
     have hRL := RLbs.good.bel HL.out (HE0.out.trans' (hX.trans' h1))
     obtain ⟨b', off', cs', he, hb', hS', hl', hr', hcell'⟩ := hRL.get k hk0
     injection he with he
     injection he with he1 he2
     subst he1 he2
     obtain ⟨b', off', cs2, he, _, _, _, hr2, hcell2⟩ := hRL.get (k + 1) hlt
     injection he with he
     injection he with he1 he2
     subst he1 he2
     obtain ⟨_, v2, rfl, hv2⟩ := id hr'
     obtain ⟨_, v3, rfl, hv3⟩ := id hr2
     have g0 := hcell2.get 0 _
     have g1 := hcell2.get 1 _
     have g0' := hcell'.get 0 _
     have g1' := hcell'.get 1 _
     simp only [Nat.add_zero] at g0 g0'
     have hcmp := fun W (hW : Ext w1 W) => rCompareLabels_c S _ _ _ _ W (RLb.good.bel hr' hW) (RLb.good.bel hr2 hW)
     clear hRL hr' hr2 hcell' hcell2 hl' hS' hv2 hv3
     by_cases hc2 : cmpLb s.ls[k] s.ls[k + 1] < 0
     ·have HC := Lib.hid hc2
      have hd' : decide (0 ≤ cmpLb s.ls[k] s.ls[k + 1]) = false := by simp; omega
      clear hc2
      go_wp2_with fail
      (refine wp_region_ext (by kernel_rfl) (by kernel_rfl) ?_; (repeat (first | go_big_quiet_step ((go_at_call 172; exact quiet_extD (hcmp _ (exto_ext _ _)))) | quiet_step ((go_at_call 172; exact quiet_extD (hcmp _ (exto_ext _ _)))))); refine wpQuiet_nil ?_)
      intro w2 hx2
      go_wp2_with fail
      go_roundw
      case rel =>
       refine ⟨k + 1 + 1, by omega, by go_num, (hX.trans' h1).trans' hx2, fun j hj h => ?_⟩
       rcases Nat.lt_or_ge j (k + 1) with h' | h'
       ·exact hz j h' h
       ·obtain rfl : j = k + 1 := by omega
        exact ⟨HO.out, fun _ => HC.out⟩
      case measure => simp [intOf]; omega
     ·have HV := Lib.hid (okSyB_no (s := s) (fun h => hc2 ((h.2.2.2.2.1 (k + 1) hlt).2 (by omega))))
      have hd' : 0 ≤ cmpLb s.ls[k] s.ls[k + 1] := by omega
      clear hc2
      go_wp2_with fail
      (refine wp_region_ext (by kernel_rfl) (by kernel_rfl) ?_; (repeat (first | go_big_quiet_step ((go_at_call 172; exact quiet_extD (hcmp _ (exto_ext _ _)))) | quiet_step ((go_at_call 172; exact quiet_extD (hcmp _ (exto_ext _ _)))))); refine wpQuiet_nil ?_)
      intro w2 hx2
      go_wp2_with fail
      go_ret
      exact ⟨by rw [HV.out]; rfl, (HE0.out.trans' (hX.trans' h1)).trans' hx2⟩
  ·have hok : ∀ j, okLbAt s.ls j := fun j h => hz j (by omega) h
   have HOK := Lib.hid hok
   clear hok hz
   go_wp2_with fail
   obtain ⟨w7, hw7⟩ : ∃ w7, w7 = wr := ⟨_, rfl⟩
   rw [← hw7] at hX
   rw [← hw7]
   clear hw7 xz x1 hlt hk
   go_loopw [5] (fun i wr => ∃ k : Nat, k ≤ s.es.length ∧ i = .int .i64 k ∧ Ext W0 wr ∧ Hid (∀ j, j < k → okEdAt s j)) (fun i _ => s.es.length - (intOf i).toNat)
   case atStart => exact ⟨0, Nat.zero_le _, rfl, hX, fun j hj => absurd hj (by omega)⟩
   case round =>
    clear hX
    obtain ⟨k, hk, rfl, hX, hz⟩ := hrel
    have hbx := HB0.out.ext hX
    have x0 := hbx.cell 0 _
    have x1 := hbx.cell 1 _
    have x2 := hbx.cell 2 _
    have xz := hbx.lt
    clear hbx
    have hX2 : ∀ (o : Obj) (y : World), Ext wr (exto (wr.alloc o) y) := fun o y => ((Ext.refl wr).alloc o).trans' (exto_ext _ y)
    by_cases hlt : k < s.es.length
    ·obtain ⟨b, off, cs, rfl, hb, hS, hl, hr, hcell⟩ := (REds.good.bel HE.out (HE0.out.trans' hX)).get k hlt
     obtain ⟨_, _, _, rfl⟩ := id hr
     have g0 := hcell.get 0 _
     have g1 := hcell.get 1 _
     have g2 := hcell.get 2 _
     simp only [Nat.add_zero] at g0
     clear hcell hl hS
     by_cases hok : okEd s s.es[k] = true
     rotate_left
     ·have HV := Lib.hid (okSyB_no (s := s) (fun h => hok (h.2.2.2.2.2 k hlt).1))
      rw [okEd_iff, HM.out] at hok
      obtain ⟨q1, hq⟩ : ∃ q, s.es[k].f = q := ⟨_, rfl⟩; rw [hq] at hok g0; clear hq
      obtain ⟨q2, hq⟩ : ∃ q, s.es[k].l = q := ⟨_, rfl⟩; rw [hq] at hok g1; clear hq
      obtain ⟨q3, hq⟩ : ∃ q, s.es[k].t = q := ⟨_, rfl⟩; rw [hq] at hok g2; clear hq
      clear hr
      have hfin : ∀ b' : Bool, b' = false → (Ending.returned (.bool b')) = .returned (.bool (okSyB s)) := fun b' h => by rw [HV.out, h]
      by_cases c1 : 0 ≤ q1
      rotate_left
      ·clear hok
       go_wp2_with fail
       go_ret
       exact ⟨by rw [HV.out]; rfl, (HE0.out.trans' hX).trans' bel⟩
      by_cases c2 : q1 < m
      rotate_left
      ·clear hok
       go_wp2_with fail
       go_ret
       exact ⟨by rw [HV.out]; rfl, (HE0.out.trans' hX).trans' bel⟩
      by_cases c3 : 0 ≤ q3
      rotate_left
      ·clear hok
       go_wp2_with fail
       go_ret
       exact ⟨by rw [HV.out]; rfl, (HE0.out.trans' hX).trans' bel⟩
      by_cases c4 : q3 < m
      rotate_left
      ·clear hok
       go_wp2_with fail
       go_ret
       exact ⟨by rw [HV.out]; rfl, (HE0.out.trans' hX).trans' bel⟩
      by_cases c5 : 0 ≤ q2
      rotate_left
      ·clear hok
       go_wp2_with fail
       go_ret
       exact ⟨by rw [HV.out]; rfl, (HE0.out.trans' hX).trans' bel⟩
      have c6 : ¬ q2 < s.ls.length := fun h => hok ⟨c1, c2, c3, c4, c5, h⟩
      clear hok
      go_wp2_with fail
      go_ret
      exact ⟨by rw [HV.out]; rfl, (HE0.out.trans' hX).trans' bel⟩
     have HO := Lib.hid hok
     rw [okEd_iff, HM.out] at hok
     obtain ⟨c1, c2, c3, c4, c5, c6⟩ := hok
     rcases k with _ | k
     ·simp only [Nat.zero_mul, Nat.add_zero] at g0 g1 g2
      clear hr
      go_wp2_with fail
      (refine wp_region_ext (by kernel_rfl) (by kernel_rfl) ?_; (repeat (first | go_big_quiet_step ((fail)) | quiet_step ((fail)))); refine wpQuiet_nil ?_)
      intro w1 hx1
      go_wp2_with fail
      go_roundw
      case rel =>
       refine ⟨1, by omega, by go_num, hX.trans' bel, fun j hj h => ?_⟩
       obtain rfl : j = 0 := by omega
       exact ⟨HO.out, fun h0 => absurd h0 (by omega)⟩
      case measure => simp [intOf]; omega
     ·have hk0 : k < s.es.length := by omega
      obtain ⟨b', off', cs', he, hb', hS', hl', hr', hcell'⟩ := (REds.good.bel HE.out (HE0.out.trans' hX)).get k hk0
      injection he with he
      injection he with he1 he2
      subst he1 he2
      obtain ⟨_, _, _, rfl⟩ := id hr'
      have g0' := hcell'.get 0 _
      have g1' := hcell'.get 1 _
      have g2' := hcell'.get 2 _
      simp only [Nat.add_zero] at g0'
      have hcmp := fun W (hW : Ext wr W) => Ahead_c S _ _ _ _ W (REd.good.bel hr' hW) (REd.good.bel hr hW)
      have z1 : (0 : Int) ≤ (k : Int) := by omega
      have z2 : ((k : Int) + 1) < (s.es.length : Int) := by omega
      have z4 : (k : Int) < (s.es.length : Int) := by omega
      have z5 : (0 : Int) < (k : Int) + 1 := by omega
      clear hr hr' hcell' hl' hS'
      by_cases hc2 : cmpEd s.es[k] s.es[k + 1] < 0
      ·have HC := Lib.hid hc2
       rw [decide_eq_true hc2] at hcmp
       clear hc2
       go_wp2_with fail
       (refine wp_region_ext (by kernel_rfl) (by kernel_rfl) ?_; (repeat (first | go_big_quiet_step ((go_at_call 223; exact quiet_extD (hcmp _ (hX2 _ _)))) | quiet_step ((go_at_call 223; exact quiet_extD (hcmp _ (hX2 _ _)))))); refine wpQuiet_nil ?_)
       intro w1 hx1
       go_wp2_with fail
       go_roundw
       case rel =>
        refine ⟨k + 1 + 1, by omega, by go_num, hX.trans' bel, fun j hj h => ?_⟩
        rcases Nat.lt_or_ge j (k + 1) with h' | h'
        ·exact hz j h' h
        ·obtain rfl : j = k + 1 := by omega
         exact ⟨HO.out, fun _ => HC.out⟩
       case measure => simp [intOf]; omega
      ·have HV := Lib.hid (okSyB_no (s := s) (fun h => hc2 ((h.2.2.2.2.2 (k + 1) hlt).2 (by omega))))
       rw [decide_eq_false hc2] at hcmp
       clear hc2
       go_wp2_with fail
       (refine wp_region_ext (by kernel_rfl) (by kernel_rfl) ?_; (repeat (first | go_big_quiet_step ((go_at_call 223; exact quiet_extD (hcmp _ (hX2 _ _)))) | quiet_step ((go_at_call 223; exact quiet_extD (hcmp _ (hX2 _ _)))))); refine wpQuiet_nil ?_)
       intro w1 hx1
       go_wp2_with fail
       go_ret
       exact ⟨by rw [HV.out]; rfl, (HE0.out.trans' hX).trans' bel⟩
    ·have HV := Lib.hid (okSyB_yes (s := s) ⟨by rw [HM.out]; exact b1, by rw [HM.out]; exact b2, b3, b4, HOK.out, fun j h => hz j (by omega) h⟩)
     clear hz
     go_wp2_with fail
     go_ret
     exact ⟨by rw [HV.out]; rfl, HE0.out.trans' hX⟩
theorem ckSy_okSyB (s : Sy) : ckSy s = if okSyB s = true then 0 else 8 := by
 by_cases h : okSyP s
 ·rw [ckSy_yes h, okSyB_yes h]; rfl
 ·rw [ckSy_no h, okSyB_no h]; rfl
theorem Check17_c (S : Nat → Prop) (s : Sy) (cs : List Value) (w : World) (hx : RSy S w s cs) :
  Calls Tryz.prog 83 #[.agg cs.toArray] w fun e w' => e = .returned (.int .i64 (ckSy s)) ∧ Ext w w' := by
 have hc1 := fun W (hb : Ext w W) => Is17_c S s cs W (RSy.good.bel hx hb)
 obtain ⟨_, v, u, rfl, hv, hu⟩ := id hx
 obtain ⟨A, c, rfl, hc, hc0⟩ := hv.val
 obtain ⟨A', c', rfl, hc', hc0'⟩ := hu.val
 clear hx hv hu
 have HA := Lib.hid (ckSy_okSyB s)
 cases hb : okSyB s
 all_goals
  rw [hb] at hc1 HA
  simp only [if_true, Bool.false_eq_true, if_false] at HA
  clear hb
  go_enter Tryz.func83, Tryz.ntmps83
  go_wp2_with fail
  refine (hc1 _ bel).mono ?_
  rintro e w1 ⟨rfl, h1⟩
  go_wp2_with fail
  go_ret
  exact ⟨by rw [HA.out]; rfl, bel⟩
end
section

/-! ### Sets of labels -/
def Inc (l : List Lb) : Prop := l.Pairwise fun a b => cmpLb a b < 0
theorem Inc.of_get {l : List Lb} (h : ∀ i, (hi : i + 1 < l.length) → cmpLb l[i] l[i + 1] < 0) : Inc l := by
 induction l with
 | nil => exact List.Pairwise.nil
 | cons a r ih =>
  have hr : Inc r := ih fun i hi => h (i + 1) (by simpa using hi)
  refine List.pairwise_cons.2 ⟨fun b hb => ?_, hr⟩
  cases r with
  | nil => simp at hb
  | cons c r =>
   have h0 : cmpLb a c < 0 := h 0 (by simp)
   rcases List.mem_cons.1 hb with rfl | hb
   ·exact h0
   ·exact ordLb.trans _ _ _ h0 ((List.pairwise_cons.1 hr).1 b hb)
theorem Inc.get {l : List Lb} (h : Inc l) {i j : Nat} (hij : i < j) (hj : j < l.length) : cmpLb (l[i]'(by omega)) l[j] < 0 := List.pairwise_iff_getElem.1 h i j (by omega) hj hij
theorem inc_iff (l : List Lb) : incLb l = true ↔ Inc l := ⟨fun h => Inc.of_get ((incLb_iff l).1 h), fun h => (incLb_iff l).2 fun i hi => h.get (Nat.lt_succ_self i) hi⟩
theorem cmpLb_irr (x : Lb) : ¬ cmpLb x x < 0 := by have := ordLb.refl x; omega
theorem Inc.nodup {l : List Lb} (h : Inc l) : l.Nodup := List.Pairwise.imp (fun {a b} h e => by subst e; exact cmpLb_irr _ h) h
theorem bsI_spec (p : Nat → Bool) (n : Nat) (hm : ∀ a b, a ≤ b → p b = true → p a = true) : ∀ (f i j : Nat), i ≤ j → j - i ≤ f → (∀ k, k < i → p k = true) → (∀ k, j ≤ k → p k = false) → (∀ k, k < bsI p f i j → p k = true) ∧ ∀ k, bsI p f i j ≤ k → p k = false
 | 0, i, j, hij, hf, h1, h2 => by
  rw [bsI]
  exact ⟨h1, fun k hk => h2 k (by omega)⟩
 | f + 1, i, j, hij, hf, h1, h2 => by
  rw [bsI]
  split
  ·split
   ·rename_i hp
    exact bsI_spec p n hm f _ j (by omega) (by omega) (fun k hk => hm k _ (by omega) hp) h2
   ·rename_i hp
    refine bsI_spec p n hm f i _ (by omega) (by omega) h1 fun k hk => ?_
    cases hpk : p k
    ·rfl
    ·exact absurd (hm _ k hk hpk) hp
  ·exact ⟨h1, fun k hk => h2 k (by omega)⟩
theorem bsP_mono {l : List Lb} (h : Inc l) (x : Lb) (a b : Nat) (hab : a ≤ b) (hb : bsP l x b = true) : bsP l x a = true := by
 by_cases hl : b < l.length
 ·rw [bsP_at hl, decide_eq_true_eq] at hb
  rw [bsP_at (by omega), decide_eq_true_eq]
  by_cases e : a = b
  ·subst e; exact hb
  ·exact ordLb.trans _ _ _ (h.get (by omega) hl) hb
 ·simp [bsP, List.getElem?_eq_none (Nat.le_of_not_lt hl)] at hb
theorem bsLb_spec {l : List Lb} (h : Inc l) (x : Lb) : (∀ k, k < bsLb l x → bsP l x k = true) ∧ ∀ k, bsLb l x ≤ k → bsP l x k = false :=
 bsI_spec _ 0 (bsP_mono h x) l.length 0 l.length (Nat.zero_le _) (by omega) (fun k hk => absurd hk (by omega)) fun k hk => by simp [bsP, List.getElem?_eq_none hk]
theorem inLb_iff {l : List Lb} (h : Inc l) (x : Lb) : inLb x l = true ↔ x ∈ l := by
 have hs := bsLb_spec h x
 constructor
 ·intro hi
  by_cases hb : bsLb l x < l.length
  ·rw [inLb, isAt_at hb, decide_eq_true_eq] at hi
   rw [← ordLb.eq _ _ hi]
   exact List.getElem_mem hb
  ·rw [inLb, isAt_end hb] at hi
   cases hi
 ·intro hx
  obtain ⟨i, hi, rfl⟩ := List.mem_iff_getElem.1 hx
  have e : bsLb l l[i] = i := by
   refine Nat.le_antisymm (Nat.le_of_not_lt fun hlt => ?_) (Nat.le_of_not_lt fun hlt => ?_)
   ·have := hs.1 i hlt
    rw [bsP_at hi, decide_eq_true_eq] at this
    exact cmpLb_irr _ this
   ·have := hs.2 _ (Nat.le_refl _)
    rw [bsP_at (by omega), decide_eq_false_iff_not] at this
    exact this (h.get hlt hi)
  rw [inLb, e, isAt_at hi, decide_eq_true_eq]
  exact ordLb.refl _
theorem Inc.sub {l m : List Lb} (h : Inc l) (hs : m.Sublist l) : Inc m := List.Pairwise.sublist hs h
/-- A set in another one is a part of it as a list. -/
theorem Inc.sublist : ∀ {b a : List Lb}, Inc a → Inc b → (∀ x ∈ a, x ∈ b) → a.Sublist b
 | [], a, _, _, h => by
  cases a with
  | nil => exact List.Sublist.refl _
  | cons x a => exact absurd (h x (by simp)) (by simp)
 | y :: b, [], _, _, _ => List.nil_sublist _
 | y :: b, x :: a, ha, hb, h => by
  have ha' := List.pairwise_cons.1 ha
  have hb' := List.pairwise_cons.1 hb
  by_cases e : x = y
  ·subst e
   refine List.Sublist.cons_cons _ (Inc.sublist ha'.2 hb'.2 fun z hz => ?_)
   rcases List.mem_cons.1 (h z (List.mem_cons_of_mem _ hz)) with rfl | hz'
   ·exact absurd (ha'.1 _ hz) (cmpLb_irr _)
   ·exact hz'
  ·refine List.Sublist.cons _ (Inc.sublist ha hb'.2 fun z hz => ?_)
   rcases List.mem_cons.1 (h z hz) with rfl | hz'
   ·exfalso
    have hx : x ∈ b := by
     rcases List.mem_cons.1 (h x (by simp)) with hx | hx
     ·exact absurd hx e
     ·exact hx
    rcases List.mem_cons.1 hz with hz | hz
    ·exact e hz.symm
    ·exact cmpLb_irr _ (ordLb.trans _ _ _ (ha'.1 _ hz) (hb'.1 _ hx))
   ·exact hz'
theorem subB_iff {a b : List Lb} (hb : Inc b) : subB a b = true ↔ ∀ x ∈ a, x ∈ b := by
 unfold subB
 rw [Bool.not_eq_true', List.any_eq_false]
 refine forall_congr' fun x => forall_congr' fun _ => ?_
 rw [← inLb_iff hb x]
 cases inLb x b <;> simp
theorem comB_iff {a b : List Lb} (hb : Inc b) : comB a b = true ↔ ∃ x ∈ a, x ∈ b := by
 unfold comB
 rw [List.any_eq_true]
 exact exists_congr fun x => and_congr_right fun _ => inLb_iff hb x
theorem addL_mem_iff (l : List Lb) (x y : Lb) : y ∈ addL l x ↔ y ∈ l ∨ y = x := by
 refine ⟨addL_mem l x y, fun h => ?_⟩
 rw [addL]
 rcases h with h | rfl
 ·rw [← List.take_append_drop (bsLb l x) l] at h
  rcases List.mem_append.1 h with h | h
  ·simp [h]
  ·simp [h]
 ·simp
theorem addL_inc {l : List Lb} (h : Inc l) (x : Lb) (hx : x ∉ l) : Inc (addL l x) := by
 have hs := bsLb_spec h x
 have hlt : ∀ y ∈ l.take (bsLb l x), cmpLb y x < 0 := fun y hy => by
  obtain ⟨i, hi, rfl⟩ := List.mem_iff_getElem.1 hy
  rw [List.length_take] at hi
  have := hs.1 i (by omega)
  rw [bsP_at (by omega), decide_eq_true_eq] at this
  rw [List.getElem_take]
  exact this
 have hgt : ∀ y ∈ l.drop (bsLb l x), cmpLb x y < 0 := fun y hy => by
  have hyl := List.mem_of_mem_drop hy
  obtain ⟨i, hi, rfl⟩ := List.mem_iff_getElem.1 hy
  rw [List.length_drop] at hi
  have := hs.2 (bsLb l x + i) (by omega)
  rw [bsP_at (by omega), decide_eq_false_iff_not] at this
  rw [List.getElem_drop] at hyl ⊢
  have h2 := (ordLb.sgn x (l[bsLb l x + i]'(by omega)))
  have h3 : cmpLb (l[bsLb l x + i]'(by omega)) x ≠ 0 := fun e => hx (ordLb.eq _ _ e ▸ hyl)
  omega
 refine List.pairwise_append.2 ⟨List.pairwise_append.2 ⟨h.sub (List.take_sublist _ _), List.pairwise_singleton _ _, fun a ha b hb => ?_⟩, h.sub (List.drop_sublist _ _), fun a ha b hb => ?_⟩
 ·rw [List.mem_singleton.1 hb]
  exact hlt a ha
 ·rcases List.mem_append.1 ha with ha | ha
  ·exact ordLb.trans _ _ _ (hlt a ha) (hgt b hb)
  ·rw [List.mem_singleton.1 ha]
   exact hgt b hb

/-! ### Sorted and compacted -/
section
variable {α : Type} {cf : α → α → Int} {eq : α → α → Bool}
theorem compGo_all (he : ∀ x y, eq x y = true ↔ x = y) : ∀ (ys : List α) (p x : α), (x = p ∨ x ∈ compGo eq p ys) ↔ x ∈ p :: ys
 | [], p, x => by simp [compGo]
 | y :: ys, p, x => by
  have ih := compGo_all he ys y x
  rw [compGo]
  by_cases h : eq y p = true
  ·have e := (he y p).1 h
   subst e
   rw [if_pos h, ih]
   simp
  ·rw [if_neg h, List.mem_cons, ih, List.mem_cons, List.mem_cons, List.mem_cons]
theorem compactB_iff (he : ∀ x y, eq x y = true ↔ x = y) (l : List α) (x : α) : x ∈ compactB eq l ↔ x ∈ l := by
 cases l with
 | nil => rw [compactB]
 | cons p ys => rw [compactB, List.mem_cons, compGo_all he]
theorem compGo_srt (h : Ord3 cf) (he : ∀ x y, eq x y = true ↔ x = y) : ∀ (ys : List α) (p : α), Srt cf (p :: ys) → (p :: compGo eq p ys).Pairwise fun a b => cf a b < 0
 | [], p, _ => by rw [compGo]; exact List.pairwise_singleton _ _
 | y :: ys, p, hs => by
  have hs' := List.pairwise_cons.1 hs
  have ih := compGo_srt h he ys y hs'.2
  rw [compGo]
  by_cases e : eq y p = true
  ·rw [if_pos e]
   have e' := (he y p).1 e
   subst e'
   exact ih
  ·rw [if_neg e]
   have hpy : cf p y < 0 := by
    have h1 := hs'.1 y (by simp)
    have h2 : cf p y ≠ 0 := fun h0 => e ((he y p).2 (h.eq p y h0).symm)
    omega
   refine List.pairwise_cons.2 ⟨fun z hz => ?_, ih⟩
   rcases List.mem_cons.1 hz with rfl | hz
   ·exact hpy
   ·exact h.trans _ _ _ hpy ((List.pairwise_cons.1 ih).1 z hz)
theorem compactB_srt (h : Ord3 cf) (he : ∀ x y, eq x y = true ↔ x = y) (l : List α) (hs : Srt cf l) : (compactB eq l).Pairwise fun a b => cf a b < 0 := by
 cases l with
 | nil => exact List.Pairwise.nil
 | cons p ys => exact compGo_srt h he ys p hs
end
theorem eqSets_iff (x y : List Lb) : eqSets x y = true ↔ x = y := by unfold eqSets; rw [decide_eq_true_eq]; exact ordS.iff x y
theorem sc_mem (l : List (List Lb)) (x : List Lb) : x ∈ cmpctS (sortS l) ↔ x ∈ l := (compactB_iff eqSets_iff _ x).trans (sortB_mem l x)
theorem sc_nodup (l : List (List Lb)) : (cmpctS (sortS l)).Nodup := List.Pairwise.imp (fun {a b} h e => by subst e; have := ordS.refl a; omega) (compactB_srt ordS eqSets_iff _ (sortB_srt ordS l))

/-! ### Must sets -/
/-- The least sets that have a label in common with each one of some others. -/
structure MOK (pre : List Lb → Prop) (ls : List (List Lb)) : Prop where
 inc : ∀ m ∈ ls, Inc m
 hit : ∀ m ∈ ls, ∀ a, pre a → ∃ x ∈ m, x ∈ a
 cov : ∀ S : Lb → Prop, (∀ a, pre a → ∃ x ∈ a, S x) → ∃ m ∈ ls, ∀ x ∈ m, S x
 anti : ∀ a ∈ ls, ∀ b ∈ ls, (∀ x ∈ a, x ∈ b) → a = b
 nodup : ls.Nodup
 own : ∀ m ∈ ls, ∀ x ∈ m, ∃ a, pre a ∧ x ∈ a
theorem smaller_iff {a b : List Lb} (ha : Inc a) : smaller a b = true ↔ b.length < a.length ∧ ∀ x ∈ b, x ∈ a := by
 rw [smaller, Bool.and_eq_true, decide_eq_true_eq, subB_iff ha]
theorem mok_step {pre : List Lb → Prop} {ls : List (List Lb)} (h : MOK pre ls) (a : List Lb) (ha : Inc a) : MOK (fun b => pre b ∨ b = a) (leastS (nextS ls a)) := by
 have hn : ∀ m, m ∈ nextS ls a ↔ ∃ m0 ∈ ls, m ∈ stepRow a m0 := fun m => by rw [nextS, sc_mem, nextRaw, List.mem_flatMap]
 have hstep : ∀ m0 ∈ ls, ∀ m, m ∈ stepRow a m0 → (m = m0 ∧ ∃ x ∈ m0, x ∈ a) ∨ ∃ x ∈ a, x ∉ m0 ∧ m = addL m0 x := fun m0 hm0 m hm => by
  rw [stepRow] at hm
  split at hm
  ·rename_i hc
   exact .inl ⟨List.mem_singleton.1 hm, (comB_iff ha).1 hc⟩
  ·rename_i hc
   obtain ⟨x, hx, rfl⟩ := List.mem_map.1 hm
   exact .inr ⟨x, hx, fun hx2 => hc ((comB_iff ha).2 ⟨x, hx2, hx⟩), rfl⟩
 have hinc : ∀ m ∈ nextS ls a, Inc m := fun m hm => by
  obtain ⟨m0, hm0, hm⟩ := (hn m).1 hm
  rcases hstep m0 hm0 m hm with ⟨rfl, _⟩ | ⟨x, hx, hx2, rfl⟩
  ·exact h.inc _ hm0
  ·exact addL_inc (h.inc _ hm0) x hx2
 have hlc : ∀ m, m ∈ leastS (nextS ls a) ↔ m ∈ nextS ls a ∧ ∀ b ∈ nextS ls a, ¬ (b.length < m.length ∧ ∀ x ∈ b, x ∈ m) := fun m => by
  rw [leastS, leastOf, List.mem_filter, sc_mem]
  refine and_congr_right fun hm => ?_
  rw [Bool.not_eq_true', List.any_eq_false]
  refine forall_congr' fun b => ?_
  rw [sc_mem]
  refine forall_congr' fun hb => ?_
  rw [smaller_iff (hinc m hm)]
 refine ⟨fun m hm => hinc m ((hlc m).1 hm).1, fun m hm b hb => ?_, fun S hS => ?_, fun b hb c hc hbc => ?_, (sc_nodup _).sublist List.filter_sublist, fun m hm x hx => ?_⟩
 ·obtain ⟨m0, hm0, hm1⟩ := (hn m).1 ((hlc m).1 hm).1
  rcases hstep m0 hm0 m hm1 with ⟨rfl, hc⟩ | ⟨x, hx, hx2, rfl⟩
  ·rcases hb with hb | rfl
   ·exact h.hit _ hm0 b hb
   ·exact hc
  ·rcases hb with hb | rfl
   ·obtain ⟨y, hy, hyb⟩ := h.hit _ hm0 b hb
    exact ⟨y, (addL_mem_iff _ _ _).2 (.inl hy), hyb⟩
   ·exact ⟨x, (addL_mem_iff _ _ _).2 (.inr rfl), hx⟩
 ·have go : ∀ (n : Nat) (m : List Lb), m.length ≤ n → m ∈ nextS ls a → (∀ x ∈ m, S x) → ∃ m' ∈ leastS (nextS ls a), ∀ x ∈ m', S x := by
   intro n
   induction n with
   | zero =>
    intro m hml hm hmS
    exact ⟨m, (hlc m).2 ⟨hm, fun b hb hx => by omega⟩, hmS⟩
   | succ n ih =>
    intro m hml hm hmS
    by_cases hx : ∃ b ∈ nextS ls a, b.length < m.length ∧ ∀ x ∈ b, x ∈ m
    ·obtain ⟨b, hb, hbl, hbm⟩ := hx
     exact ih b (by omega) hb fun x hx => hmS x (hbm x hx)
    ·exact ⟨m, (hlc m).2 ⟨hm, fun b hb hbx => hx ⟨b, hb, hbx⟩⟩, hmS⟩
  obtain ⟨m0, hm0, hmS⟩ := h.cov S fun b hb => hS b (.inl hb)
  by_cases hc : comB m0 a = true
  ·exact go m0.length m0 (Nat.le_refl _) ((hn m0).2 ⟨m0, hm0, by rw [stepRow, if_pos hc]; simp⟩) hmS
  ·obtain ⟨x, hx, hxS⟩ := hS a (.inr rfl)
   refine go _ (addL m0 x) (Nat.le_refl _) ((hn _).2 ⟨m0, hm0, by rw [stepRow, if_neg hc]; exact List.mem_map.2 ⟨x, hx, rfl⟩⟩) fun y hy => ?_
   rcases (addL_mem_iff _ _ _).1 hy with hy | rfl
   ·exact hmS y hy
   ·exact hxS
 ·have hb' := (hlc b).1 hb
  have hc' := (hlc c).1 hc
  by_cases hl : b.length < c.length
  ·exact absurd ⟨hl, hbc⟩ (hc'.2 b hb'.1)
  ·exact (Inc.sublist (hinc b hb'.1) (hinc c hc'.1) hbc).eq_of_length_le (by omega)
 ·obtain ⟨m0, hm0, hm1⟩ := (hn m).1 ((hlc m).1 hm).1
  rcases hstep m0 hm0 m hm1 with ⟨rfl, _⟩ | ⟨y, hy, _, rfl⟩
  ·obtain ⟨b, hb, hxb⟩ := h.own _ hm0 x hx
   exact ⟨b, .inl hb, hxb⟩
  ·rcases (addL_mem_iff _ _ _).1 hx with hx | rfl
   ·obtain ⟨b, hb, hxb⟩ := h.own _ hm0 x hx
    exact ⟨b, .inl hb, hxb⟩
   ·exact ⟨a, .inr rfl, hy⟩
theorem MOK.congr {p q : List Lb → Prop} {ls : List (List Lb)} (h : MOK p ls) (e : ∀ a, p a ↔ q a) : MOK q ls := by
 have : p = q := funext fun a => propext (e a)
 exact this ▸ h
theorem mustsGo_ok : ∀ (bs ls r : List (List Lb)) (pre : List Lb → Prop), (∀ a ∈ bs, Inc a) → MOK pre ls → mustsGo bs ls = some r → MOK (fun b => pre b ∨ b ∈ bs) r
 | [], ls, r, pre, _, h, e => by
  rw [mustsGo] at e
  injection e with e
  subst e
  exact h.congr fun a => by simp
 | a :: bs, ls, r, pre, hb, h, e => by
  rw [mustsGo] at e
  split at e
  ·cases e
  ·exact (mustsGo_ok bs _ r _ (fun b hb' => hb b (List.mem_cons_of_mem _ hb')) (mok_step h a (hb a (by simp))) e).congr fun b => by simp [or_assoc]
theorem mok_nil : MOK (fun _ => False) [[]] := {
 inc := fun m hm => by rw [List.mem_singleton.1 hm]; exact List.Pairwise.nil
 hit := fun _ _ _ h => h.elim
 cov := fun S _ => ⟨[], by simp, by simp⟩
 anti := fun a ha b hb _ => by rw [List.mem_singleton.1 ha, List.mem_singleton.1 hb]
 nodup := by simp
 own := fun m hm x hx => by rw [List.mem_singleton.1 hm] at hx; simp at hx }
theorem okSy_inc {s : Sy} (h : okSyP s) : Inc s.ls := Inc.of_get fun i hi => by
 have := (h.2.2.2.2.1 (i + 1) hi).2 (by omega)
 simpa using this
theorem accFrom_sub (p : Int → Bool) : ∀ (i : Nat) (xs : List Lb), (accFrom p i xs).Sublist xs
 | _, [] => List.Sublist.refl _
 | i, x :: xs => by
  rw [accFrom]
  split
  ·exact (accFrom_sub p (i + 1) xs).cons_cons x
  ·exact (accFrom_sub p (i + 1) xs).cons x
theorem accFrom_iff (p : Int → Bool) (x : Lb) : ∀ (i : Nat) (xs : List Lb), x ∈ accFrom p i xs ↔ ∃ k, ∃ h : k < xs.length, xs[k] = x ∧ p ((i + k : Nat) : Int) = true
 | i, [] => by simp [accFrom]
 | i, y :: xs => by
  have ih := accFrom_iff p x (i + 1) xs
  have hx : (x ∈ accFrom p (i + 1) xs) ↔ ∃ k, ∃ h : k + 1 < (y :: xs).length, (y :: xs)[k + 1] = x ∧ p ((i + (k + 1) : Nat) : Int) = true := by
   rw [ih]
   refine exists_congr fun k => ?_
   constructor
   ·rintro ⟨h, e, hp⟩
    exact ⟨by simpa using h, by simpa using e, by rw [show i + (k + 1) = i + 1 + k by omega]; exact hp⟩
   ·rintro ⟨h, e, hp⟩
    exact ⟨by simpa using h, by simpa using e, by rw [show i + 1 + k = i + (k + 1) by omega]; exact hp⟩
  rw [accFrom]
  constructor
  ·intro h
   split at h
   ·rename_i hp
    rcases List.mem_cons.1 h with rfl | h
    ·exact ⟨0, by simp, rfl, by simpa using hp⟩
    ·obtain ⟨k, hk, e, hp⟩ := hx.1 h
     exact ⟨k + 1, hk, e, hp⟩
   ·obtain ⟨k, hk, e, hp⟩ := hx.1 h
    exact ⟨k + 1, hk, e, hp⟩
  ·rintro ⟨k, hk, e, hp⟩
   cases k with
   | zero =>
    have hp' : p (i : Int) = true := by simpa using hp
    have e' : y = x := e
    rw [if_pos hp', e']
    exact List.mem_cons_self ..
   | succ k =>
    have := hx.2 ⟨k, hk, e, hp⟩
    split
    ·exact List.mem_cons_of_mem _ this
    ·exact this
theorem accL_inc {s : Sy} (h : okSyP s) (t : Int) : Inc (accL s t) := (okSy_inc h).sub (accFrom_sub _ _ _)
/-- What a state accepts. -/
theorem accL_iff (s : Sy) (t : Int) (x : Lb) : x ∈ accL s t ↔ ∃ k, ∃ h : k < s.ls.length, s.ls[k] = x ∧ visB x.g = true ∧ ∃ st ∈ calmL s [t], ∃ j ∈ outN s.es st, s.es[j].l = (k : Int) := by
 rw [accL, accFrom_iff]
 refine exists_congr fun k => exists_congr fun h => ?_
 constructor
 ·rintro ⟨e, hp⟩
  rw [Nat.zero_add, metGo, List.any_eq_true] at hp
  obtain ⟨st, hst, hp⟩ := hp
  obtain ⟨j, hj, hp⟩ := List.any_eq_true.1 hp
  rw [edHas, Bool.and_eq_true, decide_eq_true_eq] at hp
  have hv := hp.2
  rw [lbHas_at s _ hp.1 h] at hv
  exact ⟨e, by rw [← e]; exact hv, st, hst, j, hj, hp.1⟩
 ·rintro ⟨e, hv, st, hst, j, hj, hl⟩
  refine ⟨e, ?_⟩
  rw [Nat.zero_add, metGo, List.any_eq_true]
  refine ⟨st, hst, List.any_eq_true.2 ⟨j, hj, ?_⟩⟩
  rw [edHas, Bool.and_eq_true, decide_eq_true_eq, lbHas_at s _ hl h, e]
  exact ⟨hl, hv⟩
theorem accL_okV {s : Sy} (h : okSyP s) (t : Int) (x : Lb) (hx : x ∈ accL s t) : okV x = true := by
 obtain ⟨k, hk, e, hv, _⟩ := (accL_iff s t x).1 hx
 have := (h.2.2.2.2.1 k hk).1
 rw [e] at this
 rw [okV, this, hv]
 rfl
theorem refB_iff {s : Sy} (sts : List Int) {l : List Lb} (hl : Inc l) : refB s sts l = false ↔ ∀ t ∈ sts, ∃ x ∈ accL s t, x ∈ l := by
 unfold refB
 rw [List.any_eq_false]
 refine forall_congr' fun t => forall_congr' fun _ => ?_
 rw [← comB_iff hl]
 cases comB (accL s t) l <;> simp
theorem mustsL_ok {s : Sy} (h : okSyP s) {sts : List Int} {r : List (List Lb)} (e : mustsL s sts = some r) (hs : sts ≠ []) : MOK (fun a => ∃ t ∈ sts, a = accL s t) r := by
 rw [mustsL, if_neg hs] at e
 have hm : ∀ a, a ∈ cmpctS (sortS (sts.map (accL s))) ↔ ∃ t ∈ sts, a = accL s t := fun a => by
  rw [sc_mem, List.mem_map]
  exact exists_congr fun t => and_congr_right fun _ => eq_comm
 refine (mustsGo_ok _ _ r _ (fun a ha => ?_) mok_nil e).congr fun a => ?_
 ·obtain ⟨t, _, rfl⟩ := (hm a).1 ha
  exact accL_inc h t
 ·rw [hm]
  simp
/-- The law of least must sets. -/
structure MustsLaw (s : Sy) (sts : List Int) (r : List (List Lb)) : Prop where
 set : ∀ m ∈ r, isSetB m = true
 ne : ∀ m ∈ r, m ≠ []
 no : ∀ m ∈ r, refB s sts m = false
 cov : ∀ l, Inc l → sts ≠ [] → refB s sts l = false → ∃ m ∈ r, ∀ x ∈ m, x ∈ l
 anti : ∀ a ∈ r, ∀ b ∈ r, (∀ x ∈ a, x ∈ b) → a = b
 nodup : r.Nodup
 least : ∀ m ∈ r, ∀ l, l.Sublist m → l.length < m.length → refB s sts l = true
theorem musts_law {s : Sy} (h : okSyP s) {sts : List Int} {r : List (List Lb)} (e : mustsL s sts = some r) : MustsLaw s sts r := by
 by_cases hs : sts = []
 ·rw [mustsL, if_pos hs] at e
  injection e with e
  subst e
  exact ⟨by simp, by simp, by simp, fun _ _ h => absurd hs h, by simp, List.Pairwise.nil, by simp⟩
 ·have hM := mustsL_ok h e hs
  have hlen : ∀ m ∈ r, m.length ≤ 64 := by have := (mustsL_len s sts).2; rw [e] at this; exact this
  have hno : ∀ m ∈ r, refB s sts m = false := fun m hm => (refB_iff sts (hM.inc m hm)).2 fun t ht => by
   obtain ⟨x, hx, hxa⟩ := hM.hit m hm _ ⟨t, ht, rfl⟩
   exact ⟨x, hxa, hx⟩
  have hcov : ∀ l, Inc l → sts ≠ [] → refB s sts l = false → ∃ m ∈ r, ∀ x ∈ m, x ∈ l := fun l hl _ hr => hM.cov (· ∈ l) fun a ⟨t, ht, ha⟩ => by
   rw [ha]
   exact (refB_iff sts hl).1 hr t ht
  refine ⟨fun m hm => ?_, fun m hm hm0 => ?_, hno, hcov, hM.anti, hM.nodup, fun m hm l hl hll => ?_⟩
  ·rw [isSetB, Bool.and_eq_true, Bool.and_eq_true, decide_eq_true_eq, inc_iff, List.all_eq_true]
   refine ⟨⟨hM.inc m hm, hlen m hm⟩, fun x hx => ?_⟩
   obtain ⟨a, ⟨t, _, rfl⟩, hxa⟩ := hM.own m hm x hx
   exact accL_okV h t x hxa
  ·obtain ⟨t, ht⟩ := List.exists_mem_of_ne_nil sts hs
   obtain ⟨x, hx, _⟩ := hM.hit m hm _ ⟨t, ht, rfl⟩
   rw [hm0] at hx
   simp at hx
  ·cases hr : refB s sts l
   ·exfalso
    obtain ⟨m', hm', hsub⟩ := hcov l ((hM.inc m hm).sub hl) hs hr
    have := hM.anti m' hm' m hm fun x hx => hl.subset (hsub x hx)
    subst this
    have h1 := (Inc.sublist (hM.inc _ hm') ((hM.inc _ hm').sub hl) hsub).length_le
    omega
   ·rfl
theorem isSetB_sub {l m : List Lb} (h : isSetB m = true) (hs : l.Sublist m) : isSetB l = true := by
 rw [isSetB, Bool.and_eq_true, Bool.and_eq_true, decide_eq_true_eq, inc_iff, List.all_eq_true] at h ⊢
 exact ⟨⟨h.1.1.sub hs, Nat.le_trans hs.length_le h.1.2⟩, fun x hx => h.2 x (hs.subset hx)⟩
theorem isSetB_inc {m : List Lb} (h : isSetB m = true) : Inc m := by
 rw [isSetB, Bool.and_eq_true, Bool.and_eq_true, inc_iff] at h
 exact h.1.1
theorem mustE_ok {s : Sy} {tr : List Lb} (h : mustE s tr = 0) : okSyP s ∧ isTraceB tr = true ∧ mustsL s (afterL s tr) = some (mustR s tr) := by
 unfold mustE at h
 split at h
 ·rename_i hok
  split at h
  ·rename_i ht
   refine ⟨hok, ht, ?_⟩
   rw [mustR, if_pos ⟨hok, ht⟩]
   cases hm : mustsL s (afterL s tr) with
   | none => rw [hm] at h; cases h
   | some r => rfl
  ·cases h
 ·cases h
/-- The law of SuiteLeast. -/
structure LeastLaw (s : Sy) (tr : List Lb) : Prop where
 anti : ∀ i j (hi : i < (mustR s tr).length) (hj : j < (mustR s tr).length), i ≠ j → ∃ x ∈ (mustR s tr)[i], x ∉ (mustR s tr)[j]
 no : ∀ m ∈ mustR s tr, refusesE s tr m = 0 ∧ refusesR s tr m = false ∧ 0 < m.length
 less : ∀ m ∈ mustR s tr, ∀ k, k < m.length → refusesE s tr (m.eraseIdx k) = 0 ∧ refusesR s tr (m.eraseIdx k) = true
 cov : ∀ l, afterE s tr = 0 → refusesE s tr l = 0 → 0 < (afterR s tr).length → refusesR s tr l = false → ∃ m ∈ mustR s tr, ∀ x ∈ m, x ∈ l
theorem least_law {s : Sy} {tr : List Lb} (h : mustE s tr = 0) : LeastLaw s tr := by
 obtain ⟨hok, ht, hm⟩ := mustE_ok h
 have hL := musts_law hok hm
 have hr : ∀ l, isSetB l = true → refusesE s tr l = 0 ∧ refusesR s tr l = refB s (afterL s tr) l := fun l hl => by
  rw [refusesE, refusesR, if_pos hok, ht, hl]
  exact ⟨rfl, if_pos ⟨hok, rfl⟩⟩
 refine ⟨fun i j hi hj hij => ?_, fun m hm => ?_, fun m hm k hk => ?_, fun l h1 h2 h3 h4 => ?_⟩
 ·refine Classical.byContradiction fun hn => hij ?_
  have := hL.anti _ (List.getElem_mem hi) _ (List.getElem_mem hj) fun x hx => Classical.byContradiction fun hx' => hn ⟨x, hx, hx'⟩
  exact (List.getElem_inj hL.nodup).1 this
 ·have := hr m (hL.set m hm)
  exact ⟨this.1, this.2.trans (hL.no m hm), List.length_pos_iff.2 (hL.ne m hm)⟩
 ·have hsub : (m.eraseIdx k).Sublist m := List.eraseIdx_sublist ..
  have := hr _ (isSetB_sub (hL.set m hm) hsub)
  exact ⟨this.1, this.2.trans (hL.least m hm _ hsub (by rw [List.length_eraseIdx, if_pos hk]; omega))⟩
 ·unfold refusesE at h2
  rw [if_pos hok, ht, Bool.true_and] at h2
  have hl : isSetB l = true := by
   split at h2
   ·assumption
   ·cases h2
  rw [(hr l hl).2] at h4
  rw [afterR, if_pos ⟨hok, ht⟩] at h3
  exact hL.cov l (isSetB_inc hl) (List.length_pos_iff.1 h3) h4
end
end Go.Proofs.YtegenalcheooeaaGreat
