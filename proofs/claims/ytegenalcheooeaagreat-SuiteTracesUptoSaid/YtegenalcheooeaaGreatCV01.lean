/- Of the proof of a law of the suites: LawTraces. -/
import Derived.Test.YtegenalcheooeaaGreatB36
import Derived.Test.YtegenalcheooeaaGreatCE01
import Derived.Test.YtegenalcheooeaaGreatRA06
set_option linter.unusedSectionVars false
set_option linter.unusedSimpArgs false
set_option linter.unusedVariables false
namespace Go.Proofs.YtegenalcheooeaaGreat
open Go.RowKit
attribute [local go_sem] cell?_exto
section
open Go.Shelf

def TrueP (w : World) (e : Ending) (w' : World) : Prop := e = .returned (.bool true) ∧ Ext w w'
/-- Boxes with two and with three cells. -/
theorem two23 {W W' : World} {B B' : Nat} {t t' : TypeId} {a b d e f : Value} (h : BoxL W B t [a, b] ∧ BoxL W B' t' [d, e, f]) (he : Ext W W') :
  (BoxL W' B t [a, b] ∧ BoxL W' B' t' [d, e, f]) ∧ W'.cell? ⟨B, 0, none⟩ = some a ∧ W'.cell? ⟨B, 1, none⟩ = some b ∧ W'.cell? ⟨B', 0, none⟩ = some d ∧ W'.cell? ⟨B', 1, none⟩ = some e ∧ W'.cell? ⟨B', 2, none⟩ = some f ∧ B < W'.heap.size ∧ B' < W'.heap.size :=
 have h0 := h.1.ext he
 have h1 := h.2.ext he
 ⟨⟨h0, h1⟩, h0.cell 0 _, h0.cell 1 _, h1.cell 0 _, h1.cell 1 _, h1.cell 2 _, h0.lt, h1.lt⟩
theorem ints_own {W : World} {base : Nat} {T : Nat → Prop} {xs : List Int} {v : Value} (h : ROwn RInt 1 3 base T W xs v) : RSl RInt 1 (fun _ => True) W xs [v] := (RSl.good RInt.good).mono (h.sl RInt.good (by decide)) fun _ _ _ => trivial
set_option maxHeartbeats 4000000 in
set_option maxRecDepth 100000 in
theorem traces7_c (w : World) (t : Te) (ct : List Value) (ht : RTe (fun _ => True) w t ct) (s : Sy) (_hsm : SmallSy s) (cs : List Value) (hx : RSy (fun _ => True) w s cs) (tr : List Lb) (htl : tr.length ≤ 1048576) (vt : Value) (htr : RLbs (fun _ => True) w tr [vt]) (l : List Lb) (hll : l.length ≤ 1048576) (vl : Value) (hl : RLbs (fun _ => True) w l [vl]) :
  Calls Tryz.prog 7 #[.agg ct.toArray, .agg cs.toArray, vt, vl] w (TrueP w) := by
 obtain ⟨_, v, u, rfl, hv, hu⟩ := id hx
 obtain ⟨A, c, rfl, _, _⟩ := hv.val
 obtain ⟨B, b, rfl, _, _⟩ := hu.val
 obtain ⟨v', u', rfl, hv', hu'⟩ := id ht
 obtain ⟨A', c', rfl, _, _⟩ := hv'.val
 obtain ⟨B', b', rfl, _, _⟩ := hu'.val
 obtain ⟨A3, c3, rfl, hc3, hc30⟩ := htr.val
 obtain ⟨A4, c4, rfl, hc4, hc40⟩ := hl.val
 have HX := Lib.hid hx
 have HT := Lib.hid ht
 have HTR := Lib.hid htr
 have HL := Lib.hid hl
 clear hx ht htr hl hv hu hv' hu'
 go_enter Tryz.func7, Tryz.ntmps7
 go_wp2_with fail
 refine (sane_c _).mono ?_
 rintro e1 w1 ⟨rfl, h1⟩
 have HX1 : Hid (Ext w w1) := bel
 obtain ⟨hB, c0, c1, d0, d1, d2, z0, z1⟩ := two23 (B := w.heap.size) (t := 40) (t' := 25) ⟨(BoxL.new w 40 [.slice A' t.tr.length c', .slice B' t.mu.length b']).ext ((Ext.refl _).alloc _), BoxL.new _ 25 [.int .i64 s.n, .slice A s.ls.length c, .slice B s.es.length b]⟩ h1
 simp only [World.size_alloc] at hB d0 d1 d2 z1
 have HB := Lib.hid hB
 clear h1 hB
 have hbr := fun W (hW : Ext w1 W) => brief_c [t] _ _ (lit_of RTe.good (by decide) (e := 40) (flat1 (RTe.good.bel HT.out (HX1.out.trans' hW)) rfl) (by simp))
 go_wp2_with fail
 refine (hbr _ (Ext.refl _)).mono ?_
 rintro e2 w2 ⟨rfl, h2⟩
 have hE2 : Ext w1 w2 := Ext.trans' ((Ext.refl w1).alloc _) h2
 have HX2 : Hid (Ext w w2) := HX1.out.trans' hE2
 clear c0 c1 d0 d1 d2 z0 z1
 obtain ⟨hB, c0, c1, d0, d1, d2, z0, z1⟩ := two23 HB.out hE2
 have HB2 := Lib.hid hB
 clear hbr h2 hE2 hB HX1 HB
 cases hbb : briefB [t]
 ·clear hbb
  go_wp2_with fail
  go_ret
  exact ⟨rfl, HX2.out⟩
 clear hbb
 have hsml := fun W (hW : Ext w2 W) => small_c (fun _ => True) 10 [s] _ _ (lit_of RSy.good (by decide) (e := 25) (flat1 (RSy.good.bel HX.out (HX2.out.trans' hW)) rfl) (by simp))
 go_wp2_with fail
 refine (hsml _ (Ext.refl _)).mono ?_
 rintro e3 w3 ⟨bb, rfl, h3⟩
 have hE3 : Ext w2 w3 := Ext.trans' ((Ext.refl w2).alloc _) h3
 have HX3 : Hid (Ext w w3) := HX2.out.trans' hE3
 clear c0 c1 d0 d1 d2 z0 z1
 obtain ⟨hB, c0, c1, d0, d1, d2, z0, z1⟩ := two23 HB2.out hE3
 have HB3 := Lib.hid hB
 clear hsml h3 hE3 hB HX2 HB2
 cases bb
 ·go_wp2_with fail
  go_ret
  exact ⟨rfl, HX3.out⟩
 by_cases h45 : (45 : Int) < (tr.length : Int)
 ·go_wp2_with fail
  go_ret
  exact ⟨rfl, HX3.out⟩
 have hsl := slight_c (fun _ => True) tr _ w3 (RLbs.good.bel HTR.out HX3.out) (by omega)
 go_wp2_with fail
 refine hsl.mono ?_
 rintro e4 w4 ⟨rfl, hE4⟩
 have HX4 : Hid (Ext w w4) := HX3.out.trans' hE4
 clear c0 c1 d0 d1 d2 z0 z1
 obtain ⟨hB, c0, c1, d0, d1, d2, z0, z1⟩ := two23 HB3.out hE4
 have HB4 := Lib.hid hB
 clear hsl hE4 hB HX3 HB3
 cases hbb : slightB tr
 ·clear hbb
  go_wp2_with fail
  go_ret
  exact ⟨rfl, HX4.out⟩
 clear hbb
 have hsl := slight_c (fun _ => True) l _ w4 (RLbs.good.bel HL.out HX4.out) (by omega)
 go_wp2_with fail
 refine hsl.mono ?_
 rintro e5 w5 ⟨rfl, hE5⟩
 have HX5 : Hid (Ext w w5) := HX4.out.trans' hE5
 clear c0 c1 d0 d1 d2 z0 z1
 obtain ⟨hB, c0, c1, d0, d1, d2, z0, z1⟩ := two23 HB4.out hE5
 have HB5 := Lib.hid hB
 clear hsl hE5 hB HX4 HB4
 cases hbb : slightB l
 ·clear hbb
  go_wp2_with fail
  go_ret
  exact ⟨rfl, HX5.out⟩
 clear hbb
 have haf := After_c (fun _ => True) s _ tr _ w5 (RSy.good.bel HX.out HX5.out) (RLbs.good.bel HTR.out HX5.out)
 obtain ⟨aE, haE⟩ : ∃ x, afterE s tr = x := ⟨_, rfl⟩
 obtain ⟨aR, haR⟩ : ∃ x, afterR s tr = x := ⟨_, rfl⟩
 rw [haE, haR] at haf
 have HAE := Lib.hid haE
 have HAR := Lib.hid haR
 clear haE haR
 go_wp2_with fail
 refine haf.mono ?_
 rintro e6 w6 ⟨A6, c6, rfl, hO6, hE6⟩
 have HX6 : Hid (Ext w w6) := HX5.out.trans' hE6
 have HR6 := Lib.hid (ints_own hO6)
 clear c0 c1 d0 d1 d2 z0 z1
 obtain ⟨hB, c0, c1, d0, d1, d2, z0, z1⟩ := two23 HB5.out hE6
 have HB6 := Lib.hid hB
 clear haf hE6 hB HX5 HB5 hO6
 have haf := rAfter_c (fun _ => True) s _ tr _ w6 (RSy.good.bel HX.out HX6.out) (RLbs.good.bel HTR.out HX6.out)
 rw [HAE.out, HAR.out] at haf
 go_wp2_with fail
 refine haf.mono ?_
 rintro e7 w7 ⟨A7, c7, rfl, hO7, hE7⟩
 have HX7 : Hid (Ext w w7) := HX6.out.trans' hE7
 have HR7 := Lib.hid (ints_own hO7)
 have HR6' := Lib.hid ((RSl.good RInt.good).bel HR6.out hE7)
 clear c0 c1 d0 d1 d2 z0 z1
 obtain ⟨hB, c0, c1, d0, d1, d2, z0, z1⟩ := two23 HB6.out hE7
 have HB7 := Lib.hid hB
 clear haf hE7 hB HX6 HB6 hO7 HR6
 have hrf := Refuses_c (fun _ => True) s _ tr l _ _ w7 (RSy.good.bel HX.out HX7.out) (RLbs.good.bel HTR.out HX7.out) (RLbs.good.bel HL.out HX7.out)
 obtain ⟨fE, hfE⟩ : ∃ x, refusesE s tr l = x := ⟨_, rfl⟩
 obtain ⟨fR, hfR⟩ : ∃ x, refusesR s tr l = x := ⟨_, rfl⟩
 rw [hfE, hfR] at hrf
 have HFE := Lib.hid hfE
 have HFR := Lib.hid hfR
 clear hfE hfR
 go_wp2_with fail
 refine hrf.mono ?_
 rintro e8 w8 ⟨rfl, hE8⟩
 have HX8 : Hid (Ext w w8) := HX7.out.trans' hE8
 have HQ6 := Lib.hid ((RSl.good RInt.good).bel HR6'.out hE8)
 have HQ7 := Lib.hid ((RSl.good RInt.good).bel HR7.out hE8)
 clear c0 c1 d0 d1 d2 z0 z1
 obtain ⟨hB, c0, c1, d0, d1, d2, z0, z1⟩ := two23 HB7.out hE8
 have HB8 := Lib.hid hB
 clear hrf hE8 hB HX7 HB7 HR6' HR7
 have hrf := rRefuses_c (fun _ => True) s _ tr l _ _ w8 (RSy.good.bel HX.out HX8.out) (RLbs.good.bel HTR.out HX8.out) (RLbs.good.bel HL.out HX8.out)
 rw [HFE.out, HFR.out] at hrf
 go_wp2_with fail
 refine hrf.mono ?_
 rintro e9 w9 ⟨rfl, hE9⟩
 have HX9 : Hid (Ext w w9) := HX8.out.trans' hE9
 have HK6 := Lib.hid ((RSl.good RInt.good).bel HQ6.out hE9)
 have HK7 := Lib.hid ((RSl.good RInt.good).bel HQ7.out hE9)
 clear c0 c1 d0 d1 d2 z0 z1
 obtain ⟨hB, c0, c1, d0, d1, d2, z0, z1⟩ := two23 HB8.out hE9
 clear hrf hE9 hB HX8 HB8 HQ6 HQ7 HAE HAR HFE HFR
 have hk1 := fun W (hW : Ext w9 W) => CheckTest_c (fun _ => True) t _ W (RTe.good.bel HT.out (HX9.out.trans' hW))
 have hk2 := fun W (hW : Ext w9 W) => rCheckTest_c (fun _ => True) t _ W (RTe.good.bel HT.out (HX9.out.trans' hW))
 have hk3 := fun W (hW : Ext w9 W) => equalInt (fun _ => True) aR aR _ _ W ((RSl.good RInt.good).bel HK6.out hW) ((RSl.good RInt.good).bel HK7.out hW)
 rw [decide_eq_true rfl] at hk3
 obtain ⟨kt, hkt⟩ : ∃ x, ckTe t = x := ⟨_, rfl⟩
 rw [hkt] at hk1 hk2
 clear hkt
 have hX2 : ∀ (y : World), Ext w9 (exto w9 y) := fun y => exto_ext _ y
 go_wp2_with fail
 (refine wp_region_ext (by kernel_rfl) (by kernel_rfl) ?_; (repeat (first | go_big_quiet_step ((first | (go_at_call 45; exact quiet_ext (hk1 _ (hX2 _))) | (go_at_call 46; exact quiet_ext (hk2 _ (hX2 _))) | (go_at_call 47; exact quiet_ext (hk3 _ (hX2 _))))) | quiet_step ((first | (go_at_call 45; exact quiet_ext (hk1 _ (hX2 _))) | (go_at_call 46; exact quiet_ext (hk2 _ (hX2 _))) | (go_at_call 47; exact quiet_ext (hk3 _ (hX2 _))))))); refine wpQuiet_nil ?_)
 intro w10 hx10
 go_wp2_with fail
 go_ret
 exact ⟨by simp, HX9.out.trans' hx10⟩
end
end Go.Proofs.YtegenalcheooeaaGreat
