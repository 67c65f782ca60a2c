/- Of the proof of a law of the suites: LawVerdicts. -/
import Derived.Test.YtegenalcheooeaaGreatB46
import Derived.Test.YtegenalcheooeaaGreatCB01
import Derived.Test.YtegenalcheooeaaGreatCE01
import Derived.Test.YtegenalcheooeaaGreatCF01
import Derived.Test.YtegenalcheooeaaGreatCH01
/- SuiteVerdicts: walked. -/
set_option linter.unusedSectionVars false
set_option linter.unusedSimpArgs false
set_option linter.unusedVariables false
namespace Go.Proofs.YtegenalcheooeaaGreat
open Go.RowKit
attribute [local go_sem] cell?_exto
open Go.Shelf

def TrueP (w : World) (e : Ending) (w' : World) : Prop := e = .returned (.bool true) ∧ Ext w w'
/-- Boxes with two and with three cells. -/
theorem two23 {W W' : World} {B B' : Nat} {t t' : TypeId} {a b d e f : Value} (h : BoxL W B t [a, b] ∧ BoxL W B' t' [d, e, f]) (he : Ext W W') :
    (BoxL W' B t [a, b] ∧ BoxL W' B' t' [d, e, f]) ∧ W'.cell? ⟨B, 0, none⟩ = some a ∧ W'.cell? ⟨B, 1, none⟩ = some b ∧ W'.cell? ⟨B', 0, none⟩ = some d ∧ W'.cell? ⟨B', 1, none⟩ = some e ∧ W'.cell? ⟨B', 2, none⟩ = some f ∧ B < W'.heap.size ∧ B' < W'.heap.size :=
  have h0 := h.1.ext he
  have h1 := h.2.ext he
  ⟨⟨h0, h1⟩, h0.cell 0 _, h0.cell 1 _, h1.cell 0 _, h1.cell 1 _, h1.cell 2 _, h0.lt, h1.lt⟩
theorem ints_own {W : World} {base : Nat} {T : Nat → Prop} {xs : List Int} {v : Value} (h : ROwn RInt 1 3 base T W xs v) : RSl RInt 1 (fun _ => True) W xs [v] := (RSl.good RInt.good).mono (h.sl RInt.good (by decide)) fun _ _ _ => trivial
set_option maxHeartbeats 4000000 in
set_option maxRecDepth 100000 in
theorem verdicts9_c (w : World) (t : Te) (ct : List Value) (ht : RTe (fun _ => True) w t ct) (s : Sy) (hsm : SmallSy s) (cs : List Value) (hx : RSy (fun _ => True) w s cs) (more : List Lb) (hml : more.length ≤ 1048576) (vm : Value) (hm : RLbs (fun _ => True) w more [vm]) :
    Calls Tryz.prog 9 #[.agg ct.toArray, .agg cs.toArray, vm] w (TrueP w) := by
  obtain ⟨_, v, u, rfl, hv, hu⟩ := id hx
  obtain ⟨A, c, rfl, _, _⟩ := hv.val
  obtain ⟨B, b, rfl, _, _⟩ := hu.val
  obtain ⟨v', u', rfl, hv', hu'⟩ := id ht
  obtain ⟨A', c', rfl, _, _⟩ := hv'.val
  obtain ⟨B', b', rfl, _, _⟩ := hu'.val
  obtain ⟨A3, c3, rfl, hc3, hc30⟩ := hm.val
  have HX := Lib.hid hx
  have HT := Lib.hid ht
  have HM := Lib.hid hm
  have HTR := Lib.hid hv'
  have HMU := Lib.hid hu'
  clear hx ht hm hv hu hv' hu'
  go_enter Tryz.func9, Tryz.ntmps9
  go_wp2_with fail
  refine (sane_c _).mono ?_
  rintro e1 w1 ⟨rfl, h1⟩
  have HX1 : Hid (Ext w w1) := (by repeat (first | exact Ext.refl _ | apply Ext.alloc | apply Below.drew | apply Ext.drewN | refine Ext.trans' ?_ (by assumption) | refine Ext.trans' ?_ (ExtD.ext (by assumption))))
  obtain ⟨hB, c0, c1, d0, d1, d2, z0, z1⟩ := two23 (B := w.heap.size) (t := 40) (t' := 25) ⟨(BoxL.new w 40 [.slice A' t.tr.length c', .slice B' t.mu.length b']).ext ((Ext.refl _).alloc _), BoxL.new _ 25 [.int .i64 s.n, .slice A s.ls.length c, .slice B s.es.length b]⟩ h1
  simp only [World.size_alloc] at hB d0 d1 d2 z1
  have HB := Lib.hid hB
  clear h1 hB
  have hbr := fun W (hW : Ext w1 W) => brief_c [t] _ _ (lit_of RTe.good (by decide) (e := 40) (flat1 (RTe.good.bel HT.out (HX1.out.trans' hW)) rfl) (by simp))
  go_wp2_with fail
  refine (hbr _ (Ext.refl _)).mono ?_
  rintro e2 w2 ⟨rfl, h2⟩
  have hE2 : Ext w1 w2 := Ext.trans' ((Ext.refl w1).alloc _) h2
  have HX2 : Hid (Ext w w2) := HX1.out.trans' hE2
  clear c0 c1 d0 d1 d2 z0 z1
  obtain ⟨hB, c0, c1, d0, d1, d2, z0, z1⟩ := two23 HB.out hE2
  have HB2 := Lib.hid hB
  clear hbr h2 hE2 hB HX1 HB
  cases hbb : briefB [t]
  · clear hbb
    go_wp2_with fail
    go_ret
    exact ⟨rfl, HX2.out⟩
  clear hbb
  have hsml := fun W (hW : Ext w2 W) => small_c (fun _ => True) 10 [s] _ _ (lit_of RSy.good (by decide) (e := 25) (flat1 (RSy.good.bel HX.out (HX2.out.trans' hW)) rfl) (by simp))
  go_wp2_with fail
  refine (hsml _ (Ext.refl _)).mono ?_
  rintro e3 w3 ⟨bb, rfl, h3⟩
  have hE3 : Ext w2 w3 := Ext.trans' ((Ext.refl w2).alloc _) h3
  have HX3 : Hid (Ext w w3) := HX2.out.trans' hE3
  clear c0 c1 d0 d1 d2 z0 z1
  obtain ⟨hB, c0, c1, d0, d1, d2, z0, z1⟩ := two23 HB2.out hE3
  have HB3 := Lib.hid hB
  clear hsml h3 hE3 hB HX2 HB2
  cases bb
  · go_wp2_with fail
    go_ret
    exact ⟨rfl, HX3.out⟩
  have hsl := slight_c (fun _ => True) more _ w3 (RLbs.good.bel HM.out HX3.out) (by omega)
  go_wp2_with fail
  refine hsl.mono ?_
  rintro e4 w4 ⟨rfl, hE4⟩
  have HX4 : Hid (Ext w w4) := HX3.out.trans' hE4
  clear c0 c1 d0 d1 d2 z0 z1
  obtain ⟨hB, c0, c1, d0, d1, d2, z0, z1⟩ := two23 HB3.out hE4
  have HB4 := Lib.hid hB
  clear hsl hE4 hB HX3 HB3
  cases hbb : slightB more
  · clear hbb
    go_wp2_with fail
    go_ret
    exact ⟨rfl, HX4.out⟩
  have hm100 := slightB_len hbb
  clear hbb
  have hve := Verdicts_c (fun _ => True) s _ _ t w4 (RSy.good.bel HX.out HX4.out) (RTe.good.bel HT.out HX4.out)
  go_wp2_with fail
  refine hve.mono ?_
  rintro e5 w5 ⟨A5, c5, rfl, hO5, hE5⟩
  have HX5 : Hid (Ext w w5) := HX4.out.trans' hE5
  have HR5 := Lib.hid (ints_own hO5)
  clear c0 c1 d0 d1 d2 z0 z1
  obtain ⟨hB, c0, c1, d0, d1, d2, z0, z1⟩ := two23 HB4.out hE5
  have HB5 := Lib.hid hB
  clear hve hE5 hB HX4 HB4 hO5
  by_cases hask : askE s [t] = 0
  rotate_left
  · have h0 : (verdR s t).length = 0 := by rw [verdR, if_neg hask]; rfl
    go_wp2_with fail
    go_ret
    exact ⟨by simp [h0], HX5.out⟩
  have hL := verdicts_law hask more
  obtain ⟨hok, _, htt⟩ := askE_ok hask
  have htt := htt t (by simp)
  have hmu : t.mu.length ≤ 64 := by
    simp [isTestB, isSetB] at htt
    omega
  obtain ⟨r, hr⟩ : ∃ r, verdR s t = r := ⟨_, rfl⟩
  obtain ⟨q, hq⟩ : ∃ q, afterR s t.tr = q := ⟨_, rfl⟩
  have haf := After_c (fun _ => True) s _ t.tr _ w5 (RSy.good.bel HX.out HX5.out) (RLbs.good.bel HTR.out HX5.out)
  rw [hr, hq] at hL
  rw [hr] at HR5
  rw [hq, hL.1] at haf
  rw [hask, hr]
  have HL := Lib.hid hL
  have hr0 : r.length ≠ 0 := fun e => hL.2.1 (List.length_eq_zero_iff.1 e)
  clear hL hr hq hask htt hok
  go_wp2_with fail
  refine haf.mono ?_
  rintro e6 w6 ⟨A6, c6, rfl, hO6, hE6⟩
  have HX6 : Hid (Ext w w6) := HX5.out.trans' hE6
  have HR6 := Lib.hid ((RSl.good RInt.good).bel HR5.out hE6)
  have HR5' := Lib.hid ((RSl.good RInt.good).bel HR5.out hE6)
  clear c0 c1 d0 d1 d2 z0 z1
  obtain ⟨hB, c0, c1, d0, d1, d2, z0, z1⟩ := two23 HB5.out hE6
  have HB6 := Lib.hid hB
  clear haf hE6 hB HX5 HB5 hO6 HR5
  go_upto_region 9 with (fail)
  go_cut [66] (fun s66 wx => s66 = .bool false ∧ wx = w6)
  case first =>
    have hrb : ((r.length : Int) == 0) = false := by simp only [beq_eq_false_iff_ne, ne_eq]; omega
    clear hr0
    by_cases hq0 : q.length = 0
    · have hqb : ((q.length : Int) == 0) = true := by simp [hq0]
      have hno := HL.out.2.2.1 (List.length_eq_zero_iff.1 hq0)
      have k2 := containsInt (fun _ => True) r 2 _ w6 HR6.out
      have k1 := containsInt (fun _ => True) r 1 _ w6 HR6.out
      rw [decide_eq_false hno.1] at k2
      rw [decide_eq_false hno.2] at k1
      clear hno hq0
      go_wp2_with fail
      refine k2.mono ?_
      rintro e w7 ⟨rfl, rfl⟩
      go_wp2_with fail
      refine k1.mono ?_
      rintro e w8 ⟨rfl, rfl⟩
      go_wp2_with fail
      go_meet
      exact ⟨rfl, rfl⟩
    · have hqb : ((q.length : Int) == 0) = false := by simp only [beq_eq_false_iff_ne, ne_eq]; omega
      clear hq0
      go_wp2_with fail
      go_meet
      exact ⟨rfl, rfl⟩
  case rest =>
  clear hr0
  obtain ⟨rfl, rfl⟩ := hcut
  have hbox := BoxL.new wc 40 [.slice A' t.tr.length c', .slice B' t.mu.length b']
  have hlit : RSlX RLbs 1 (fun q => q < wc.heap.size) ((wc.alloc (.cells #[.slice A' t.tr.length c', .slice B' t.mu.length b'] 40)).alloc (.cells #[.slice B' t.mu.length b', .slice A3 more.length c3] 22)) [t.mu, more] (.slice (some ⟨wc.heap.size + 1, 0, none⟩) 2 2) := by
    have h := lit_x (R := RLbs) (k := 1) (S := fun q => q < wc.heap.size) (W := wc.alloc (.cells #[.slice A' t.tr.length c', .slice B' t.mu.length b'] 40)) (xs := [t.mu, more]) (cs := [.slice B' t.mu.length b', .slice A3 more.length c3]) (e := 22) (flat2L
      (RLbs.good.bel (RLbs.good.mono (RLbs.good.bel HMU.out HX6.out) fun b hb _ => hb) (((Ext.refl wc).alloc _).alloc _))
      (RLbs.good.bel (RLbs.good.mono (RLbs.good.bel HM.out HX6.out) fun b hb _ => hb) (((Ext.refl wc).alloc _).alloc _))) (by simp)
    rw [World.size_alloc] at h
    exact h
  have hcc := concat_c _ _ _ _ hlit (by simp; omega)
  have hfl : [t.mu, more].flatten = t.mu ++ more := by simp
  rw [hfl] at hcc
  obtain ⟨fl, hfl2⟩ : ∃ fl, t.mu ++ more = fl := ⟨_, rfl⟩
  rw [hfl2] at hcc
  have hfln : fl.length ≤ 200 := by rw [← hfl2, List.length_append]; omega
  have HFL := Lib.hid hfl2
  clear hlit hfl hfl2
  have HBOX := Lib.hid hbox
  clear hbox
  go_wp2_with fail
  refine hcc.mono ?_
  rintro e7 w7 ⟨A7, c7, rfl, hO7, hE7⟩
  have hE7' : Ext wc w7 := Ext.trans' (((Ext.refl wc).alloc _).alloc _) hE7
  have hb7 : BoxL w7 wc.heap.size 40 [.slice A' t.tr.length c', .slice B' t.mu.length b'] := HBOX.out.ext (Ext.trans' ((Ext.refl _).alloc _) hE7)
  have q0 := hb7.cell 0 _
  have q1 := hb7.cell 1 _
  have zq := hb7.lt
  have fq := hb7.frozen 1
  obtain ⟨base, hbase⟩ : ∃ base, ((wc.alloc (.cells #[.slice A' t.tr.length c', .slice B' t.mu.length b'] 40)).alloc (.cells #[.slice B' t.mu.length b', .slice A3 more.length c3] 22)).heap.size = base := ⟨_, rfl⟩
  have hbs : base = wc.heap.size + 1 + 1 := by rw [← hbase, World.size_alloc, World.size_alloc]
  rw [hbase] at hO7
  have hlo : ∀ q, (Value.slice A7 fl.length c7).ownBlock = some q → wc.heap.size + 2 ≤ q := fun q e => by have := (hO7.own_lt e).1; omega
  have HB7 := Lib.hid hb7
  have HE7 := Lib.hid hE7'
  have HO7 := Lib.hid hO7
  have HLO := Lib.hid hlo
  have HBS := Lib.hid hbs
  clear hcc hE7 hE7' hb7 hO7 hlo hbase hbs
  go_wp2_with fail
  obtain ⟨W8, hW8⟩ : ∃ W8, w7.setCell ⟨wc.heap.size, 1, none⟩ (.slice A7 fl.length c7) = W8 := ⟨_, rfl⟩
  rw [hW8]
  have hb8 : BoxL W8 wc.heap.size 40 [.slice A' t.tr.length c', .slice A7 fl.length c7] := by rw [← hW8]; exact HB7.out.set 1 _
  have hE8 : Ext wc W8 := by rw [← hW8]; exact HE7.out.set (Nat.le_refl _) _
  have hbt8 : Bt (fun q => q = wc.heap.size) w7 W8 := by rw [← hW8]; exact (Bt.refl (fun q => q = wc.heap.size) w7).set (p := ⟨wc.heap.size, 1, none⟩) (.inr rfl) _
  have hO8 := HO7.out.keep RLb.good (fun b hb h => hbt8.block b hb fun e => by
    have := HBS.out
    rcases h with h | h
    · have := h.1; omega
    · omega) hbt8.size
  have hso := sortL_own base _ fl _ W8 hO8 (by omega)
  clear hW8 hbt8 hO8 q0 q1 zq fq c0 c1 d0 d1 d2 z0 z1
  refine hso.mono ?_
  rintro e8 w9 ⟨rfl, hO9, hb9⟩
  have hE9 : Ext wc w9 := Bt.new hE8 hb9 fun q _ e => by have := HLO.out q e; omega
  have hb9' := hb8.bt hb9 fun e => by have := HLO.out _ e; omega
  have hcm := compactL_c _ _ (sortB cmpLb fl) _ w9 hO9 (by rw [sortB_len]; omega)
  have q0 := hb9'.cell 0 _
  have q1 := hb9'.cell 1 _
  have zq := hb9'.lt
  obtain ⟨hB, c0, c1, d0, d1, d2, z0, z1⟩ := two23 HB6.out hE9
  have HB9 := Lib.hid hb9'
  have HE9 := Lib.hid hE9
  clear hso hO9 hb9 hE9 hb9' hE8 hb8 hB
  go_wp2_with fail
  refine hcm.mono ?_
  rintro e9 w10 ⟨A10, c10, rfl, hO10, hb10⟩
  have hE10 : Ext wc w10 := Bt.new HE9.out hb10 fun q _ e => by have := HLO.out q e; omega
  have hb10' := HB9.out.bt hb10 fun e => by have := HLO.out _ e; omega
  obtain ⟨sl, hsl⟩ : ∃ sl, cmpctL (sortB cmpLb fl) = sl := ⟨_, rfl⟩
  have hset : setOf (t.mu ++ more) = sl := by rw [HFL.out, ← hsl]; rfl
  rw [hsl] at hO10 ⊢
  have HSET := Lib.hid hset
  clear q0 q1 zq c0 c1 d0 d1 d2 z0 z1 hcm hb10 hsl hset HB9 HE9
  have q0 := hb10'.cell 0 _
  have q1 := hb10'.cell 1 _
  have zq := hb10'.lt
  have fq := hb10'.frozen 1
  obtain ⟨hB, c0, c1, d0, d1, d2, z0, z1⟩ := two23 HB6.out hE10
  have HB10 := Lib.hid hb10'
  have HE10 := Lib.hid hE10
  have HO10 := Lib.hid hO10
  have n1 : ¬ (w.heap.size + 1 = wc.heap.size) := by have := HB6.out.2.lt; omega
  have n2 : ¬ (wc.heap.size = w.heap.size + 1) := by omega
  clear hb10' hE10 hO10 hB
  go_wp2_with fail
  obtain ⟨W11, hW11⟩ : ∃ W11, w10.setCell ⟨wc.heap.size, 1, none⟩ (.slice A10 sl.length c10) = W11 := ⟨_, rfl⟩
  rw [hW11]
  have hE11 : Ext wc W11 := by rw [← hW11]; exact HE10.out.set (Nat.le_refl _) _
  have hbt11 : Bt (fun q => q = wc.heap.size) w10 W11 := by rw [← hW11]; exact (Bt.refl (fun q => q = wc.heap.size) w10).set (p := ⟨wc.heap.size, 1, none⟩) (.inr rfl) _
  have hO11 := HO10.out.keep RLb.good (fun b hb h => hbt11.block b hb fun e => by
    have := HBS.out
    rcases h with h | h
    · have := h.1; omega
    · omega) hbt11.size
  have hX11 : Ext w W11 := HX6.out.trans' hE11
  have hte : RTe (fun _ => True) W11 ⟨t.tr, sl⟩ [.slice A' t.tr.length c', .slice A10 sl.length c10] := ⟨_, _, rfl, RLbs.good.bel HTR.out hX11, RLbs.good.mono (hO11.sl RLb.good (by decide)) fun _ _ _ => trivial⟩
  have hve2 := Verdicts_c (fun _ => True) s _ _ ⟨t.tr, sl⟩ W11 (RSy.good.bel HX.out hX11) hte
  obtain ⟨k2, hk2⟩ : ∃ k2, askE s [⟨t.tr, sl⟩] = k2 := ⟨_, rfl⟩
  obtain ⟨r2, hr2⟩ : ∃ r2, verdR s ⟨t.tr, sl⟩ = r2 := ⟨_, rfl⟩
  have hlaw := HL.out.2.2.2
  rw [HSET.out, hk2, hr2] at hlaw
  rw [hk2, hr2] at hve2
  have HX11 := Lib.hid hX11
  have HLAW := Lib.hid hlaw
  have HR11 := Lib.hid ((RSl.good RInt.good).bel HR5'.out hE11)
  clear hW11 hE11 hbt11 hO11 hX11 hte hk2 hr2 hlaw q0 q1 zq fq c0 c1 d0 d1 d2 z0 z1 HO10 HB10 HE10 HL
  refine hve2.mono ?_
  rintro e12 w12 ⟨A12, c12, rfl, hO12, hE12⟩
  have HX12 : Hid (Ext w w12) := HX11.out.trans' hE12
  have k3 := containsInt (fun _ => True) r2 2 _ w12 (ints_own hO12)
  have k4 := containsInt (fun _ => True) r 2 _ w12 ((RSl.good RInt.good).bel HR11.out hE12)
  clear hve2 hO12 hE12
  by_cases hk : k2 = 0
  rotate_left
  · go_wp2_with fail
    go_ret
    exact ⟨rfl, HX12.out⟩
  subst hk
  by_cases h2 : (2 : Int) ∈ r2
  · have h3 := HLAW.out rfl h2
    rw [decide_eq_true h2] at k3
    rw [decide_eq_true h3] at k4
    clear h2 h3
    go_wp2_with fail
    refine k3.mono ?_
    rintro e13 w13 ⟨rfl, rfl⟩
    go_wp2_with fail
    refine k4.mono ?_
    rintro e14 w14 ⟨rfl, rfl⟩
    go_wp2_with fail
    go_ret
    exact ⟨rfl, HX12.out⟩
  · rw [decide_eq_false h2] at k3
    clear h2
    go_wp2_with fail
    refine k3.mono ?_
    rintro e13 w13 ⟨rfl, rfl⟩
    go_wp2_with fail
    go_ret
    exact ⟨rfl, HX12.out⟩
end Go.Proofs.YtegenalcheooeaaGreat

