/- Of the proof of a law of the suites: LawSound. -/
import Derived.Test.YtegenalcheooeaaGreatB31
import Derived.Test.YtegenalcheooeaaGreatB38
import Derived.Test.YtegenalcheooeaaGreatB46
import Derived.Test.YtegenalcheooeaaGreatCC01
/- SuiteSound: walked. -/
set_option linter.unusedSectionVars false
set_option linter.unusedSimpArgs false
set_option linter.unusedVariables false
namespace Go.Proofs.YtegenalcheooeaaGreat
open Go.RowKit
attribute [local go_sem] cell?_exto
open Go.Shelf

def TrueP (w : World) (e : Ending) (w' : World) : Prop := e = .returned (.bool true) ∧ Ext w w'
theorem sameLbs_same (l : List Lb) : sameLbs l l = true := by
  have : ∀ l : List Lb, leq sameLb l l = true := by
    intro l
    induction l with
    | nil => rfl
    | cons x xs ih => rw [leq, ih, (sameLb_iff x x).2 rfl]; rfl
  exact this l
theorem sameTe_same (t : Te) : sameTe t t = true := by rw [sameTe, sameLbs_same, sameLbs_same]; rfl
theorem te_own {W : World} {base : Nat} {T : Nat → Prop} {xs : List Te} {v : Value} (h : ROwn RTe 2 40 base T W xs v) : RSl RTe 2 (fun _ => True) W xs [v] := (RSl.good RTe.good).mono (h.sl RTe.good (by decide)) fun _ _ _ => trivial
/-- Two boxes with three cells each. -/
theorem two3 {W W' : World} {B B' : Nat} {t t' : TypeId} {a b c d e f : Value} (h : BoxL W B t [a, b, c] ∧ BoxL W B' t' [d, e, f]) (he : Ext W W') :
    (BoxL W' B t [a, b, c] ∧ BoxL W' B' t' [d, e, f]) ∧ W'.cell? ⟨B, 0, none⟩ = some a ∧ W'.cell? ⟨B, 1, none⟩ = some b ∧ W'.cell? ⟨B, 2, none⟩ = some c ∧ W'.cell? ⟨B', 0, none⟩ = some d ∧ W'.cell? ⟨B', 1, none⟩ = some e ∧ W'.cell? ⟨B', 2, none⟩ = some f ∧ B < W'.heap.size ∧ B' < W'.heap.size :=
  have h0 := h.1.ext he
  have h1 := h.2.ext he
  ⟨⟨h0, h1⟩, h0.cell 0 _, h0.cell 1 _, h0.cell 2 _, h1.cell 0 _, h1.cell 1 _, h1.cell 2 _, h0.lt, h1.lt⟩
theorem three332 {W W' : World} {B B' B'' : Nat} {t t' t'' : TypeId} {a b c d e f g h : Value} (hb : BoxL W B t [a, b, c] ∧ BoxL W B' t' [d, e, f] ∧ BoxL W B'' t'' [g, h]) (he : Ext W W') :
    (BoxL W' B t [a, b, c] ∧ BoxL W' B' t' [d, e, f] ∧ BoxL W' B'' t'' [g, h]) ∧ W'.cell? ⟨B, 0, none⟩ = some a ∧ W'.cell? ⟨B, 1, none⟩ = some b ∧ W'.cell? ⟨B, 2, none⟩ = some c ∧ W'.cell? ⟨B', 0, none⟩ = some d ∧ W'.cell? ⟨B', 1, none⟩ = some e ∧ W'.cell? ⟨B', 2, none⟩ = some f ∧ W'.cell? ⟨B'', 0, none⟩ = some g ∧ W'.cell? ⟨B'', 1, none⟩ = some h ∧ B < W'.heap.size ∧ B' < W'.heap.size ∧ B'' < W'.heap.size :=
  have h0 := hb.1.ext he
  have h1 := hb.2.1.ext he
  have h2 := hb.2.2.ext he
  ⟨⟨h0, h1, h2⟩, h0.cell 0 _, h0.cell 1 _, h0.cell 2 _, h1.cell 0 _, h1.cell 1 _, h1.cell 2 _, h2.cell 0 _, h2.cell 1 _, h0.lt, h1.lt, h2.lt⟩
/-- A box behind two. -/
theorem third {W : World} {B B' : Nat} {t t' : TypeId} {a b c d e f : Value} (hb : BoxL W B t [a, b, c] ∧ BoxL W B' t' [d, e, f]) (t'' : TypeId) (g h : Value) :
    BoxL (W.alloc (.cells #[g, h] t'')) B t [a, b, c] ∧ BoxL (W.alloc (.cells #[g, h] t'')) B' t' [d, e, f] ∧ BoxL (W.alloc (.cells #[g, h] t'')) W.heap.size t'' [g, h] :=
  ⟨hb.1.ext ((Ext.refl W).alloc _), hb.2.ext ((Ext.refl W).alloc _), BoxL.new W t'' [g, h]⟩
theorem eg26 : ∀ args w, (callFunc 26 args).run Tryz.prog w = .ok (.enter 26 args) w := enters_of Tryz.func26 (by kernel_rfl) rfl
set_option maxHeartbeats 1000000 in
set_option maxRecDepth 100000 in
theorem sound1_c (x : List Lb) (cs : List Value) (w : World) (hx : RLbs (fun _ => True) w x cs) (hl : x.length ≤ 1048576) : Calls Tryz.prog 26 #[cs.headD undef] w fun e w' => e = .returned (.bool (!slightB x)) ∧ Ext w w' := by
  obtain ⟨u, rfl⟩ : ∃ u, cs = [u] := by
    obtain ⟨A, c, rfl, _⟩ := hx
    exact ⟨_, rfl⟩
  have hs := fun W (hW : Ext w W) => slight_c (fun _ => True) x _ W (RLbs.good.bel hx hW) (by omega)
  obtain ⟨A, c, rfl, _, _⟩ := hx.val
  clear hx
  simp only [List.headD_cons]
  go_enter Tryz.func26, Tryz.ntmps26
  go_wp2_with fail
  refine (hs _ (by repeat (first | exact Ext.refl _ | apply Ext.alloc | apply Below.drew | apply Ext.drewN | refine Ext.trans' ?_ (by assumption) | refine Ext.trans' ?_ (ExtD.ext (by assumption))))).mono ?_
  rintro e w1 ⟨rfl, h1⟩
  go_wp2_with fail
  go_ret
  exact ⟨rfl, (by repeat (first | exact Ext.refl _ | apply Ext.alloc | apply Below.drew | apply Ext.drewN | refine Ext.trans' ?_ (by assumption) | refine Ext.trans' ?_ (ExtD.ext (by assumption))))⟩

theorem flat2S {W : World} {x y : Sy} {cs ck : List Value} (hx : RSy (fun _ => True) W x cs) (hy : RSy (fun _ => True) W y ck) : Flat RSy 3 (fun _ => True) W [x, y] (cs ++ ck) := ⟨cs, ck, rfl, RSy.good.len hx, hx, ck, [], by simp, RSy.good.len hy, hy, rfl⟩
set_option maxHeartbeats 8000000 in
set_option maxRecDepth 100000 in
theorem sound_c (w : World) (s : Sy) (hsm : SmallSy s) (cs : List Value) (hx : RSy (fun _ => True) w s cs) (k : Sy) (hkm : SmallSy k) (ck : List Value) (hy : RSy (fun _ => True) w k ck) (d : Int) (sets : List (List Lb)) (hsz : ∀ m ∈ sets, m.length ≤ 1048576) (vs : Value) (hz : RSl RLbs 1 (fun _ => True) w sets [vs]) :
    Calls Tryz.prog 5 #[.agg cs.toArray, .agg ck.toArray, .int .i64 d, vs] w (TrueP w) := by
  obtain ⟨_, v, u, rfl, hv, hu⟩ := id hx
  obtain ⟨A, c, rfl, _, _⟩ := hv.val
  obtain ⟨B, b, rfl, _, _⟩ := hu.val
  obtain ⟨_, v', u', rfl, hv', hu'⟩ := id hy
  obtain ⟨A', c', rfl, _, _⟩ := hv'.val
  obtain ⟨B', b', rfl, _, _⟩ := hu'.val
  obtain ⟨A3, c3, rfl, hc3, hc30⟩ := hz.val
  have HX := Lib.hid hx
  have HY := Lib.hid hy
  have HZ := Lib.hid hz
  have HSZ := Lib.hid hsz
  clear hx hy hz hv hu hv' hu' hsz
  go_enter Tryz.func5, Tryz.ntmps5
  go_wp2_with fail
  refine (sane_c _).mono ?_
  rintro e1 w1 ⟨rfl, h1⟩
  have hX1 : Ext w w1 := (by repeat (first | exact Ext.refl _ | apply Ext.alloc | apply Below.drew | apply Ext.drewN | refine Ext.trans' ?_ (by assumption) | refine Ext.trans' ?_ (ExtD.ext (by assumption))))
  obtain ⟨hB1, c0, c1, c2, d0, d1, d2, z0, z1⟩ := two3 (B := w.heap.size) (t := 25) (t' := 25) ⟨(BoxL.new w 25 [.int .i64 s.n, .slice A s.ls.length c, .slice B s.es.length b]).ext ((Ext.refl _).alloc _), BoxL.new _ 25 [.int .i64 k.n, .slice A' k.ls.length c', .slice B' k.es.length b']⟩ h1
  simp only [World.size_alloc] at hB1 d0 d1 d2 z1
  have HB1 := Lib.hid hB1
  clear h1 hB1
  have hsml := fun W (hW : Ext w1 W) => small_c (fun _ => True) 10 [s, k] _ _ (lit_of RSy.good (by decide) (e := 25) (flat2S (RSy.good.bel HX.out (hX1.trans' hW)) (RSy.good.bel HY.out (hX1.trans' hW))) (by simp))
  go_wp2_with fail
  refine (hsml _ (Ext.refl _)).mono ?_
  rintro e2 w2 ⟨bb, rfl, h2⟩
  have hE2 : Ext w1 w2 := Ext.trans' ((Ext.refl w1).alloc _) h2
  have HX2 : Hid (Ext w w2) := hX1.trans' hE2
  clear c0 c1 c2 d0 d1 d2 z0 z1
  obtain ⟨hB, c0, c1, c2, d0, d1, d2, z0, z1⟩ := two3 HB1.out hE2
  have HB2 := Lib.hid hB
  clear hsml h2 hE2 hB hX1 HB1
  cases bb
  · go_wp2_with fail
    go_ret
    exact ⟨rfl, HX2.out⟩
  go_wp2_with fail
  refine (light_c (fun _ => True) s _ d _ (RSy.good.bel HX.out HX2.out)).mono ?_
  rintro e3 w3 ⟨bb, rfl, hE3⟩
  have HX3 : Hid (Ext w w3) := HX2.out.trans' hE3
  clear c0 c1 c2 d0 d1 d2 z0 z1
  obtain ⟨hB, c0, c1, c2, d0, d1, d2, z0, z1⟩ := two3 HB2.out hE3
  have HB3 := Lib.hid hB
  clear hE3 hB HX2 HB2
  cases bb
  · go_wp2_with fail
    go_ret
    exact ⟨rfl, HX3.out⟩
  by_cases h20 : 20 < sets.length
  · go_wp2_with fail
    go_ret
    exact ⟨rfl, HX3.out⟩
  have hcon := conPLbs (fun x => !slightB x) (fun _ => True) w3 sets _ ((RSl.good RLbs.good).bel HZ.out HX3.out) 26 #[] eg26 (fun x hxs cs W' _ hr => sound1_c x cs W' hr (HSZ.out x hxs))
  go_wp2_with fail
  refine hcon.mono ?_
  rintro e4 w4 ⟨rfl, hE4⟩
  have HX4 : Hid (Ext w w4) := HX3.out.trans' hE4
  clear c0 c1 c2 d0 d1 d2 z0 z1
  obtain ⟨hB, c0, c1, c2, d0, d1, d2, z0, z1⟩ := two3 HB3.out hE4
  have HB4 := Lib.hid hB
  clear hcon hE4 hB HX3 HB3
  obtain ⟨bb, hbb⟩ : ∃ bb, (sets.any fun x => !slightB x) = bb := ⟨_, rfl⟩
  rw [hbb]
  clear hbb
  cases bb
  rotate_left
  · go_wp2_with fail
    go_ret
    exact ⟨rfl, HX4.out⟩
  have hge := Generate_c (fun _ => True) s hsm _ d w4 (RSy.good.bel HX.out HX4.out)
  go_wp2_with fail
  refine hge.mono ?_
  rintro e5 w5 ⟨A5, c5, rfl, hO5, hE5⟩
  have HX5 : Hid (Ext w w5) := HX4.out.trans' hE5
  have HT5 := Lib.hid (te_own hO5)
  clear c0 c1 c2 d0 d1 d2 z0 z1
  obtain ⟨hB, c0, c1, c2, d0, d1, d2, z0, z1⟩ := two3 HB4.out hE5
  have HB5 := Lib.hid hB
  clear hge hE5 hB HX4 HB4 hO5
  by_cases hge : genE s d = 0
  rotate_left
  · go_wp2_with fail
    go_ret
    exact ⟨rfl, HX5.out⟩
  have hck := Check_c (fun _ => True) k _ w5 (RSy.good.bel HY.out HX5.out)
  by_cases hk : okSyP k
  rotate_left
  · rw [show ckSy k = 8 from if_neg hk] at hck
    rw [hge]
    go_wp2_with fail
    refine hck.mono ?_
    rintro e6 w6 ⟨rfl, hE6⟩
    go_wp2_with fail
    go_ret
    exact ⟨rfl, HX5.out.trans' hE6⟩
  rw [show ckSy k = 0 from if_pos hk] at hck
  have hL := sound_law hge hk
  rw [hge]
  obtain ⟨ts, hts⟩ : ∃ ts, genR s d = ts := ⟨_, rfl⟩
  have hown := hL.own
  have himp := hL.imp
  have hconf := hL.conf
  have hsame := hL.same
  have HEACH := Lib.hid hL.each
  have HEXH := Lib.hid hL.exh
  rw [hts] at hown himp hconf hsame HEACH HEXH HT5
  rw [hts]
  clear hL hge hk hts
  go_wp2_with fail
  refine hck.mono ?_
  rintro e6 w6 ⟨rfl, hE6⟩
  have HX6 : Hid (Ext w w6) := HX5.out.trans' hE6
  have HT6 := Lib.hid ((RSl.good RTe.good).bel HT5.out hE6)
  clear c0 c1 c2 d0 d1 d2 z0 z1
  obtain ⟨hB, c0, c1, c2, d0, d1, d2, z0, z1⟩ := two3 HB5.out hE6
  have HB6 := Lib.hid hB
  clear hck hE6 hB HX5 HB5 HT5
  have hfl := Fails_c (fun _ => True) s _ ts _ w6 (RSy.good.bel HX.out HX6.out) HT6.out
  rw [hown.1, show decide (0 ≤ failsI s ts) = false from decide_eq_false (by have := hown.2; omega)] at hfl
  generalize max (failsI s ts) 0 = mx at hfl
  clear hown
  go_wp2_with fail
  refine hfl.mono ?_
  rintro e7 w7 ⟨rfl, hE7⟩
  have HX7 : Hid (Ext w w7) := HX6.out.trans' hE7
  have HT7 := Lib.hid ((RSl.good RTe.good).bel HT6.out hE7)
  clear c0 c1 c2 d0 d1 d2 z0 z1
  obtain ⟨hB, c0, c1, c2, d0, d1, d2, z0, z1⟩ := two3 HB6.out hE7
  have HB7 := Lib.hid hB
  clear hfl hE7 hB HX6 HB6 HT6
  have hcf := Conforms_c (fun _ => True) s k hsm _ _ d w7 (RSy.good.bel HX.out HX7.out) (RSy.good.bel HY.out HX7.out)
  rw [hconf.1, hconf.2] at hcf
  obtain ⟨ct, hct⟩ : ∃ ct, confT s k d = ct := ⟨_, rfl⟩
  obtain ⟨f, hf⟩ : ∃ f, failsI k ts = f := ⟨_, rfl⟩
  rw [hct, hf] at hcf
  rw [hct, hf] at hsame
  obtain ⟨bc, hbc⟩ : ∃ bc, decide (f < 0) = bc := ⟨_, rfl⟩
  obtain ⟨bf, hbf⟩ : ∃ bf, decide (0 ≤ f) = bf := ⟨_, rfl⟩
  obtain ⟨mi, hmi⟩ : ∃ mi, max f 0 = mi := ⟨_, rfl⟩
  rw [hbc] at hcf
  rw [hf] at HEXH
  have hf2 := fun cs v W h1 h2 => Fails_c (fun _ => True) k cs ts v W h1 h2
  rw [hf, himp, hbf, hmi] at hf2
  have HF2 := Lib.hid hf2
  have HBC := Lib.hid hbc
  have HBF := Lib.hid hbf
  have HMI := Lib.hid hmi
  have HSAME := Lib.hid hsame
  clear hct hf hconf himp hsame hf2 hbc hbf hmi
  go_wp2_with fail
  refine hcf.mono ?_
  rintro e8 w8 ⟨tv, tu, rfl, hte, hE8⟩
  have HX8 : Hid (Ext w w8) := HX7.out.trans' hE8
  have HT8 := Lib.hid ((RSl.good RTe.good).bel HT7.out hE8)
  have HTE := Lib.hid hte
  clear c0 c1 c2 d0 d1 d2 z0 z1
  obtain ⟨hB, c0, c1, c2, d0, d1, d2, z0, z1⟩ := two3 HB7.out hE8
  have HB8 := Lib.hid hB
  clear hcf hE8 hB HX7 HB7 HT7 hte
  obtain ⟨tv', tu', et, ht1, ht2⟩ := id HTE.out
  simp only [List.cons.injEq, and_true] at et
  obtain ⟨rfl, rfl⟩ := et
  obtain ⟨At, nt, rfl, _, _⟩ := ht1.val
  obtain ⟨Au, nu, rfl, _, _⟩ := ht2.val
  clear ht1 ht2
  obtain ⟨W9, hW9⟩ : ∃ W9, w8.alloc (.cells #[.slice At ct.tr.length nt, .slice Au ct.mu.length nu] 40) = W9 := ⟨_, rfl⟩
  have hE9 : Ext w8 W9 := by rw [← hW9]; exact (Ext.refl w8).alloc _
  have HT9B : Hid (BoxL W9 w8.heap.size 40 [.slice At ct.tr.length nt, .slice Au ct.mu.length nu]) := by
    show BoxL _ _ _ _
    rw [← hW9]
    exact BoxL.new w8 40 _
  have HX9 : Hid (Ext w W9) := HX8.out.trans' hE9
  have HT9 := Lib.hid ((RSl.good RTe.good).bel HT8.out hE9)
  have HTE9 := Lib.hid (RTe.good.bel HTE.out hE9)
  have hf2 := HF2.out _ _ W9 (RSy.good.bel HY.out HX9.out) HT9.out
  have HB9 := Lib.hid (two3 HB8.out hE9).1
  have HW9 := Lib.hid hW9
  clear hW9 hE9 HX8 HT8 HTE HB8 HF2
  go_wp2_with fail
  rw [HW9.out]
  obtain ⟨p9, hp9⟩ : ∃ p9, w8.heap.size = p9 := ⟨_, rfl⟩
  rw [hp9] at HT9B
  rw [hp9]
  clear hp9 HW9 c0 c1 c2 d0 d1 d2 z0 z1
  refine hf2.mono ?_
  rintro e10 w10 ⟨rfl, hE10⟩
  have HX10 : Hid (Ext w w10) := HX9.out.trans' hE10
  have HT10 := Lib.hid ((RSl.good RTe.good).bel HT9.out hE10)
  have HTE10 := Lib.hid (RTe.good.bel HTE9.out hE10)
  obtain ⟨hB, c0, c1, c2, d0, d1, d2, z0, z1⟩ := two3 HB9.out hE10
  have HB10 := Lib.hid hB
  have hbx := HT9B.out.ext hE10
  have x0 := hbx.cell 0 _
  have x1 := hbx.cell 1 _
  have xz := hbx.lt
  clear hf2 hE10 hB HX9 HB9 HT9 HTE9 HT9B hbx
  go_upto_region 13 with (fail)
  go_cut [129] (fun s129 wx => s129 = .bool false ∧ Ext w10 wx)
  case first =>
    by_cases hf : f < 0
    · obtain rfl : true = bc := by rw [← HBC.out]; exact (decide_eq_true hf).symm
      obtain rfl : false = bf := by rw [← HBF.out]; exact (decide_eq_false (by omega)).symm
      (refine wp_region_ext (by kernel_rfl) (by kernel_rfl) ?_; (repeat (first | go_big_quiet_step (fail) | quiet_step (fail))); refine wpQuiet_nil ?_)
      intro w11 hx11
      go_wp2_with fail
      go_meet
      exact ⟨rfl, hx11⟩
    · obtain rfl : false = bc := by rw [← HBC.out]; exact (decide_eq_false hf).symm
      obtain rfl : true = bf := by rw [← HBF.out]; exact (decide_eq_true (by omega)).symm
      obtain rfl : f = mi := by rw [← HMI.out]; omega
      obtain ⟨hfl, hfe⟩ := HSAME.out (by omega)
      have hf0 : (0 : Int) ≤ f := by omega
      have hf1 : f < (ts.length : Int) := by omega
      obtain ⟨b, off, cs, hA, hb, hSb, hl, hr, hcell⟩ := HT10.out.get f.toNat hfl
      rw [← hfe] at hr
      obtain ⟨y1, y2, rfl, hy1, hy2⟩ := id hr
      have a0 := hcell.get 0 _
      have a1 := hcell.get 1 _
      obtain ⟨Ay, cy, rfl, _, _⟩ := hy1.val
      obtain ⟨Az, cz, rfl, _, _⟩ := hy2.val
      have hst := fun X => SameTest_c (fun _ => True) ct ct _ _ (exto w10 X) (RTe.good.bel HTE10.out (exto_ext w10 X)) (RTe.good.bel hr (exto_ext w10 X))
      rw [sameTe_same] at hst
      subst hA
      simp only [Nat.add_zero] at a0
      clear hcell hl hSb hr hy1 hy2 hfe hfl
      (refine wp_region_ext (by kernel_rfl) (by kernel_rfl) ?_; (repeat (first | go_big_quiet_step ((go_at_call 24; exact quiet_extD (hst _))) | quiet_step ((go_at_call 24; exact quiet_extD (hst _))))); refine wpQuiet_nil ?_)
      intro w11 hx11
      go_wp2_with fail
      go_meet
      exact ⟨by rw [show decide ((ts.length : Int) ≤ f) = false from decide_eq_false (by omega)], hx11⟩
  case rest =>
  obtain ⟨rfl, hE11⟩ := hcut
  have HX11 : Hid (Ext w wc) := HX10.out.trans' hE11
  have HT11 := Lib.hid ((RSl.good RTe.good).bel HT10.out hE11)
  clear c0 c1 c2 d0 d1 d2 z0 z1 x0 x1 xz
  obtain ⟨hB, c0, c1, c2, d0, d1, d2, z0, z1⟩ := two3 HB10.out hE11
  have HB11 := Lib.hid hB
  clear hE11 hB HX10 HB10 HT10 HTE10 HSAME
  clear c0 c1 c2 d0 d1 d2 z0 z1
  go_wp2_with fail
  have hn5 : ts.length ≤ 9223372036854775807 := by
    obtain ⟨_, _, _, h1, h2⟩ := HT11.out.val
    omega
  go_loopw [132] (fun vi wr => ∃ j : Nat, j ≤ ts.length ∧ vi = .int .i64 j ∧ Ext wc wr) (fun vi _ => ts.length - (intOf vi).toNat)
  case atStart => exact ⟨0, Nat.zero_le _, rfl, Ext.refl _⟩
  case round =>
    obtain ⟨j, hj, rfl, hE⟩ := hrel
    by_cases hlt : j < ts.length
    · obtain ⟨b2, off, ctj, rfl, hb, hSb, hl, hr, hcell⟩ := ((RSl.good RTe.good).bel HT11.out hE).get j hlt
      have hea := HEACH.out _ (List.getElem_mem hlt)
      obtain ⟨t, hte⟩ : ∃ t, ts[j] = t := ⟨_, rfl⟩
      rw [hte] at hr hea
      obtain ⟨y1, y2, rfl, hy1, hy2⟩ := id hr
      have a0 := hcell.get 0 _
      have a1 := hcell.get 1 _
      simp only [Nat.add_zero] at a0
      obtain ⟨Ay, cy, rfl, _, _⟩ := hy1.val
      obtain ⟨Az, cz, rfl, _, _⟩ := hy2.val
      have hj1 : j + 1 ≤ ts.length := hlt
      clear hcell hl hSb hte
      have hbs := third (two3 HB11.out hE).1 40 (.slice Ay t.tr.length cy) (.slice Az t.mu.length cz)
      obtain ⟨Wb, hWb⟩ : ∃ Wb, wr.alloc (.cells #[.slice Ay t.tr.length cy, .slice Az t.mu.length cz] 40) = Wb := ⟨_, rfl⟩
      have hEb : Ext wr Wb := by rw [← hWb]; exact (Ext.refl wr).alloc _
      rw [hWb] at hbs
      have HBb := Lib.hid hbs
      obtain ⟨_, c0, c1, c2, d0, d1, d2, z0, z1⟩ := two3 HB11.out hE
      have HXb : Hid (Ext wc Wb) := hE.trans' hEb
      have HTR := Lib.hid (RTe.good.bel hr hEb)
      have HWB := Lib.hid hWb
      have hrf := Refuses_c (fun _ => True) s _ t.tr t.mu _ _ Wb (RSy.good.bel HX.out (HX11.out.trans' HXb.out)) (RLbs.good.bel hy1 hEb) (RLbs.good.bel hy2 hEb)
      rw [hea.1, hea.2.1] at hrf
      have hrf2 := fun W (hW : Ext Wb W) => Refuses_c (fun _ => True) k _ t.tr t.mu _ _ W (RSy.good.bel HY.out ((HX11.out.trans' HXb.out).trans' hW)) (RLbs.good.bel (RLbs.good.bel hy1 hEb) hW) (RLbs.good.bel (RLbs.good.bel hy2 hEb) hW)
      have hve := fun W (hW : Ext Wb W) => Verdicts_c (fun _ => True) k _ _ t W (RSy.good.bel HY.out ((HX11.out.trans' HXb.out).trans' hW)) (RTe.good.bel HTR.out hW)
      obtain ⟨rb, hrb⟩ : ∃ rb, refusesR k t.tr t.mu = rb := ⟨_, rfl⟩
      obtain ⟨r, hvr⟩ : ∃ r, verdR k t = r := ⟨_, rfl⟩
      have hiff := hea.2.2.2.2
      rw [hea.2.2.1, hrb] at hrf2
      rw [hea.2.2.2.1, hvr] at hve
      rw [hrb, hvr] at hiff
      have hdec : decide ((2 : Int) ∈ r) = rb := by cases rb <;> simpa using hiff.symm
      have HDEC := Lib.hid hdec
      clear hWb hea hr hy1 hy2 hbs hEb hrb hvr hiff hdec
      go_wp2_with fail
      rw [HWB.out]
      obtain ⟨pb, hpb⟩ : ∃ pb, wr.heap.size = pb := ⟨_, rfl⟩
      rw [hpb] at HBb
      rw [hpb]
      clear hpb
      refine hrf.mono ?_
      rintro e12 w12 ⟨rfl, hE12⟩
      clear c0 c1 c2 d0 d1 d2 z0 z1
      obtain ⟨hB, c0, c1, c2, d0, d1, d2, x0, x1, z0, z1, xz⟩ := three332 HBb.out hE12
      have HB12 := Lib.hid hB
      have HE12 := Lib.hid hE12
      clear hE12 hB hrf
      go_wp2_with fail
      refine (hrf2 _ HE12.out).mono ?_
      rintro e13 w13 ⟨rfl, hE13⟩
      clear c0 c1 c2 d0 d1 d2 x0 x1 z0 z1 xz
      obtain ⟨hB, c0, c1, c2, d0, d1, d2, x0, x1, z0, z1, xz⟩ := three332 HB12.out hE13
      have HE13 : Hid (Ext Wb w13) := HE12.out.trans' hE13
      clear hE13 hB hrf2 HB12 HE12
      go_wp2_with fail
      refine (hve _ HE13.out).mono ?_
      rintro e14 w14 ⟨Av, cv, rfl, hO14, hE14⟩
      have hct := containsInt (fun _ => True) r 2 _ w14 ((RSl.good RInt.good).mono (hO14.sl RInt.good (by decide)) fun _ _ _ => trivial)
      rw [HDEC.out] at hct
      have HE14 : Hid (Ext Wb w14) := HE13.out.trans' hE14
      clear hE14 hO14 hve HE13 c0 c1 c2 d0 d1 d2 x0 x1 z0 z1 xz
      go_wp2_with fail
      refine hct.mono ?_
      rintro e15 w15 ⟨rfl, rfl⟩
      clear hct
      cases rb
      · go_wp2_with fail
        go_roundw
        case rel => exact ⟨j + 1, hj1, by go_num, HXb.out.trans' HE14.out⟩
        case measure => simp [intOf]; omega
      · go_wp2_with fail
        go_roundw
        case rel => exact ⟨j + 1, hj1, by go_num, HXb.out.trans' HE14.out⟩
        case measure => simp [intOf]; omega
    · cases bf
      rotate_left
      · go_wp2_with fail
        go_ret
        exact ⟨rfl, HX11.out.trans' hE⟩
      obtain ⟨w16, rfl⟩ : ∃ w16, w16 = wr := ⟨_, rfl⟩
      have hexh := HEXH.out
      have hfn : f < 0 := by have := HBF.out; simp at this; omega
      have HEXH2 := Lib.hid (hexh hfn)
      have HX16 : Hid (Ext w w16) := HX11.out.trans' hE
      have HT16 := Lib.hid ((RSl.good RTe.good).bel HT11.out hE)
      have HB16 := Lib.hid (two3 HB11.out hE).1
      clear hexh hfn hE
      go_wp2_with fail
      go_loopw [183] (fun vi wq => ∃ j : Nat, j ≤ ts.length ∧ vi = .int .i64 j ∧ Ext w16 wq) (fun vi _ => ts.length - (intOf vi).toNat)
      case atStart => exact ⟨0, Nat.zero_le _, rfl, Ext.refl _⟩
      case round =>
        obtain ⟨i, hi, rfl, hE⟩ := hrel
        by_cases hlt2 : i < ts.length
        · obtain ⟨b2, off, ctj, rfl, hb, hSb, hl, hr, hcell⟩ := ((RSl.good RTe.good).bel HT16.out hE).get i hlt2
          have hmem := List.getElem_mem hlt2
          obtain ⟨t, hte⟩ : ∃ t, ts[i] = t := ⟨_, rfl⟩
          rw [hte] at hr hmem
          obtain ⟨y1, y2, rfl, hy1, hy2⟩ := id hr
          have a0 := hcell.get 0 _
          have a1 := hcell.get 1 _
          simp only [Nat.add_zero] at a0
          obtain ⟨Ay, cy, rfl, _, _⟩ := hy1.val
          obtain ⟨Az, cz, rfl, _, _⟩ := hy2.val
          have hi1 : i + 1 ≤ ts.length := hlt2
          clear hcell hl hSb hte
          have hbs := third (two3 HB16.out hE).1 40 (.slice Ay t.tr.length cy) (.slice Az t.mu.length cz)
          obtain ⟨_, c0, c1, c2, d0, d1, d2, z0, z1⟩ := two3 HB16.out hE
          obtain ⟨Wb, hWb⟩ : ∃ Wb, wr.alloc (.cells #[.slice Ay t.tr.length cy, .slice Az t.mu.length cz] 40) = Wb := ⟨_, rfl⟩
          have hEb : Ext wr Wb := by rw [← hWb]; exact (Ext.refl wr).alloc _
          rw [hWb] at hbs
          obtain ⟨pb, hpb⟩ : ∃ pb, wr.heap.size = pb := ⟨_, rfl⟩
          rw [hpb] at hbs
          have HBb := Lib.hid hbs
          have HXb : Hid (Ext w16 Wb) := hE.trans' hEb
          have HTR := Lib.hid (RLbs.good.bel hy1 hEb)
          have HWB := Lib.hid hWb
          have HPB := Lib.hid hpb
          have HMEM := Lib.hid hmem
          clear hWb hr hy1 hy2 hbs hEb hpb hmem hE
          go_wp2_with fail
          rw [HWB.out, HPB.out]
          clear c0 c1 c2 d0 d1 d2 z0 z1 HWB HPB
          go_loopw [189] (fun vi wr => ∃ j : Nat, j ≤ sets.length ∧ vi = .int .i64 j ∧ Ext Wb wr) (fun vi _ => sets.length - (intOf vi).toNat)
          case atStart => exact ⟨0, Nat.zero_le _, rfl, Ext.refl _⟩
          case round =>
            obtain ⟨j, hj, rfl, hE2⟩ := hrel
            by_cases hlt3 : j < sets.length
            · have HXz : Hid (Ext w wr) := HX16.out.trans' (HXb.out.trans' hE2)
              obtain ⟨b3, off3, cm, rfl, hb3, hSb3, hl3, hr3, hcell3⟩ := ((RSl.good RLbs.good).bel HZ.out HXz.out).get j hlt3
              obtain ⟨um, rfl⟩ : ∃ um, cm = [um] := by
                match cm, hl3 with
                | [um], _ => exact ⟨um, rfl⟩
              have m0 := hcell3.get 0 _
              simp only [Nat.add_zero, Nat.mul_one] at m0
              obtain ⟨l, hle⟩ : ∃ l, sets[j] = l := ⟨_, rfl⟩
              rw [hle] at hr3
              obtain ⟨Am, cm, rfl, _, _⟩ := hr3.val
              have hj1 : j + 1 ≤ sets.length := hlt3
              obtain ⟨_, c0, c1, c2, d0, d1, d2, x0, x1, z0, z1, xz⟩ := three332 HBb.out hE2
              have hrf := Refuses_c (fun _ => True) s _ t.tr l _ _ wr (RSy.good.bel HX.out HXz.out) (RLbs.good.bel HTR.out hE2) hr3
              have hrf2 := fun W (hW : Ext wr W) => Refuses_c (fun _ => True) k _ t.tr l _ _ W (RSy.good.bel HY.out (HXz.out.trans' hW)) (RLbs.good.bel (RLbs.good.bel HTR.out hE2) hW) (RLbs.good.bel hr3 hW)
              have hex := HEXH2.out t HMEM.out l
              obtain ⟨e1, he1⟩ : ∃ e1, refusesE s t.tr l = e1 := ⟨_, rfl⟩
              obtain ⟨e2, he2⟩ : ∃ e2, refusesE k t.tr l = e2 := ⟨_, rfl⟩
              obtain ⟨q1, hq1⟩ : ∃ q1, refusesR s t.tr l = q1 := ⟨_, rfl⟩
              obtain ⟨q2, hq2⟩ : ∃ q2, refusesR k t.tr l = q2 := ⟨_, rfl⟩
              rw [he1, hq1] at hrf
              rw [he2, hq2] at hrf2
              rw [he1, he2, hq1, hq2] at hex
              have HEX := Lib.hid hex
              have HE2 := Lib.hid hE2
              clear hcell3 hl3 hSb3 hle hr3 hex he1 he2 hq1 hq2 hE2
              go_wp2_with fail
              refine hrf.mono ?_
              rintro e20 w20 ⟨rfl, hE20⟩
              have HE20 : Hid (Ext Wb w20) := HE2.out.trans' hE20
              have hrf2 := hrf2 w20 hE20
              clear c0 c1 c2 d0 d1 d2 x0 x1 z0 z1 xz hrf hE20
              obtain ⟨_, c0, c1, c2, d0, d1, d2, x0, x1, z0, z1, xz⟩ := three332 HBb.out HE20.out
              go_wp2_with fail
              refine hrf2.mono ?_
              rintro e21 w21 ⟨rfl, hE21⟩
              have HE21 : Hid (Ext Wb w21) := HE20.out.trans' hE21
              clear c0 c1 c2 d0 d1 d2 x0 x1 z0 z1 xz hrf2 hE21
              obtain ⟨_, c0, c1, c2, d0, d1, d2, x0, x1, z0, z1, xz⟩ := three332 HBb.out HE21.out
              by_cases g1 : e1 = 0
              · subst g1
                by_cases g2 : e2 = 0
                · subst g2
                  cases q1
                  · obtain rfl : q2 = false := HEX.out rfl rfl rfl
                    go_wp2_with fail
                    go_roundw
                    case rel => exact ⟨j + 1, hj1, by go_num, HE21.out⟩
                    case measure => simp [intOf]; omega
                  · go_wp2_with fail
                    go_roundw
                    case rel => exact ⟨j + 1, hj1, by go_num, HE21.out⟩
                    case measure => simp [intOf]; omega
                · go_wp2_with fail
                  go_roundw
                  case rel => exact ⟨j + 1, hj1, by go_num, HE21.out⟩
                  case measure => simp [intOf]; omega
              · go_wp2_with fail
                go_roundw
                case rel => exact ⟨j + 1, hj1, by go_num, HE21.out⟩
                case measure => simp [intOf]; omega
            · go_wp2_with fail
              go_roundw
              case rel => exact ⟨i + 1, hi1, by go_num, HXb.out.trans' hE2⟩
              case measure => simp [intOf]; omega
        · go_wp2_with fail
          go_ret
          exact ⟨rfl, HX16.out.trans' hE⟩
end Go.Proofs.YtegenalcheooeaaGreat

