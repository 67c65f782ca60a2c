/- Of the proof of a law of the suites: LawLeast. -/
import Derived.Test.YtegenalcheooeaaGreatB31
import Derived.Test.YtegenalcheooeaaGreatB46
import Derived.Test.YtegenalcheooeaaGreatCA01
import Derived.Test.YtegenalcheooeaaGreatCG01
/- SuiteLeast: walked. -/
set_option linter.unusedSectionVars false
set_option linter.unusedSimpArgs false
set_option linter.unusedVariables false
namespace Go.Proofs.YtegenalcheooeaaGreat
open Go.RowKit
attribute [local go_sem] cell?_exto
open Go.Shelf

def TrueP (w : World) (e : Ending) (w' : World) : Prop := e = .returned (.bool true) ∧ Ext w w'
/-- part -/
def partB (a b : List Lb) : Bool := !(a.any fun x => !(b.any fun y => sameLb x y))
theorem sameLb_rfl (x : Lb) : sameLb x x = true := by
  rw [sameLb, decide_eq_true_eq]
  exact ordLb.refl x
theorem partB_iff (a b : List Lb) : partB a b = true ↔ ∀ x ∈ a, x ∈ b := by
  unfold partB
  rw [Bool.not_eq_true', List.any_eq_false]
  refine forall_congr' fun x => forall_congr' fun _ => ?_
  cases h : b.any fun y => sameLb x y with
  | false =>
    refine ⟨fun h' => absurd rfl h', fun hx => ?_⟩
    have := List.any_eq_false.1 h x hx
    rw [sameLb_rfl] at this
    exact absurd rfl this
  | true =>
    refine ⟨fun _ => ?_, fun _ => by decide⟩
    obtain ⟨y, hy, e⟩ := List.any_eq_true.1 h
    rw [sameLb, decide_eq_true_eq] at e
    rw [ordLb.eq _ _ e]
    exact hy
theorem eg36 : ∀ args w, (callFunc 36 args).run Tryz.prog w = .ok (.enter 36 args) w := enters_of Tryz.func36 (by kernel_rfl) rfl
theorem eg35 : ∀ args w, (callFunc 35 args).run Tryz.prog w = .ok (.enter 35 args) w := enters_of Tryz.func35 (by kernel_rfl) rfl
theorem eg33 : ∀ args w, (callFunc 33 args).run Tryz.prog w = .ok (.enter 33 args) w := enters_of Tryz.func33 (by kernel_rfl) rfl
theorem eg41 : ∀ args w, (callFunc 41 args).run Tryz.prog w = .ok (.enter 41 args) w := enters_of Tryz.func41 (by kernel_rfl) rfl
set_option maxHeartbeats 1000000 in
set_option maxRecDepth 100000 in
theorem part2_c (S : Nat → Prop) (x y : Lb) (cx cy : List Value) (B : Nat) (w : World) (hx : RLb S w x cx) (hy : RLb S w y cy) (hB : BoxL w B 61 cx) :
    Calls Tryz.prog 36 #[.agg cy.toArray, .pointer (some ⟨B, 0, none⟩)] w fun e w' => e = .returned (.bool (sameLb x y)) ∧ Ext w w' := by
  have hcon := fun W (hW : Ext w W) => SameLabel_c S x y cx cy W (RLb.good.bel hx hW) (RLb.good.bel hy hW)
  obtain ⟨_, vx, rfl, hvx⟩ := id hx
  obtain ⟨_, vy, rfl, hvy⟩ := id hy
  obtain ⟨A, c, rfl, _, _⟩ := hvx.val
  obtain ⟨A', c', rfl, _, _⟩ := hvy.val
  have c0 := hB.cell 0 _
  have c1 := hB.cell 1 _
  have z := hB.lt
  clear hx hy hvx hvy hB
  go_enter Tryz.func36, Tryz.ntmps36
  go_wp2_with fail
  refine (hcon _ (by repeat (first | exact Ext.refl _ | apply Ext.alloc | apply Below.drew | apply Ext.drewN | refine Ext.trans' ?_ (by assumption) | refine Ext.trans' ?_ (ExtD.ext (by assumption))))).mono ?_
  rintro e w1 ⟨rfl, h1⟩
  go_wp2_with fail
  go_ret
  exact ⟨rfl, (by repeat (first | exact Ext.refl _ | apply Ext.alloc | apply Below.drew | apply Ext.drewN | refine Ext.trans' ?_ (by assumption) | refine Ext.trans' ?_ (ExtD.ext (by assumption))))⟩
set_option maxHeartbeats 1000000 in
set_option maxRecDepth 100000 in
theorem part1_c (S : Nat → Prop) (x : Lb) (b : List Lb) (cx : List Value) (vb : Value) (B : Nat) (w : World) (hx : RLb S w x cx) (hb : RLbs S w b [vb]) (hB : w.cell? ⟨B, 0, none⟩ = some vb) :
    Calls Tryz.prog 35 #[.agg cx.toArray, .pointer (some ⟨B, 0, none⟩)] w fun e w' => e = .returned (.bool (!(b.any fun y => sameLb x y))) ∧ Ext w w' := by
  have hcon := fun B2 W (hW : Ext w W) (hB2 : BoxL W B2 61 cx) => conPLb (fun y => sameLb x y) S W b vb (RLbs.good.bel hb hW) 36 #[.pointer (some ⟨B2, 0, none⟩)] eg36
    (fun y _ cy W' hW' hr => part2_c S x y cx cy B2 W' (RLb.good.bel hx (hW.trans' hW')) hr (hB2.ext hW'))
  obtain ⟨_, vx, rfl, hvx⟩ := id hx
  obtain ⟨A, c, rfl, _, _⟩ := hvx.val
  obtain ⟨A', c', rfl, _, _⟩ := hb.val
  have z := World.block_lt_of_cell? w _ hB
  clear hx hb hvx
  go_enter Tryz.func35, Tryz.ntmps35
  go_wp2_with fail
  refine (hcon _ _ (by repeat (first | exact Ext.refl _ | apply Ext.alloc | apply Below.drew | apply Ext.drewN | refine Ext.trans' ?_ (by assumption) | refine Ext.trans' ?_ (ExtD.ext (by assumption)))) (BoxL.new _ _ _)).mono ?_
  rintro e w1 ⟨rfl, h1⟩
  go_wp2_with fail
  go_ret
  exact ⟨rfl, (by repeat (first | exact Ext.refl _ | apply Ext.alloc | apply Below.drew | apply Ext.drewN | refine Ext.trans' ?_ (by assumption) | refine Ext.trans' ?_ (ExtD.ext (by assumption))))⟩
set_option maxHeartbeats 1000000 in
set_option maxRecDepth 100000 in
theorem part_c (S : Nat → Prop) (a b : List Lb) (va vb : Value) (w : World) (ha : RLbs S w a [va]) (hb : RLbs S w b [vb]) :
    Calls Tryz.prog 33 #[va, vb] w fun e w' => e = .returned (.bool (partB a b)) ∧ Ext w w' := by
  have hcon := fun B W (hW : Ext w W) (hB : W.cell? ⟨B, 0, none⟩ = some vb) => conPLb (fun x => !(b.any fun y => sameLb x y)) S W a va (RLbs.good.bel ha hW) 35 #[.pointer (some ⟨B, 0, none⟩)] eg35
    (fun x _ cx W' hW' hr => part1_c S x b cx vb B W' hr (RLbs.good.bel hb (hW.trans' hW')) ((hW'.cell (World.block_lt_of_cell? W _ hB)).trans hB))
  obtain ⟨A, c, rfl, _, _⟩ := ha.val
  obtain ⟨A', c', rfl, _, _⟩ := hb.val
  clear ha hb
  go_enter Tryz.func33, Tryz.ntmps33
  go_wp2_with fail
  refine (hcon _ _ (by repeat (first | exact Ext.refl _ | apply Ext.alloc | apply Below.drew | apply Ext.drewN | refine Ext.trans' ?_ (by assumption) | refine Ext.trans' ?_ (ExtD.ext (by assumption)))) (by go_simp)).mono ?_
  rintro e w1 ⟨rfl, h1⟩
  go_wp2_with fail
  go_ret
  exact ⟨rfl, (by repeat (first | exact Ext.refl _ | apply Ext.alloc | apply Below.drew | apply Ext.drewN | refine Ext.trans' ?_ (by assumption) | refine Ext.trans' ?_ (ExtD.ext (by assumption))))⟩
set_option maxHeartbeats 1000000 in
set_option maxRecDepth 100000 in
theorem part4_c (S : Nat → Prop) (a b : List Lb) (va vb : Value) (B1 B2 : Nat) (w : World) (ha : RLbs S w a [va]) (hb : RLbs S w b [vb]) (h1 : w.cell? ⟨B1, 0, none⟩ = some (.func (.func 33) #[] #[])) (h2 : w.cell? ⟨B2, 0, none⟩ = some vb) :
    Calls Tryz.prog 41 #[va, .pointer (some ⟨B1, 0, none⟩), .pointer (some ⟨B2, 0, none⟩)] w fun e w' => e = .returned (.bool (partB a b)) ∧ Ext w w' := by
  have hcon := fun W (hW : Ext w W) => part_c S a b va vb W (RLbs.good.bel ha hW) (RLbs.good.bel hb hW)
  obtain ⟨A, c, rfl, _, _⟩ := ha.val
  obtain ⟨A', c', rfl, _, _⟩ := hb.val
  clear ha hb
  go_enter Tryz.func41, Tryz.ntmps41
  go_wp2_with fail
  refine (hcon _ (by repeat (first | exact Ext.refl _ | apply Ext.alloc | apply Below.drew | apply Ext.drewN | refine Ext.trans' ?_ (by assumption) | refine Ext.trans' ?_ (ExtD.ext (by assumption))))).mono ?_
  rintro e w1 ⟨rfl, h3⟩
  go_wp2_with fail
  go_ret
  exact ⟨rfl, (by repeat (first | exact Ext.refl _ | apply Ext.alloc | apply Below.drew | apply Ext.drewN | refine Ext.trans' ?_ (by assumption) | refine Ext.trans' ?_ (ExtD.ext (by assumption))))⟩
/-- A box with three cells, one with one, one with one. -/
theorem three {W W' : World} {B B' B'' : Nat} {t t' t'' : TypeId} {a b c d e : Value} (h : BoxL W B t [a, b, c] ∧ BoxL W B' t' [d] ∧ BoxL W B'' t'' [e]) (he : Ext W W') :
    (BoxL W' B t [a, b, c] ∧ BoxL W' B' t' [d] ∧ BoxL W' B'' t'' [e]) ∧ W'.cell? ⟨B, 0, none⟩ = some a ∧ W'.cell? ⟨B, 1, none⟩ = some b ∧ W'.cell? ⟨B, 2, none⟩ = some c ∧ W'.cell? ⟨B', 0, none⟩ = some d ∧ W'.cell? ⟨B'', 0, none⟩ = some e ∧ B < W'.heap.size ∧ B' < W'.heap.size ∧ B'' < W'.heap.size :=
  have h0 := h.1.ext he
  have h1 := h.2.1.ext he
  have h2 := h.2.2.ext he
  ⟨⟨h0, h1, h2⟩, h0.cell 0 _, h0.cell 1 _, h0.cell 2 _, h1.cell 0 _, h2.cell 0 _, h0.lt, h1.lt, h2.lt⟩
theorem ROwn.form {l : List Lb} {v : Value} {base : Nat} {T : Nat → Prop} {w : World} (h : ROwn RLb 2 61 base T w l v) (hl : 0 < l.length) : ∃ g cap, v = .slice (some ⟨g, 0, none⟩) l.length cap := by
  obtain ⟨news, h1, _⟩ := h
  exact Joins.ownsRow_form h1 hl
theorem two31 {W W' : World} {B B' : Nat} {t t' : TypeId} {a b c d : Value} (h : BoxL W B t [a, b, c] ∧ BoxL W B' t' [d]) (he : Ext W W') :
    (BoxL W' B t [a, b, c] ∧ BoxL W' B' t' [d]) ∧ W'.cell? ⟨B, 0, none⟩ = some a ∧ W'.cell? ⟨B, 1, none⟩ = some b ∧ W'.cell? ⟨B, 2, none⟩ = some c ∧ W'.cell? ⟨B', 0, none⟩ = some d ∧ B < W'.heap.size ∧ B' < W'.heap.size :=
  have h0 := h.1.ext he
  have h1 := h.2.ext he
  ⟨⟨h0, h1⟩, h0.cell 0 _, h0.cell 1 _, h0.cell 2 _, h1.cell 0 _, h0.lt, h1.lt⟩
set_option maxHeartbeats 4000000 in
set_option maxRecDepth 100000 in
theorem least6_c (w : World) (s : Sy) (hsm : SmallSy s) (cs : List Value) (hx : RSy (fun _ => True) w s cs) (tr : List Lb) (htl : tr.length ≤ 1048576) (vt : Value) (ht : RLbs (fun _ => True) w tr [vt]) (st : List Lb) (hsl : st.length ≤ 1048576) (vs : Value) (hs : RLbs (fun _ => True) w st [vs]) :
    Calls Tryz.prog 6 #[.agg cs.toArray, vt, vs] w (TrueP w) := by
  obtain ⟨_, v, u, rfl, hv, hu⟩ := id hx
  obtain ⟨A, c, rfl, _, _⟩ := hv.val
  obtain ⟨B, b, rfl, _, _⟩ := hu.val
  obtain ⟨A2, c2, rfl, hc2, hc20⟩ := ht.val
  obtain ⟨A3, c3, rfl, hc3, hc30⟩ := hs.val
  have HX := Lib.hid hx
  have HT := Lib.hid ht
  have HS := Lib.hid hs
  clear hx ht hs hv hu
  go_enter Tryz.func6, Tryz.ntmps6
  go_wp2_with fail
  refine (sane_c _).mono ?_
  rintro e1 w1 ⟨rfl, h1⟩
  have HX1 : Hid (Ext w w1) := (by repeat (first | exact Ext.refl _ | apply Ext.alloc | apply Below.drew | apply Ext.drewN | refine Ext.trans' ?_ (by assumption) | refine Ext.trans' ?_ (ExtD.ext (by assumption))))
  obtain ⟨hB, c0, c1, c2', d0, z0, z1⟩ := two31 (B := w.heap.size) (t := 25) (t' := 22) ⟨(BoxL.new w 25 [.int .i64 s.n, .slice A s.ls.length c, .slice B s.es.length b]).ext ((Ext.refl _).alloc _), BoxL.new _ 22 [.slice A3 st.length c3]⟩ h1
  simp only [World.size_alloc] at hB d0 z1
  have HB := Lib.hid hB
  clear h1 hB
  have hsml := fun W (hW : Ext w1 W) => small_c (fun _ => True) 10 [s] _ _ (lit_of RSy.good (by decide) (e := 25) (flat1 (RSy.good.bel HX.out (HX1.out.trans' hW)) rfl) (by simp))
  go_wp2_with fail
  refine (hsml _ (Ext.refl _)).mono ?_
  rintro e2 w2 ⟨bb, rfl, h2⟩
  have hE2 : Ext w1 w2 := Ext.trans' ((Ext.refl w1).alloc _) h2
  have HX2 : Hid (Ext w w2) := HX1.out.trans' hE2
  clear c0 c1 c2' d0 z0 z1
  obtain ⟨hB, c0, c1, c2', d0, z0, z1⟩ := two31 HB.out hE2
  have HB2 := Lib.hid hB
  clear hsml h2 hE2 hB HX1 HB
  cases bb
  · go_wp2_with fail
    go_ret
    exact ⟨rfl, HX2.out⟩
  by_cases h45 : 45 < tr.length
  · go_wp2_with fail
    go_ret
    exact ⟨rfl, HX2.out⟩
  have hsl1 := slight_c (fun _ => True) tr _ w2 (RLbs.good.bel HT.out HX2.out) (by omega)
  go_wp2_with fail
  clear h45
  refine hsl1.mono ?_
  rintro e3 w3 ⟨rfl, hE3⟩
  have HX3 : Hid (Ext w w3) := HX2.out.trans' hE3
  clear c0 c1 c2' d0 z0 z1
  obtain ⟨hB, c0, c1, c2', d0, z0, z1⟩ := two31 HB2.out hE3
  have HB3 := Lib.hid hB
  clear hsl1 hE3 hB HX2 HB2
  cases hbb : slightB tr
  · clear hbb
    go_wp2_with fail
    go_ret
    exact ⟨rfl, HX3.out⟩
  clear hbb
  have hsl1 := slight_c (fun _ => True) st _ w3 (RLbs.good.bel HS.out HX3.out) (by omega)
  go_wp2_with fail
  refine hsl1.mono ?_
  rintro e4 w4 ⟨rfl, hE4⟩
  have HX4 : Hid (Ext w w4) := HX3.out.trans' hE4
  clear c0 c1 c2' d0 z0 z1
  obtain ⟨hB, c0, c1, c2', d0, z0, z1⟩ := two31 HB3.out hE4
  have HB4 := Lib.hid hB
  clear hsl1 hE4 hB HX3 HB3
  cases hbb : slightB st
  · clear hbb
    go_wp2_with fail
    go_ret
    exact ⟨rfl, HX4.out⟩
  clear hbb
  have hmu := Musts_c (fun _ => True) s hsm _ tr _ w4 (RSy.good.bel HX.out HX4.out) (RLbs.good.bel HT.out HX4.out)
  go_wp2_with fail
  refine hmu.mono ?_
  rintro e5 w5 ⟨A5, c5, rfl, hO5, hE5⟩
  have HX5 : Hid (Ext w w5) := HX4.out.trans' hE5
  have HR5 : Hid (RSl RLbs 1 (fun _ => True) w5 (mustR s tr) [.slice A5 (mustR s tr).length c5]) := (RSl.good RLbs.good).mono (hO5.sl RLbs.good (by decide)) fun _ _ _ => trivial
  clear c0 c1 c2' d0 z0 z1
  obtain ⟨hB, c0, c1, c2', d0, z0, z1⟩ := two31 HB4.out hE5
  have HB5 := Lib.hid hB
  clear hmu hE5 hB HX4 HB4 hO5
  by_cases hE : mustE s tr = 0
  rotate_left
  · go_wp2_with fail
    go_ret
    exact ⟨rfl, HX5.out⟩
  have HL := Lib.hid (least_law hE)
  have HML : Hid (∀ m ∈ mustR s tr, m.length ≤ 64) := by
    obtain ⟨_, _, h⟩ := mustE_ok hE
    have := (mustsL_len s (afterL s tr)).2
    rw [h] at this
    exact this
  have haf0 : afterE s tr = 0 := by
    obtain ⟨h1, h2, _⟩ := mustE_ok hE
    rw [afterE, if_pos h1, if_pos h2]
  rw [hE]
  have HANTI := Lib.hid HL.out.anti
  have HNO := Lib.hid HL.out.no
  have HLESS := Lib.hid HL.out.less
  have HCOV := Lib.hid HL.out.cov
  obtain ⟨ms, hms⟩ : ∃ ms, mustR s tr = ms := ⟨_, rfl⟩
  rw [hms] at HR5 HML HANTI HNO HLESS HCOV
  rw [hms]
  have HAF := Lib.hid haf0
  clear hE hms HL haf0
  obtain ⟨W6, hW6⟩ : ∃ W6, w5.alloc (.cells #[.func (.func 33) #[] #[]] 64) = W6 := ⟨_, rfl⟩
  have hE6 : Ext w5 W6 := by rw [← hW6]; exact (Ext.refl w5).alloc _
  have hB6 : BoxL W6 w5.heap.size 64 [.func (.func 33) #[] #[]] := by rw [← hW6]; exact BoxL.new w5 64 [.func (.func 33) #[] #[]]
  have HB6 : Hid (BoxL W6 w.heap.size 25 [.int .i64 s.n, .slice A s.ls.length c, .slice B s.es.length b] ∧ BoxL W6 (w.heap.size + 1) 22 [.slice A3 st.length c3] ∧ BoxL W6 w5.heap.size 64 [.func (.func 33) #[] #[]]) := ⟨HB5.out.1.ext hE6, HB5.out.2.ext hE6, hB6⟩
  have HX6 : Hid (Ext w W6) := HX5.out.trans' hE6
  have HR6 := Lib.hid ((RSl.good RLbs.good).bel HR5.out hE6)
  have HW6 := Lib.hid hW6
  obtain ⟨q, hq⟩ : ∃ q, w5.heap.size = q := ⟨_, rfl⟩
  rw [hq] at HB6
  have HQ := Lib.hid hq
  clear hE6 hB6 hW6 hq HB5 HX5 HR5
  go_wp2_with fail
  rw [HW6.out, HQ.out]
  clear c0 c1 c2' d0 z0 z1 HW6 HQ
  have hn5 : ms.length ≤ 9223372036854775807 := by
    obtain ⟨_, _, _, h1, h2⟩ := HR6.out.val
    omega
  go_loopw [54] (fun vi wr => ∃ i : Nat, i ≤ ms.length ∧ vi = .int .i64 i ∧ Ext W6 wr) (fun vi _ => ms.length - (intOf vi).toNat)
  case atStart => exact ⟨0, Nat.zero_le _, rfl, Ext.refl _⟩
  case round =>
    obtain ⟨i, hi, rfl, hE⟩ := hrel
    by_cases hlt : i < ms.length
    · obtain ⟨b2, off, cm, rfl, hb, hSb, hl, hr, hcell⟩ := ((RSl.good RLbs.good).bel HR6.out hE).get i hlt
      obtain ⟨um, rfl⟩ : ∃ um, cm = [um] := by
        match cm, hl with
        | [um], _ => exact ⟨um, rfl⟩
      have a0 := hcell.get 0 _
      simp only [Nat.add_zero, Nat.mul_one] at a0
      have hmem := List.getElem_mem hlt
      have hno := HNO.out _ hmem
      have hless := HLESS.out _ hmem
      have hl64 := HML.out _ hmem
      have hanti := fun j hj h => HANTI.out i j hlt hj h
      obtain ⟨x, hxe⟩ : ∃ x, ms[i] = x := ⟨_, rfl⟩
      rw [hxe] at hr hno hless hl64
      simp only [hxe] at hanti
      obtain ⟨Ax, cx, rfl, _, _⟩ := hr.val
      have hi1 : i + 1 ≤ ms.length := hlt
      have hx0 := hno.2.2
      have HR := Lib.hid hr
      have HNOX := Lib.hid hno
      have HLESSX := Lib.hid hless
      have HANTIX := Lib.hid hanti
      have HEO := Lib.hid hE
      obtain ⟨w7, rfl⟩ : ∃ w7, w7 = wr := ⟨_, rfl⟩
      clear hcell hl hSb hxe hr hno hless hanti hmem hE
      obtain ⟨_, c0, c1, c2', d0, f0, z0, z1, zf⟩ := three HB6.out HEO.out
      go_wp2_with fail
      clear c0 c1 c2' d0 f0 z0 z1 zf a0
      go_loopw [61] (fun vi wq => ∃ j : Nat, j ≤ ms.length ∧ vi = .int .i64 j ∧ Ext w7 wq) (fun vi _ => ms.length - (intOf vi).toNat)
      case atStart => exact ⟨0, Nat.zero_le _, rfl, Ext.refl _⟩
      case round =>
        obtain ⟨j, hj, rfl, hE2⟩ := hrel
        by_cases hlt2 : j < ms.length
        · obtain ⟨b3, off3, cm, hbb, hb3, hSb3, hl3, hr3, hcell3⟩ := ((RSl.good RLbs.good).bel HR6.out (HEO.out.trans' hE2)).get j hlt2
          obtain ⟨um, rfl⟩ : ∃ um, cm = [um] := by
            match cm, hl3 with
            | [um], _ => exact ⟨um, rfl⟩
          injection hbb with hbb
          injection hbb with hbb1 hbb2
          subst hbb1 hbb2
          have a0 := hcell3.get 0 _
          simp only [Nat.add_zero, Nat.mul_one] at a0
          have hax := HANTIX.out j hlt2
          obtain ⟨y, hye⟩ : ∃ y, ms[j] = y := ⟨_, rfl⟩
          rw [hye] at hr3 hax
          obtain ⟨Ay, cy, rfl, _, _⟩ := hr3.val
          have hj1 : j + 1 ≤ ms.length := hlt2
          have hpt := part_c (fun _ => True) x y _ _ wr (RLbs.good.bel HR.out hE2) hr3
          obtain ⟨_, c0, c1, c2', d0, f0, z0, z1, zf⟩ := three HB6.out (HEO.out.trans' hE2)
          have HE2 := Lib.hid hE2
          by_cases hij : i = j
          · subst hij
            clear hcell3 hl3 hSb3 hye hr3 hax hpt hE2
            go_wp2_with fail
            go_roundw
            case rel => exact ⟨i + 1, hj1, by go_num, HE2.out⟩
            case measure => simp [intOf]; omega
          · have hpf : partB x y = false := by
              cases h : partB x y with
              | false => rfl
              | true =>
                obtain ⟨z, hz1, hz2⟩ := hax hij
                exact absurd ((partB_iff x y).1 h z hz1) hz2
            rw [hpf] at hpt
            have hij2 : ¬ (i : Int) = (j : Int) := by omega
            clear hcell3 hl3 hSb3 hye hr3 hax hE2 hpf
            go_wp2_with fail
            refine hpt.mono ?_
            rintro e7 w8 ⟨rfl, hE8⟩
            go_wp2_with fail
            go_roundw
            case rel => exact ⟨j + 1, hj1, by go_num, HE2.out.trans' hE8⟩
            case measure => simp [intOf]; omega
        · have HE2 := Lib.hid hE2
          have HX7 : Hid (Ext w wr) := HX6.out.trans' (HEO.out.trans' hE2)
          have hrf := Refuses_c (fun _ => True) s _ tr x _ _ wr (RSy.good.bel HX.out HX7.out) (RLbs.good.bel HT.out HX7.out) (RLbs.good.bel HR.out hE2)
          rw [HNOX.out.1, HNOX.out.2.1] at hrf
          obtain ⟨_, c0, c1, c2', d0, f0, z0, z1, zf⟩ := three HB6.out (HEO.out.trans' hE2)
          have hxn : ((x.length : Int) == 0) = false := by simp only [beq_eq_false_iff_ne, ne_eq]; omega
          clear hE2
          go_wp2_with fail
          refine hrf.mono ?_
          rintro e9 w9 ⟨rfl, hE9⟩
          have HX9 : Hid (Ext W6 w9) := (HEO.out.trans' HE2.out).trans' hE9
          have HR9 := Lib.hid (RLbs.good.bel HR.out (HE2.out.trans' hE9))
          clear hrf hE9 HX7 HE2 c0 c1 c2' d0 f0 z0 z1 zf
          go_wp2_with fail
          clear hxn
          go_loopw [95] (fun vi wq => ∃ k : Nat, k ≤ x.length ∧ vi = .int .i64 k ∧ Ext w9 wq) (fun vi _ => x.length - (intOf vi).toNat)
          case atStart => exact ⟨0, Nat.zero_le _, rfl, Ext.refl _⟩
          case round =>
            obtain ⟨k, hk, rfl, hE3⟩ := hrel
            by_cases hlt3 : k < x.length
            · have hcl := cloneLb (fun _ => True) x _ wr (RLbs.good.bel HR9.out hE3) (by omega)
              have hk1 : k + 1 ≤ x.length := hlt3
              have HE3 := Lib.hid hE3
              have hle := HLESSX.out k hlt3
              clear hE3
              go_wp2_with fail
              refine hcl.mono ?_
              rintro e10 w10 ⟨v10, rfl, hO10, hE10⟩
              obtain ⟨g, cap, rfl⟩ := hO10.form hx0
              have hde := delete_c _ _ x g cap k w10 hO10 hlt3 (by omega)
              have hgo : wr.heap.size ≤ g := (hO10.own_lt rfl).1
              have HE10 := Lib.hid hE10
              clear hcl hO10 hE10
              go_wp2_with fail
              refine hde.mono ?_
              rintro e11 w11 ⟨rfl, hO11, hb11⟩
              have hE11 : Ext wr w11 := Bt.new HE10.out hb11 fun q _ h => by rw [h]; exact hgo
              have HX11 : Hid (Ext W6 w11) := (HX9.out.trans' HE3.out).trans' hE11
              have hrf := Refuses_c (fun _ => True) s _ tr (x.eraseIdx k) _ _ w11 (RSy.good.bel HX.out (HX6.out.trans' HX11.out)) (RLbs.good.bel HT.out (HX6.out.trans' HX11.out)) (RLbs.good.mono (hO11.sl RLb.good (by decide)) fun _ _ _ => trivial)
              rw [hle.1, hle.2] at hrf
              obtain ⟨_, c0, c1, c2', d0, f0, z0, z1, zf⟩ := three HB6.out HX11.out
              have HE11 : Hid (Ext w9 w11) := HE3.out.trans' hE11
              clear hde hO11 hb11 hE11 hle HE10 HE3
              go_wp2_with fail
              refine hrf.mono ?_
              rintro e12 w12 ⟨rfl, hE12⟩
              have HE12 : Hid (Ext w9 w12) := HE11.out.trans' hE12
              clear hrf hE12 c0 c1 c2' d0 f0 z0 z1 zf
              go_wp2_with fail
              go_roundw
              case rel => exact ⟨k + 1, hk1, by go_num, HE12.out⟩
              case measure => simp [intOf]; omega
            · go_wp2_with fail
              go_roundw
              case rel => exact ⟨i + 1, hi1, by go_num, HX9.out.trans' hE3⟩
              case measure => simp [intOf]; omega
    · have HX7 : Hid (Ext w wr) := HX6.out.trans' hE
      have haf := After_c (fun _ => True) s _ tr _ wr (RSy.good.bel HX.out HX7.out) (RLbs.good.bel HT.out HX7.out)
      rw [HAF.out] at haf
      obtain ⟨_, c0, c1, c2', d0, f0, z0, z1, zf⟩ := three HB6.out hE
      have HE := Lib.hid hE
      obtain ⟨r, hr⟩ : ∃ r, afterR s tr = r := ⟨_, rfl⟩
      have hcov := HCOV.out st HAF.out
      rw [hr] at haf hcov
      clear hE hr
      go_wp2_with fail
      refine haf.mono ?_
      rintro e7 w7 ⟨A7, c7, rfl, hO7, hE7⟩
      have HE7 : Hid (Ext W6 w7) := HE.out.trans' hE7
      have hrf := Refuses_c (fun _ => True) s _ tr st _ _ w7 (RSy.good.bel HX.out (HX6.out.trans' HE7.out)) (RLbs.good.bel HT.out (HX6.out.trans' HE7.out)) (RLbs.good.bel HS.out (HX6.out.trans' HE7.out))
      obtain ⟨e1, he1⟩ : ∃ e1, refusesE s tr st = e1 := ⟨_, rfl⟩
      obtain ⟨q1, hq1⟩ : ∃ q1, refusesR s tr st = q1 := ⟨_, rfl⟩
      rw [he1, hq1] at hrf hcov
      have HCOVX := Lib.hid hcov
      clear haf hO7 hE7 HE HX7 he1 hq1 hcov c0 c1 c2' d0 f0 z0 z1 zf
      obtain ⟨_, c0, c1, c2', d0, f0, z0, z1, zf⟩ := three HB6.out HE7.out
      go_wp2_with fail
      refine hrf.mono ?_
      rintro e8 w8 ⟨rfl, hE8⟩
      have HE8 : Hid (Ext W6 w8) := HE7.out.trans' hE8
      have HX8 : Hid (Ext w w8) := HX6.out.trans' HE8.out
      clear hrf hE8 HE7 c0 c1 c2' d0 f0 z0 z1 zf
      obtain ⟨_, c0, c1, c2', d0, f0, z0, z1, zf⟩ := three HB6.out HE8.out
      by_cases g1 : e1 = 0
      rotate_left
      · go_wp2_with fail
        go_ret
        exact ⟨rfl, HX8.out⟩
      by_cases g2 : r.length = 0
      · subst g1
        go_wp2_with fail
        go_ret
        exact ⟨rfl, HX8.out⟩
      cases q1
      rotate_left
      · subst g1
        go_wp2_with fail
        go_ret
        exact ⟨rfl, HX8.out⟩
      have hany : (ms.any fun x => partB x st) = true := by
        obtain ⟨m, hm, h⟩ := HCOVX.out g1 (by omega) rfl
        exact List.any_eq_true.2 ⟨m, hm, (partB_iff m st).2 h⟩
      have hcon := conPLbs (fun x => partB x st) (fun _ => True) w8 ms _ ((RSl.good RLbs.good).bel HR6.out HE8.out) 41 #[.pointer (some ⟨q, 0, none⟩), .pointer (some ⟨w.heap.size + 1, 0, none⟩)] eg41
        (fun x _ cx W' hW' hr => by
          obtain ⟨u, rfl⟩ : ∃ u, cx = [u] := by
            obtain ⟨A, c, rfl, _⟩ := hr
            exact ⟨_, rfl⟩
          exact part4_c (fun _ => True) x st u _ q (w.heap.size + 1) W' hr (RLbs.good.bel HS.out (HX8.out.trans' hW')) ((three HB6.out (HE8.out.trans' hW')).1.2.2.cell 0 _) ((three HB6.out (HE8.out.trans' hW')).1.2.1.cell 0 _))
      rw [hany] at hcon
      subst g1
      clear hany HCOVX c0 c1 c2' d0 f0 z0 z1 zf
      go_wp2_with fail
      refine hcon.mono ?_
      rintro e9 w9 ⟨rfl, hE9⟩
      go_wp2_with fail
      go_ret
      exact ⟨rfl, HX8.out.trans' hE9⟩
end Go.Proofs.YtegenalcheooeaaGreat

