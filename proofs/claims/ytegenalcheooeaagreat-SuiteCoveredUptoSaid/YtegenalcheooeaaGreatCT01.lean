/- Of the proof of a law of the suites: LawCovered. -/
import Derived.Test.YtegenalcheooeaaGreatB22
import Derived.Test.YtegenalcheooeaaGreatB46
import Derived.Test.YtegenalcheooeaaGreatCD01
import Derived.Test.YtegenalcheooeaaGreatCE01
/- SuiteCovered: walked. -/
set_option linter.unusedSectionVars false
set_option linter.unusedSimpArgs false
set_option linter.unusedVariables false
namespace Go.Proofs.YtegenalcheooeaaGreat
open Go.RowKit
attribute [local go_sem] cell?_exto
open Go.Shelf

def TrueP (w : World) (e : Ending) (w' : World) : Prop := e = .returned (.bool true) ∧ Ext w w'
/-- indices -/
def idxT (l : List Bool) (k : Nat) : List Int := ((List.range k).filter (bitB l)).map fun i : Nat => (i : Int)
abbrev idxL (l : List Bool) : List Int := idxT l l.length
theorem idxT_succ (l : List Bool) (k : Nat) : idxT l (k + 1) = if bitB l k = true then idxT l k ++ [(k : Int)] else idxT l k := by
  unfold idxT
  rw [List.range_succ, List.filter_append, List.map_append, List.filter_cons]
  by_cases h : bitB l k = true
  · rw [if_pos h, if_pos h]
    rfl
  · rw [if_neg h, if_neg h, List.filter_nil, List.map_nil, List.append_nil]
theorem idxT_mem (l : List Bool) (k : Nat) (j : Int) : j ∈ idxT l k ↔ ∃ i : Nat, i < k ∧ bitB l i = true ∧ (i : Int) = j := by
  unfold idxT
  simp only [List.mem_map, List.mem_filter, List.mem_range, and_assoc]
theorem idxT_len (l : List Bool) (k : Nat) : (idxT l k).length ≤ k := by
  unfold idxT
  have := List.length_filter_le (bitB l) (List.range k)
  rw [List.length_map]
  simpa using this
theorem bit_get {l : List Bool} {k : Nat} (h : k < l.length) : bitB l k = l[k] := by simp [bitB, List.getD_eq_getElem?_getD, List.getElem?_eq_getElem h]
theorem info3p : (Tryz.prog.info? 3).map (fun i => (i.zero, i.size, i.bytes)) = some (some (.int .i64 0), 1, 8) := by kernel_rfl
def RowP (r : List Int) (w : World) (e : Ending) (w' : World) : Prop := ∃ A c, e = .returned (.slice A r.length c) ∧ ROwn RInt 1 3 w.heap.size (fun _ => False) w' r (.slice A r.length c) ∧ Ext w w'
set_option maxHeartbeats 1000000 in
set_option maxRecDepth 100000 in
theorem indices_c (S : Nat → Prop) (l : List Bool) (v : Value) (w : World) (hx : RSl RBool 1 S w l [v]) (hl : l.length ≤ 1000000) : Calls Tryz.prog 51 #[v] w (RowP (idxL l) w) := by
  obtain ⟨A, c, rfl, hc, hc0⟩ := hx.val
  have HX := Lib.hid hx
  clear hx
  go_enter Tryz.func51, Tryz.ntmps51
  go_wp2_with fail
  go_loopw [3, 8] (fun v3 vi wr => ∃ (k : Nat) (ys : List Int) (Ao : Option Addr) (co : Nat), k ≤ l.length ∧ vi = .int .i64 k ∧ v3 = .slice Ao ys.length co ∧ Hid (ys = idxT l k) ∧ Ext w wr ∧ Hid (ROwn RInt 1 3 w.heap.size (fun _ => False) wr ys (.slice Ao ys.length co))) (fun _ vi _ => l.length - (intOf vi).toNat)
  case atStart => exact ⟨0, [], none, 0, Nat.zero_le _, rfl, rfl, by simp [idxT, Hid], Ext.refl _, ROwn.nil ..⟩
  case round =>
    obtain ⟨k, ys, Ao, co, hk, rfl, rfl, hY, hE, hO⟩ := hrel
    by_cases hlt : k < l.length
    · obtain ⟨b, off, cs, rfl, hb, hSb, hl1, hr, hcell⟩ := ((RSl.good RBool.good).bel HX.out hE).get k hlt
      obtain rfl : cs = [.bool l[k]] := hr
      have a0 := hcell.get 0 _
      simp only [Nat.add_zero, Nat.mul_one] at a0
      have HST := Lib.hid (idxT_succ l k)
      rw [bit_get hlt] at HST
      cases hb2 : l[k]
      · rw [hb2] at a0 HST
        clear hl1 hcell hSb hb2
        go_wp2_with fail
        go_roundw
        case rel => exact ⟨k + 1, ys, Ao, co, by omega, by go_num, rfl, by rw [hY.out]; exact HST.out.symm, hE, hO.out⟩
        case measure => simp [intOf]; omega
      · rw [hb2] at a0 HST
        have hyl : ys.length ≤ 1000000 := by have := idxT_len l k; rw [hY.out]; omega
        obtain ⟨g2, c2, w2, hr2, ho2, hb3, _, _⟩ := push1 RInt.good (by decide) w.heap.size 3 53 (.int .i64 0) 8 Tryz.underlying53 info3p rfl (by decide) (fun _ => False) wr ys (.slice Ao ys.length co) (k : Int) [.int .i64 k] hO.out ⟨rfl, by unfold I64; omega⟩ hE.size hyl
        have HO2 := Lib.hid ho2
        have hlo : ∀ q, (Value.slice Ao ys.length co).ownBlock = some q → w.heap.size ≤ q := fun q e => (hO.out.own_lt e).1
        have HB2 : Hid (Ext w w2) := Bt.new hE hb3 fun q _ h => hlo q h
        have HY2 : Hid (ys ++ [(k : Int)] = idxT l (k + 1)) := by
          show _ = _
          rw [hY.out]
          exact HST.out.symm
        clear hl1 hcell hSb hb2 hO ho2 hb3 hlo hY HST
        go_wp2_with (at_builtin; refine wpList_append_run rfl _ _ _ rfl _ _ _ rfl rfl hr2 ?_; clear hr2)
        go_roundw
        case rel => exact ⟨k + 1, ys ++ [(k : Int)], some ⟨g2, 0, none⟩, c2, by omega, by go_num, by simp, HY2.out, HB2.out, (by have h := HO2.out; show ROwn _ _ _ _ _ _ _ _; simpa using h)⟩
        case measure => simp [intOf]; omega
    · have hkl : k = l.length := by omega
      subst hkl
      have hys := hY.out
      subst hys
      go_wp2_with fail
      go_ret
      exact ⟨Ao, co, rfl, hO.out, hE⟩

/-- within -/
def withinB (x y : List Bool) : Bool := decide (x.length = y.length) && !((idxL x).any fun j => !(bitB y j.toNat))
theorem withinB_of {x y : List Bool} (hl : x.length = y.length) (h : ∀ i, bitB x i = true → bitB y i = true) : withinB x y = true := by
  rw [withinB, decide_eq_true hl, Bool.true_and, Bool.not_eq_true', List.any_eq_false]
  intro j hj
  obtain ⟨i, _, h1, rfl⟩ := (idxT_mem x _ j).1 hj
  rw [Int.toNat_natCast, h i h1]
  decide
theorem eg52 : ∀ args w, (callFunc 52 args).run Tryz.prog w = .ok (.enter 52 args) w := enters_of Tryz.func52 (by kernel_rfl) rfl
set_option maxHeartbeats 1000000 in
set_option maxRecDepth 100000 in
theorem within1_c (S : Nat → Prop) (y : List Bool) (vy : Value) (B i : Nat) (w : World) (hy : RSl RBool 1 S w y [vy]) (hi : i < y.length) (hB : w.cell? ⟨B, 0, none⟩ = some vy) :
    Calls Tryz.prog 52 #[.int .i64 (i : Int), .pointer (some ⟨B, 0, none⟩)] w fun e w' => e = .returned (.bool (!(bitB y i))) ∧ Ext w w' := by
  obtain ⟨A, c, rfl, _, _⟩ := hy.val
  obtain ⟨b, off, cs, rfl, hb, hSb, hl1, hr, hcell⟩ := hy.get i hi
  obtain rfl : cs = [.bool y[i]] := hr
  have a0 := hcell.get 0 _
  simp only [Nat.add_zero, Nat.mul_one] at a0
  have HV := Lib.hid (bit_get hi)
  clear hcell hl1 hSb hy
  go_enter Tryz.func52, Tryz.ntmps52
  go_wp2_with fail
  go_ret
  exact ⟨by rw [HV.out]; rfl, Ext.refl _⟩
set_option maxHeartbeats 1000000 in
set_option maxRecDepth 100000 in
theorem within_c2 (S : Nat → Prop) (x y : List Bool) (vx vy : Value) (w : World) (hx : RSl RBool 1 S w x [vx]) (hy : RSl RBool 1 S w y [vy]) (hl : x.length ≤ 1000000) :
    Calls Tryz.prog 49 #[vx, vy] w fun e w' => e = .returned (.bool (withinB x y)) ∧ Ext w w' := by
  have hix := fun W (hW : Ext w W) => indices_c S x vx W ((RSl.good RBool.good).bel hx hW) hl
  obtain ⟨A, c, rfl, _, _⟩ := hx.val
  by_cases hxy : x.length = y.length
  · have hcon := fun B W u (hW : Ext w W) (hB : W.cell? ⟨B, 0, none⟩ = some vy) (hu : RSl RInt 1 (fun _ => True) W (idxL x) [u]) => conPInt (fun j => !(bitB y j.toNat)) (fun _ => True) W (idxL x) u hu 52 #[.pointer (some ⟨B, 0, none⟩)] eg52
      (fun j hj cs W' hW' hr => by
        obtain ⟨i, hi, _, rfl⟩ := (idxT_mem x _ j).1 hj
        obtain ⟨rfl, _⟩ := hr
        rw [Int.toNat_natCast]
        exact within1_c S y vy B i W' ((RSl.good RBool.good).bel hy (hW.trans' hW')) (by omega) ((hW'.cell (World.block_lt_of_cell? W _ hB)).trans hB))
    have HV : Hid (withinB x y = !((idxL x).any fun j => !(bitB y j.toNat))) := by
      show _ = _
      rw [withinB, decide_eq_true hxy, Bool.true_and]
    obtain ⟨A', c', rfl, _, _⟩ := hy.val
    have hxb : ((x.length : Int) == (y.length : Int)) = true := by rw [hxy]; simp
    clear hx hy hxy
    go_enter Tryz.func49, Tryz.ntmps49
    go_wp2_with fail
    refine (hix _ (by repeat (first | exact Ext.refl _ | apply Ext.alloc | apply Below.drew | apply Ext.drewN | refine Ext.trans' ?_ (by assumption) | refine Ext.trans' ?_ (ExtD.ext (by assumption))))).mono ?_
    rintro e w1 ⟨A1, c1, rfl, hO, hE⟩
    have hz : w.heap.size < w1.heap.size := by have := hE.size; simp at this; omega
    have hb0 : w1.cell? ⟨w.heap.size, 0, none⟩ = some (.slice A' y.length c') := ((BoxL.new w 73 [.slice A' y.length c']).ext hE).cell 0 _
    have hr1 : RSl RInt 1 (fun _ => True) w1 (idxL x) [.slice A1 (idxL x).length c1] := (RSl.good RInt.good).mono (hO.sl RInt.good (by decide)) fun _ _ _ => trivial
    have HX1 : Hid (Ext w w1) := (by repeat (first | exact Ext.refl _ | apply Ext.alloc | apply Below.drew | apply Ext.drewN | refine Ext.trans' ?_ (by assumption) | refine Ext.trans' ?_ (ExtD.ext (by assumption))))
    have hcall := hcon w.heap.size w1 _ HX1.out hb0 hr1
    clear hO hr1 hix hcon hE
    go_wp2_with fail
    refine hcall.mono ?_
    rintro e w2 ⟨rfl, h2⟩
    go_wp2_with fail
    go_ret
    exact ⟨by rw [HV.out]; rfl, HX1.out.trans' h2⟩
  · have HV : Hid (withinB x y = false) := by
      show _ = _
      rw [withinB, decide_eq_false hxy, Bool.false_and]
    obtain ⟨A', c', rfl, _, _⟩ := hy.val
    have hxb : ((x.length : Int) == (y.length : Int)) = false := by simp only [beq_eq_false_iff_ne, ne_eq]; omega
    clear hx hy hxy
    go_enter Tryz.func49, Tryz.ntmps49
    go_wp2_with fail
    go_ret
    exact ⟨by rw [HV.out]; rfl, (by repeat (first | exact Ext.refl _ | apply Ext.alloc | apply Below.drew | apply Ext.drewN | refine Ext.trans' ?_ (by assumption) | refine Ext.trans' ?_ (ExtD.ext (by assumption))))⟩

theorem one3 {W W' : World} {B : Nat} {t : TypeId} {a b c : Value} (h : BoxL W B t [a, b, c]) (he : Ext W W') :
    BoxL W' B t [a, b, c] ∧ W'.cell? ⟨B, 0, none⟩ = some a ∧ W'.cell? ⟨B, 1, none⟩ = some b ∧ W'.cell? ⟨B, 2, none⟩ = some c ∧ B < W'.heap.size :=
  have h0 := h.ext he
  ⟨h0, h0.cell 0 _, h0.cell 1 _, h0.cell 2 _, h0.lt⟩
theorem rbs_sl {base : Nat} {w : World} {bs : List Bool} {v : Value} (h : RBs base w bs v) : RSl RBool 1 (fun _ => True) w bs [v] := (RSl.good RBool.good).mono (h.sl RBool.good (by decide)) fun _ _ _ => trivial
theorem rsl_slice {b : List Bool} {v : Value} {w : World} (h : RSl RBool 1 (fun _ => True) w b [v]) : ∃ A c, v = .slice A b.length c := by
  obtain ⟨A, c, e, _⟩ := h
  injection e with e
  exact ⟨A, c, e⟩
theorem covR_len {s : Sy} {ts : List Te} : (covR s ts).l.length ≤ 1000000 ∧ (covR s ts).e.length ≤ 1000000 := by
  unfold covR
  split
  · rename_i h
    have h1 := covAll_len s ts
    have h2 := (askE_ok h).1
    have h3 := h2.2.2.1
    have h4 := h2.2.2.2.1
    omega
  · simp
theorem RSl.pre {α : Type} {R : Rdr α} {k : Nat} {S : Nat → Prop} {W : World} {xs : List α} {A : Option Addr} {n c : Nat} (h : RSl R k S W xs [.slice A n c]) (m : Nat) (hm : m ≤ xs.length) : RSl R k S W (xs.take m) [.slice A m c] := by
  obtain ⟨A', c', e, h1, h2, h3⟩ := h
  injection e with e
  injection e with e1 e2 e3
  subst e1 e3
  have hl : (xs.take m).length = m := by rw [List.length_take]; omega
  refine ⟨A, c, by rw [hl], by rw [hl]; omega, h2, ?_⟩
  rcases h3 with rfl | ⟨b, off, rfl, hb, hS, hr⟩
  · exact .inl (by simp)
  · refine .inr ⟨b, off, rfl, hb, hS, RowAt.of_get fun i hi => ?_⟩
    obtain ⟨cs, g1, g2, g3⟩ := hr.get i (by rw [hl] at hi; omega)
    exact ⟨cs, g1, by rw [List.getElem_take]; exact g2, g3⟩
theorem covR_same {s : Sy} {ts us : List Te} (h1 : askE s ts = 0) (h2 : askE s us = 0) : (covR s us).l.length = (covR s ts).l.length ∧ (covR s us).e.length = (covR s ts).e.length := by
  rw [covR, covR, if_pos h1, if_pos h2, (covAll_len s us).1, (covAll_len s us).2, (covAll_len s ts).1, (covAll_len s ts).2]
  exact ⟨rfl, rfl⟩
theorem idx_pos {l : List Bool} (h : ∃ i, bitB l i = true) : 0 < (idxL l).length := by
  obtain ⟨i, hi⟩ := h
  have hl : i < l.length := by
    refine Nat.lt_of_not_le fun hn => ?_
    simp [bitB, List.getD_eq_getElem?_getD, List.getElem?_eq_none hn] at hi
  exact List.length_pos_of_mem ((idxT_mem l l.length (i : Int)).2 ⟨i, hl, hi, rfl⟩)
set_option maxHeartbeats 8000000 in
set_option maxRecDepth 100000 in
theorem covered_c (w : World) (s : Sy) (hsm : SmallSy s) (cs : List Value) (hx : RSy (fun _ => True) w s cs) (ts : List Te) (vt : Value) (ht : RSl RTe 2 (fun _ => True) w ts [vt]) (n : Int) :
    Calls Tryz.prog 8 #[.agg cs.toArray, vt, .int .i64 n] w (TrueP w) := by
  obtain ⟨_, v, u, rfl, hv, hu⟩ := id hx
  obtain ⟨A, c, rfl, _, _⟩ := hv.val
  obtain ⟨B, b, rfl, _, _⟩ := hu.val
  obtain ⟨A2, c2, rfl, hc2, hc20⟩ := ht.val
  have HX := Lib.hid hx
  have HT := Lib.hid ht
  clear hx ht hv hu
  go_enter Tryz.func8, Tryz.ntmps8
  go_wp2_with fail
  refine (sane_c _).mono ?_
  rintro e1 w1 ⟨rfl, h1⟩
  have HX1 : Hid (Ext w w1) := (by repeat (first | exact Ext.refl _ | apply Ext.alloc | apply Below.drew | apply Ext.drewN | refine Ext.trans' ?_ (by assumption) | refine Ext.trans' ?_ (ExtD.ext (by assumption))))
  obtain ⟨hB, a0, a1, a2, z0⟩ := one3 (BoxL.new w 25 [.int .i64 s.n, .slice A s.ls.length c, .slice B s.es.length b]) h1
  have HB := Lib.hid hB
  clear h1 hB
  have hbr := brief_c ts _ w1 ((RSl.good RTe.good).bel HT.out HX1.out)
  go_wp2_with fail
  refine hbr.mono ?_
  rintro e2 w2 ⟨rfl, hE2⟩
  have HX2 : Hid (Ext w w2) := HX1.out.trans' hE2
  clear a0 a1 a2 z0
  obtain ⟨hB, a0, a1, a2, z0⟩ := one3 HB.out hE2
  have HB2 := Lib.hid hB
  clear hbr hE2 hB HX1 HB
  cases hbb : briefB ts
  · clear hbb
    go_wp2_with fail
    go_ret
    exact ⟨rfl, HX2.out⟩
  clear hbb
  have hsml := fun W (hW : Ext w2 W) => small_c (fun _ => True) 10 [s] _ _ (lit_of RSy.good (by decide) (e := 25) (flat1 (RSy.good.bel HX.out (HX2.out.trans' hW)) rfl) (by simp))
  go_wp2_with fail
  refine (hsml _ (Ext.refl _)).mono ?_
  rintro e3 w3 ⟨bb, rfl, h3⟩
  have hE3 : Ext w2 w3 := Ext.trans' ((Ext.refl w2).alloc _) h3
  have HX3 : Hid (Ext w w3) := HX2.out.trans' hE3
  clear a0 a1 a2 z0
  obtain ⟨hB, a0, a1, a2, z0⟩ := one3 HB2.out hE3
  have HB3 := Lib.hid hB
  clear hsml h3 hE3 hB HX2 HB2
  cases bb
  · go_wp2_with fail
    go_ret
    exact ⟨rfl, HX3.out⟩
  have hcv := Covers_c (fun _ => True) s _ ts _ w3 (RSy.good.bel HX.out HX3.out) ((RSl.good RTe.good).bel HT.out HX3.out)
  go_wp2_with fail
  refine hcv.mono ?_
  rintro e4 w4 ⟨v1, v2, rfl, hr1, hr2, hE4⟩
  have HX4 : Hid (Ext w w4) := HX3.out.trans' hE4
  have hr1 := rbs_sl hr1
  have hr2 := rbs_sl hr2
  obtain ⟨A3, c3, rfl⟩ := rsl_slice hr1
  obtain ⟨A4, c4, rfl⟩ := rsl_slice hr2
  have HR1 := Lib.hid hr1
  have HR2 := Lib.hid hr2
  clear a0 a1 a2 z0
  obtain ⟨hB, a0, a1, a2, z0⟩ := one3 HB3.out hE4
  have HB4 := Lib.hid hB
  clear hcv hE4 hB HX3 HB3 hr1 hr2
  by_cases hask : askE s ts = 0
  rotate_left
  · go_wp2_with fail
    go_ret
    exact ⟨rfl, HX4.out⟩
  have HL := Lib.hid (cov_law hask)
  rw [hask]
  have HASK := Lib.hid hask
  clear hask
  obtain ⟨nb, hnb⟩ : ∃ nb, (decide (0 ≤ n) && decide (n < (ts.length : Int))) = nb := ⟨_, rfl⟩
  have HNB := Lib.hid hnb
  clear hnb
  go_upto_region 9 with (fail)
  go_cut [51] (fun s51 wx => s51 = .bool nb ∧ wx = w4)
  case first =>
    by_cases hn0 : 0 ≤ n
    · by_cases hn1 : n < (ts.length : Int)
      · obtain rfl : true = nb := by rw [← HNB.out, decide_eq_true hn0, decide_eq_true hn1]; rfl
        go_wp2_with fail
        go_meet
        exact ⟨rfl, rfl⟩
      · obtain rfl : false = nb := by rw [← HNB.out, decide_eq_false (by omega : ¬ n < (ts.length : Int)), Bool.and_false]
        go_wp2_with fail
        go_meet
        exact ⟨rfl, rfl⟩
    · obtain rfl : false = nb := by rw [← HNB.out, decide_eq_false hn0, Bool.false_and]
      go_wp2_with fail
      go_meet
      exact ⟨rfl, rfl⟩
  case rest =>
  obtain ⟨rfl, rfl⟩ := hcut
  obtain ⟨w4, rfl⟩ : ∃ w4, w4 = wc := ⟨_, rfl⟩
  go_upto_if 51 with (fail)
  go_cut [] (fun wx => Ext w4 wx)
  case first =>
    cases hnb : nb
    · go_wp2_with fail
      go_meet
      exact Ext.refl _
    · have hnn : 0 ≤ n ∧ n < (ts.length : Int) := by
        have h := HNB.out
        rw [hnb, Bool.and_eq_true, decide_eq_true_eq, decide_eq_true_eq] at h
        exact h
      obtain ⟨m, rfl⟩ : ∃ m : Nat, n = (m : Int) := ⟨n.toNat, by omega⟩
      have hmt : m ≤ ts.length := by omega
      have hmc : m ≤ c2 := by omega
      have hpre := HL.out.pre m
      have hsm := covR_same HASK.out hpre.1
      have hcv := fun W (hW : Ext w4 W) => Covers_c (fun _ => True) s _ (ts.take m) _ W (RSy.good.bel HX.out (HX4.out.trans' hW)) (((RSl.good RTe.good).bel HT.out (HX4.out.trans' hW)).pre m hmt)
      rw [hpre.1] at hcv
      have W1 : Hid (withinB (covR s (ts.take m)).l (covR s ts).l = true) := withinB_of hsm.1 fun i => (hpre.2 i).1
      have W2 : Hid (withinB (covR s (ts.take m)).e (covR s ts).e = true) := withinB_of hsm.2 fun i => (hpre.2 i).2
      obtain ⟨d, hd⟩ : ∃ d, covR s (ts.take m) = d := ⟨_, rfl⟩
      have hdl := covR_len (s := s) (ts := ts.take m)
      rw [hd] at hcv W1 W2 hdl
      have HDL := Lib.hid hdl
      clear hpre hsm hd hnb hnn hdl
      go_wp2_with fail
      go_region_held3 (fun W => W.cell? ⟨w.heap.size, 0, none⟩ = some (.int .i64 s.n) ∧ W.cell? ⟨w.heap.size, 1, none⟩ = some (.slice A s.ls.length c) ∧ W.cell? ⟨w.heap.size, 2, none⟩ = some (.slice B s.es.length b)) (first | (refine ⟨?_, ?_, ?_⟩ <;> go_simp <;> done) | exact Ext.k3 hx1 (by assumption) | exact Ext.k3 (ExtD.ext hx1) (by assumption) | exact Ext.k3 ((Ext.refl _).alloc _) (by assumption))
        (first | (go_at_call 48; refine (hcv _ (by repeat (first | exact Ext.refl _ | apply Ext.alloc | apply Below.drew | apply Ext.drewN | refine Ext.trans' ?_ (by assumption) | refine Ext.trans' ?_ (ExtD.ext (by assumption))))).mono ?_; rintro e w5 ⟨u1, u2, rfl, r1, r2, hx1⟩; obtain ⟨A5, c5, rfl⟩ := rsl_slice (rbs_sl r1); obtain ⟨A6, c6, rfl⟩ := rsl_slice (rbs_sl r2)))
      have hX5 : Ext w4 w5 := (by repeat (first | exact Ext.refl _ | apply Ext.alloc | apply Below.drew | apply Ext.drewN | refine Ext.trans' ?_ (by assumption) | refine Ext.trans' ?_ (ExtD.ext (by assumption))))
      have k1 := within_c2 (fun _ => True) d.l (covR s ts).l _ _ w5 (rbs_sl r1) ((RSl.good RBool.good).bel HR1.out hX5) HDL.out.1
      have k2 := fun W (hW : Ext w5 W) => within_c2 (fun _ => True) d.e (covR s ts).e _ _ W ((RSl.good RBool.good).bel (rbs_sl r2) hW) ((RSl.good RBool.good).bel HR2.out (hX5.trans' hW)) HDL.out.2
      rw [W1.out] at k1
      rw [W2.out] at k2
      have HX5 := Lib.hid hX5
      clear r1 r2 hx1 hX5 hcv a0 a1 a2
      go_wp2_with fail
      refine k1.mono ?_
      rintro e w6 ⟨rfl, hE6⟩
      have k3 := k2 _ hE6
      clear k1 k2
      go_wp2_with fail
      refine k3.mono ?_
      rintro e w7 ⟨rfl, hE7⟩
      go_wp2_with fail
      go_meet
      exact HX5.out.trans' (hE6.trans' hE7)
  case rest =>
  have HX5 : Hid (Ext w wc) := HX4.out.trans' hcut
  have HR1c := Lib.hid ((RSl.good RBool.good).bel HR1.out hcut)
  have HR2c := Lib.hid ((RSl.good RBool.good).bel HR2.out hcut)
  clear a0 a1 a2 z0
  obtain ⟨hB, a0, a1, a2, z0⟩ := one3 HB4.out hcut
  have HB5 := Lib.hid hB
  clear hB hcut HR1 HR2 HX4 HB4
  have hch := Choose_c (fun _ => True) s _ ts _ wc (RSy.good.bel HX.out HX5.out) ((RSl.good RTe.good).bel HT.out HX5.out)
  rw [HASK.out] at hch
  have hinc := HL.out.inc
  have hone := HL.out.one
  have hall := HL.out.all
  obtain ⟨own, hown⟩ : ∃ own, chooseR s ts = own := ⟨_, rfl⟩
  rw [hown] at hch hinc hone hall
  have HINC := Lib.hid hinc
  have HONE := Lib.hid hone
  have HALL := Lib.hid hall
  clear hown hinc hone hall
  go_wp2_with fail
  refine hch.mono ?_
  rintro e6 w6 ⟨A7, c7, rfl, hO6, hE6⟩
  have HX6 : Hid (Ext w w6) := HX5.out.trans' hE6
  have HR1d := Lib.hid ((RSl.good RBool.good).bel HR1c.out hE6)
  have HR2d := Lib.hid ((RSl.good RBool.good).bel HR2c.out hE6)
  have HOW : Hid (RSl RInt 1 (fun _ => True) w6 own [.slice A7 own.length c7]) := (RSl.good RInt.good).mono (hO6.sl RInt.good (by decide)) fun _ _ _ => trivial
  have HB6 := Lib.hid (one3 HB5.out hE6).1
  have hn7 : own.length ≤ 9223372036854775807 := by
    obtain ⟨_, _, _, h1, h2⟩ := HOW.out.val
    omega
  have hlen : own.length ≤ 4000 ∧ ts.length ≤ 4000 := by
    have h1 := (askE_ok HASK.out).2.1
    refine ⟨Nat.le_trans (nodup_le (HINC.out.imp fun {a b} h e => by omega) fun j hj => ?_) h1, h1⟩
    obtain ⟨k, hk, e, _⟩ := HONE.out j hj
    exact ⟨k, hk, e⟩
  obtain ⟨hlen1, hlen2⟩ := hlen
  clear hch hO6 hE6 a0 a1 a2 z0 HX5 HR1c HR2c HB5
  go_wp2_with fail
  go_loopw [15, 16, 87] (fun v15 v16 vi wr => ∃ (j : Nat) (us : List Te) (Ao : Option Addr) (co : Nat) (l0 : Int), j ≤ own.length ∧ vi = .int .i64 j ∧ v15 = .slice Ao us.length co ∧ v16 = .int .i64 l0 ∧ Ext w6 wr ∧ Hid (us = (own.take j).map (fun i => ts.getD i.toNat ⟨[], []⟩)) ∧ Hid (∀ h : j < own.length, l0 < own[j]) ∧ Hid (ROwn RTe 2 40 w6.heap.size (fun q => q < w6.heap.size) wr us (.slice Ao us.length co))) (fun _ _ vi _ => own.length - (intOf vi).toNat)
  case atStart => exact ⟨0, [], none, 0, -1, Nat.zero_le _, rfl, rfl, rfl, Ext.refl _, (show [] = _ by simp), (fun h => by obtain ⟨k, _, e, _⟩ := HONE.out _ (List.getElem_mem h); omega), ROwn.nil ..⟩
  case round =>
    obtain ⟨j, us, Ao, co, l0, hj, rfl, rfl, rfl, hE, hU, hL0, hO⟩ := hrel
    have HX7 : Hid (Ext w wr) := HX6.out.trans' hE
    obtain ⟨hB, a0, a1, a2, z0⟩ := one3 HB6.out hE
    by_cases hlt : j < own.length
    · obtain ⟨b7, off7, cj, rfl, hb7, hSb7, hl7, hr7, hcell7⟩ := ((RSl.good RInt.good).bel HOW.out hE).get j hlt
      obtain ⟨rfl, hi64⟩ := hr7
      have m0 := hcell7.get 0 _
      simp only [Nat.add_zero, Nat.mul_one] at m0
      obtain ⟨k, hk, hke, hask1, hbits⟩ := HONE.out _ (List.getElem_mem hlt)
      have hl0 := hL0.out hlt
      have hnext : ∀ h : j + 1 < own.length, (k : Int) < own[j + 1] := fun h => by
        rw [← hke]
        exact List.pairwise_iff_getElem.1 HINC.out j (j + 1) hlt h (Nat.lt_succ_self j)
      have hus : us ++ [ts[k]] = (own.take (j + 1)).map (fun i => ts.getD i.toNat ⟨[], []⟩) := by
        rw [List.take_succ_eq_append_getElem hlt, List.map_append, ← hU.out, List.map_cons, List.map_nil, hke, Int.toNat_natCast, List.getD_eq_getElem?_getD, List.getElem?_eq_getElem hk]
        rfl
      rw [hke] at m0 hl0
      obtain ⟨bt, offt, cst, hA2, hbt, hSbt, hlt2, hrt, hcellt⟩ := ((RSl.good RTe.good).bel ((RSl.good RTe.good).mono ((RSl.good RTe.good).bel HT.out HX6.out) fun b hb _ => hb : RSl RTe 2 (fun q => q < w6.heap.size) w6 ts [.slice A2 ts.length c2]) hE).get k hk
      subst hA2
      have hsub := ((RSl.good RTe.good).bel HT.out HX7.out).sub1 k hk
      have hd1 : (ts.drop k).take 1 = [ts[k]] := by rw [List.drop_eq_getElem_cons hk]; rfl
      rw [hd1] at hsub
      obtain ⟨t, hte⟩ : ∃ t, ts[k] = t := ⟨_, rfl⟩
      rw [hte] at hask1 hbits hus hrt hsub
      obtain ⟨y1, y2, rfl, hy1, hy2⟩ := id hrt
      have t0 := hcellt.get 0 _
      have t1 := hcellt.get 1 _
      simp only [Nat.add_zero] at t0
      obtain ⟨Ay, cy, rfl, _, _⟩ := hy1.val
      obtain ⟨Az, cz, rfl, _, _⟩ := hy2.val
      have hcv := fun W (hW : Ext wr W) => Covers_c (fun _ => True) s _ [t] _ W (RSy.good.bel HX.out (HX7.out.trans' hW)) ((RSl.good RTe.good).bel hsub hW)
      rw [hask1] at hcv
      have hdl := covR_len (s := s) (ts := [t])
      obtain ⟨d, hd⟩ : ∃ d, covR s [t] = d := ⟨_, rfl⟩
      rw [hd] at hcv hbits hdl
      have hpos : 0 < (idxL d.l).length + (idxL d.e).length := by
        rcases hbits with h | h
        · have := idx_pos h; omega
        · have := idx_pos h; omega
      have hil := idxT_len d.l d.l.length
      have hie := idxT_len d.e d.e.length
      have HTE := Lib.hid hrt
      have HUS := Lib.hid hus
      have HNEXT := Lib.hid hnext
      have HE := Lib.hid hE
      have HDL := Lib.hid hdl
      have g1 : ¬ ((k : Int) ≤ l0) := by omega
      have g2 : k < ts.length := hk
      have g3 : ¬ (c2 = k) := by omega
      have g4 : k + 1 ≤ c2 := by omega
      have g5 : ((k : Int) + 1).toNat = k + 1 := by omega
      have g6 : (0 : Int) ≤ (k : Int) + 1 := by omega
      have g7 : (k : Int) ≤ (k : Int) + 1 := by omega
      have g8 : (k : Int) + 1 ≤ (c2 : Int) := by omega
      have g9 : IntKind.i64.wrap ((k : Int) + 1) = (k : Int) + 1 := by rw [IntKind.wrap_i64]; omega
      have mixed : Tryz.prog.follows .mixedOrders = true := by kernel_rfl
      have hj1 : j + 1 ≤ own.length := hlt
      have hul : us.length ≤ 1000000 := by
        rw [hU.out, List.length_map, List.length_take]
        omega
      clear hE hB hcell7 hl7 hSb7 hi64 hke hcellt hlt2 hSbt hsub hd1 hte hbits hd hrt hy1 hy2 hus hnext hl0 hask1 hU hL0 hdl hk
      go_wp2_with fail
      go_region_held3 (fun W => W.cell? ⟨w.heap.size, 0, none⟩ = some (.int .i64 s.n) ∧ W.cell? ⟨w.heap.size, 1, none⟩ = some (.slice A s.ls.length c) ∧ W.cell? ⟨w.heap.size, 2, none⟩ = some (.slice B s.es.length b)) (first | (refine ⟨?_, ?_, ?_⟩ <;> go_simp <;> done) | exact Ext.k3 hx1 (by assumption) | exact Ext.k3 (ExtD.ext hx1) (by assumption) | exact Ext.k3 ((Ext.refl _).alloc _) (by assumption))
        (first | (go_at_call 48; refine (hcv _ (by repeat (first | exact Ext.refl _ | apply Ext.alloc | apply Below.drew | apply Ext.drewN | refine Ext.trans' ?_ (by assumption) | refine Ext.trans' ?_ (ExtD.ext (by assumption))))).mono ?_; rintro e w8 ⟨u1, u2, rfl, r1, r2, hx1⟩; obtain ⟨A8, c8, rfl⟩ := rsl_slice (rbs_sl r1); obtain ⟨A9, c9, rfl⟩ := rsl_slice (rbs_sl r2)))
      have hX8 : Ext wr w8 := (by repeat (first | exact Ext.refl _ | apply Ext.alloc | apply Below.drew | apply Ext.drewN | refine Ext.trans' ?_ (by assumption) | refine Ext.trans' ?_ (ExtD.ext (by assumption))))
      have hq1 := rbs_sl r1
      have hq2 := rbs_sl r2
      have k1 := indices_c (fun _ => True) d.l _ w8 hq1 HDL.out.1
      have k2 := fun W (hW : Ext w8 W) => indices_c (fun _ => True) d.e _ W ((RSl.good RBool.good).bel hq2 hW) HDL.out.2
      have HX8 := Lib.hid hX8
      have HT0 := Lib.hid t0
      have HT1 := Lib.hid t1
      obtain ⟨ll, hll⟩ : ∃ ll, idxL d.l = ll := ⟨_, rfl⟩
      obtain ⟨le, hle⟩ : ∃ le, idxL d.e = le := ⟨_, rfl⟩
      rw [hll] at k1
      simp only [hle] at k2
      have hpos2 : ((ll.length : Int) + (le.length : Int) == 0) = false := by
        rw [← hll, ← hle]
        simp only [beq_eq_false_iff_ne, ne_eq]
        omega
      have hll2 : ll.length ≤ 1000000 := by rw [← hll]; exact Nat.le_trans hil HDL.out.1
      have hle2 : le.length ≤ 1000000 := by rw [← hle]; exact Nat.le_trans hie HDL.out.2
      have hwr : IntKind.i64.wrap ((ll.length : Int) + (le.length : Int)) = (ll.length : Int) + (le.length : Int) := by rw [IntKind.wrap_i64]; omega
      clear r1 r2 hq1 hq2 hx1 hX8 hcv hll hle hpos hil hie a0 a1 a2 z0 m0 t0 t1
      go_wp2_with fail
      refine k1.mono ?_
      rintro e9 w9 ⟨A10, c10, rfl, _, hE9⟩
      have k3 := k2 _ hE9
      clear k1 k2
      go_wp2_with fail
      refine k3.mono ?_
      rintro e10 w10 ⟨A11, c11, rfl, _, hE10⟩
      have hE11 : Ext w6 w10 := HE.out.trans' (HX8.out.trans' (hE9.trans' hE10))
      have hEr : Ext wr w10 := HX8.out.trans' (hE9.trans' hE10)
      have s0 := Ext.keep hEr HT0.out
      have s1 := Ext.keep hEr HT1.out
      have hlo : ∀ q, (Value.slice Ao us.length co).ownBlock = some q → w6.heap.size ≤ q := fun q e => (hO.out.own_lt e).1
      obtain ⟨g12, c12, w12, hr12, ho12, hb12, _, _⟩ := push1 RTe.good (by decide) w6.heap.size 40 34 (.agg #[.slice none 0 0, .slice none 0 0]) 48 Tryz.underlying34 infoTea rfl (by decide) (fun q => q < w6.heap.size) w10 us (.slice Ao us.length co) t [.slice Ay t.tr.length cy, .slice Az t.mu.length cz] (hO.out.ext RTe.good hEr)
        (RTe.good.mono (RTe.good.bel HTE.out hEr) fun b _ h => ⟨h, fun e => by have := hlo b e; omega⟩) hE11.size hul
      have HE12 : Hid (Ext w6 w12) := Bt.new hE11 hb12 fun q _ e => hlo q e
      have HO12 := Lib.hid ho12
      clear k3 hE9 hE10 hE11 hEr hlo ho12 hb12 HE HX8 HT0 HT1
      go_wp2_with (at_builtin; refine wpList_append_run rfl _ _ _ rfl _ _ _ rfl rfl hr12 ?_; clear hr12)
      go_roundw
      case rel => exact ⟨j + 1, us ++ [t], some ⟨g12, 0, none⟩, c12, (k : Int), hj1, by go_num, by simp, rfl, HE12.out, HUS.out, HNEXT.out, (by have h := HO12.out; show ROwn _ _ _ _ _ _ _ _; simpa using h)⟩
      case measure => simp [intOf]; omega
    · have hus : us = own.map (fun i => ts.getD i.toNat ⟨[], []⟩) := by
        have := hU.out
        rwa [List.take_of_length_le (by omega)] at this
      have hal := HALL.out us hus
      have hcv := Covers_c (fun _ => True) s _ us _ wr (RSy.good.bel HX.out HX7.out) ((RSl.good RTe.good).mono (hO.out.sl RTe.good (by decide)) fun _ _ _ => trivial)
      rw [hal.1, hal.2] at hcv
      have HE := Lib.hid hE
      clear hus hal hB hE hU hL0 hO
      go_wp2_with fail
      refine hcv.mono ?_
      rintro e8 w8 ⟨v1, v2, rfl, r1, r2, hE8⟩
      have q1 := rbs_sl r1
      have q2 := rbs_sl r2
      obtain ⟨A8, c8, rfl⟩ := rsl_slice q1
      obtain ⟨A9, c9, rfl⟩ := rsl_slice q2
      have HX8 : Hid (Ext w w8) := HX7.out.trans' hE8
      have k1 := equalBool (fun _ => True) _ _ _ _ w8 ((RSl.good RBool.good).bel HR1d.out (HE.out.trans' hE8)) q1
      have k2 := fun W (hW : Ext w8 W) => equalBool (fun _ => True) _ _ _ _ W ((RSl.good RBool.good).bel HR2d.out ((HE.out.trans' hE8).trans' hW)) ((RSl.good RBool.good).bel q2 hW)
      rw [decide_eq_true rfl] at k1
      simp only [decide_true] at k2
      clear hcv r1 r2 q1 q2 a0 a1 a2 z0 hE8 HE
      go_wp2_with fail
      refine k1.mono ?_
      rintro e9 w9 ⟨rfl, hE9⟩
      have k3 := k2 _ hE9
      clear k1 k2
      go_wp2_with fail
      refine k3.mono ?_
      rintro e10 w10 ⟨rfl, hE10⟩
      go_wp2_with fail
      go_ret
      exact ⟨rfl, HX8.out.trans' (hE9.trans' hE10)⟩
end Go.Proofs.YtegenalcheooeaaGreat

