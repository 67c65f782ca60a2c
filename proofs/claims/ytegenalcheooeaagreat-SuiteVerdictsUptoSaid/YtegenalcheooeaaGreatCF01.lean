/- Of the proof of a law of the suites: LCompL. -/
import Derived.Test.YtegenalcheooeaaGreatB04
import Derived.Test.YtegenalcheooeaaGreatB13
/- slices.CompactFunc at labels: walked. -/
set_option linter.unusedSectionVars false
set_option linter.unusedSimpArgs false
set_option linter.unusedVariables false
namespace Go.Proofs.YtegenalcheooeaaGreat
open Go.RowKit
attribute [local go_sem] cell?_exto
open Go.Shelf

theorem ROwn.get2 {α : Type} {R : Rdr α} {e : TypeId} {base : Nat} {T : Nat → Prop} {w : World} {xs : List α} {g n cap : Nat} (h : ROwn R 2 e base T w xs (.slice (some ⟨g, 0, none⟩) n cap)) (i : Nat) (hi : i < xs.length) :
    ∃ u v, w.cell? ⟨g, i * 2, none⟩ = some u ∧ w.cell? ⟨g, i * 2 + 1, none⟩ = some v ∧ R (fun b => T b ∧ b ≠ g) w xs[i] [u, v] ∧ w.frozen? ⟨g, i * 2, none⟩ = false ∧ w.frozen? ⟨g, i * 2 + 1, none⟩ = false := by
  obtain ⟨news, h1, h2⟩ := h
  have hn : n = xs.length := by
    rcases h1.2 with ⟨h', _⟩ | ⟨g', cap', cur, h', _⟩
    · simp at h'
    · simp at h'; exact h'.2.1
  subst hn
  rw [own_eq] at h2
  obtain ⟨c1, h3, h4, h5⟩ := h2.at i hi
  obtain ⟨u, v, rfl⟩ : ∃ u v, c1 = [u, v] := by
    match c1, h3 with
    | [u, v], _ => exact ⟨u, v, rfl⟩
  have e0 := h5 0 (by decide)
  have e1 := h5 1 (by decide)
  refine ⟨u, v, ?_, ?_, h4, h1.frozenAt _, h1.frozenAt _⟩
  · rw [h1.cellAt _ (by omega)]
    simpa using e0
  · rw [h1.cellAt _ (by omega)]
    simpa using e1
theorem ROwn.putLb {e : TypeId} {base : Nat} {T : Nat → Prop} {w : World} {xs : List Lb} {g n cap : Nat} (h : ROwn RLb 2 e base T w xs (.slice (some ⟨g, 0, none⟩) n cap)) (hn : n = xs.length) (i : Nat) (hi : i < xs.length) (x : Lb) (v : Value) (hx : RLb (fun b => T b ∧ b ≠ g) w x [.int .i64 x.g, v]) :
    ROwn RLb 2 e base T ((w.setCell ⟨g, i * 2, none⟩ (.int .i64 x.g)).setCell ⟨g, i * 2 + 1, none⟩ v) (xs.set i x) (.slice (some ⟨g, 0, none⟩) n cap) := by
  subst hn
  have h1 := ROwn.put RLb.good h i 0 (.int .i64 x.g) ⟨x.g, xs[i].v⟩ (by decide) hi fun cs hcs => by
    obtain ⟨_, v', rfl, hv'⟩ := hcs
    exact ⟨hx.1, v', rfl, hv'⟩
  have hkp : Kp (fun b => T b ∧ b ≠ g) w (w.setCell ⟨g, i * 2 + 0, none⟩ (.int .i64 x.g)) := ⟨by simp [World.setCell], fun q _ hq => Below.heap_setCell w _ _ q hq.2⟩
  have hx2 := RLb.good.move hx hkp
  have hl : (xs.set i ⟨x.g, xs[i].v⟩).length = xs.length := List.length_set
  have h2 := ROwn.put (xs := xs.set i ⟨x.g, xs[i].v⟩) RLb.good (by rw [hl]; exact h1) i 1 v x (by decide) (by rw [hl]; exact hi) fun cs hcs => by
    obtain ⟨_, v', rfl, hv'⟩ := hcs
    simp only [List.getElem_set_self] at *
    exact hx2
  rw [List.set_set, hl] at h2
  simpa using h2

/-- 'clear(s)', s a slice of n > 0 elements of some cells each. -/
theorem run_clearK (w : World) (t e ty : TypeId) (z : Value) (k : Nat) (ht : Tryz.prog.underlying t = some (.slice e)) (hv : ∀ w, (zeroValue e).run Tryz.prog w = .ok z w) (hzk : z.cells.size = k) (hk : 0 < k) (h1 : ∀ v ∈ z.cells.toList, v.oneCell' = true) (b o n c : Nat) (hn : 0 < n)
    (hc : ∀ j, j < n * k → (w.cell? ⟨b, o + j, none⟩).isSome = true ∧ w.frozen? ⟨b, o + j, none⟩ = false) :
    ∃ vs, (Builtin.clear_ #[t] ty #[.slice (some ⟨b, o, none⟩) n c]).run Tryz.prog w = .ok (.tuple #[]) (w.setCells b o vs) := by
  have hlen : (Builtin.zeroCells z.cells n).toList.length = n * k := by simp [Builtin.zeroCells, hzk]
  have hall : ∀ v ∈ (Builtin.zeroCells z.cells n).toList, v.oneCell' = true := fun v hv => by
    simp only [Builtin.zeroCells, Array.toList_map, List.mem_map] at hv
    obtain ⟨i, _, rfl⟩ := hv
    have hlt : i % z.cells.size < z.cells.size := Nat.mod_lt _ (by omega)
    rw [getElem!_pos z.cells _ hlt]
    exact h1 _ (by simp)
  have hst := run_storeCells_cells (P := Tryz.prog) b o (Builtin.zeroCells z.cells n).toList 0 w (by rw [hlen]; simpa using fun j hj => (hc j hj).1) (by rw [hlen]; simpa using fun j hj => (hc j hj).2) hall
  simp only [Nat.add_zero] at hst
  obtain ⟨m, rfl⟩ : ∃ m, n = m + 1 := ⟨n - 1, by omega⟩
  exact ⟨(Builtin.zeroCells z.cells (m + 1)).toList, by simp [Builtin.clear_, run_underlying ht, hv, hst]⟩
theorem ROwn.cells2 {α : Type} {R : Rdr α} {e : TypeId} {base : Nat} {T : Nat → Prop} {w : World} {xs : List α} {g n cap : Nat} (h : ROwn R 2 e base T w xs (.slice (some ⟨g, 0, none⟩) n cap)) (j : Nat) (hj : j < xs.length * 2) :
    (w.cell? ⟨g, j, none⟩).isSome = true ∧ w.frozen? ⟨g, j, none⟩ = false := by
  obtain ⟨u, v, h1, h2, _, f1, f2⟩ := h.get2 (j / 2) (by omega)
  have : j = j / 2 * 2 ∨ j = j / 2 * 2 + 1 := by omega
  rcases this with e | e
  · rw [e]; exact ⟨by rw [h1]; rfl, f1⟩
  · rw [e]; exact ⟨by rw [h2]; rfl, f2⟩
theorem zero61 : ∀ w, (zeroValue 61).run Tryz.prog w = .ok (.agg #[.int .i64 0, .slice none 0 0]) w := fun _ => by kernel_rfl
def cmpctL (l : List Lb) : List Lb := compactB sameLb l
set_option maxHeartbeats 1000000 in
set_option maxRecDepth 100000 in
theorem compactL_c (base : Nat) (T : Nat → Prop) (l : List Lb) (v : Value) (w : World) (hown : ROwn RLb 2 61 base T w l v) (hlen : l.length ≤ 1000000000) :
    Calls Tryz.prog 58 #[v, .func (.func 37) #[] #[]] w fun e w' => ∃ A c, e = .returned (.slice A (cmpctL l).length c) ∧ ROwn RLb 2 61 base T w' (cmpctL l) (.slice A (cmpctL l).length c) ∧ Bt (fun b => v.ownBlock = some b) w w' := by
  by_cases h2 : l.length < 2
  · have hc : Hid (cmpctL l = l) := by
      show compactB sameLb l = l
      clear hown
      cases l with
      | nil => rfl
      | cons x xs =>
        cases xs with
        | nil => rfl
        | cons y ys => simp at h2; omega
    obtain ⟨A, c, rfl, _, _⟩ := (hown.sl RLb.good (by decide)).val
    have HO := Lib.hid hown
    clear hown
    go_enter Tryz.func58, Tryz.ntmps58
    go_wp2_with fail
    go_ret
    rw [hc.out]
    exact ⟨A, c, rfl, HO.out, Bt.refl _ _⟩
  obtain ⟨g, cap, rfl⟩ : ∃ g cap, v = .slice (some ⟨g, 0, none⟩) l.length cap := by
    obtain ⟨news, h1, _⟩ := hown
    exact Joins.ownsRow_form h1 (by omega)
  have hcap : l.length ≤ cap ∧ cap ≤ 9223372036854775807 := by
    obtain ⟨A, c, he, h3, h4⟩ := (hown.sl RLb.good (by decide)).val
    injection he with _ _ he
    exact ⟨by omega, by omega⟩
  have hZ : (fun b => (Value.slice (some ⟨g, 0, none⟩) l.length cap).ownBlock = some b) = fun b => b = g := by funext b; simp [Value.ownBlock, eq_comm]
  rw [hZ]
  have HO := Lib.hid hown
  clear hown hZ
  go_enter Tryz.func58, Tryz.ntmps58
  go_wp2_with fail
  go_loopw [5] (fun i wr => ∃ k : Nat, 1 ≤ k ∧ k ≤ l.length ∧ i = .int .i64 k ∧ Ext w wr ∧ Hid (cmpctL (l.take k) = l.take k)) (fun i _ => l.length - (intOf i).toNat)
  case atStart => exact ⟨1, Nat.le_refl _, by omega, rfl, Ext.refl _, by
    show _ = _
    cases l with
    | nil => simp at h2
    | cons x xs => simp [cmpctL, compactB, compGo]⟩
  case round =>
    obtain ⟨k, hk1, hk, rfl, hE, hf⟩ := hrel
    by_cases hlt : k < l.length
    · have hO := HO.out.ext RLb.good hE
      obtain ⟨t1, u1, a1, a1', r1, _⟩ := hO.get2 k hlt
      obtain ⟨t2, u2, a2, a2', r2, _⟩ := hO.get2 (k - 1) (by omega)
      have hs0 := fun X => SameLabel_c (fun _ => True) l[k] l[k - 1] [t1, u1] [t2, u2] (exto wr X) (RLb.good.bel (RLb.good.mono r1 fun _ _ _ => trivial) (exto_ext wr X)) (RLb.good.bel (RLb.good.mono r2 fun _ _ _ => trivial) (exto_ext wr X))
      obtain ⟨_, u1', e1, v1⟩ := id r1
      obtain ⟨_, u2', e2, v2⟩ := id r2
      simp only [List.cons.injEq, and_true] at e1 e2
      obtain ⟨rfl, rfl⟩ := e1
      obtain ⟨rfl, rfl⟩ := e2
      obtain ⟨A1, c1, rfl, _, _⟩ := v1.val
      obtain ⟨A2, c2, rfl, _, _⟩ := v2.val
      have hst := compactB_take sameLb l k hk1 hlt
      have hk0 : (0 : Int) ≤ (k : Int) - 1 := by omega
      have hk2 : ((k : Int) - 1).toNat = k - 1 := by omega
      have hk3 : (k : Int) - 1 < (l.length : Int) := by omega
      by_cases he : sameLb l[k] l[k - 1] = true
      · have hs : ∀ X, Calls Tryz.prog 37 #[.agg #[.int .i64 l[k].g, .slice A1 l[k].v.length c1], .agg #[.int .i64 l[k - 1].g, .slice A2 l[k - 1].v.length c2]] (exto wr X) fun e w' => e = .returned (.bool true) ∧ ExtD (exto wr X) w' := fun X => by have := hs0 X; rwa [he] at this
        rw [if_pos he] at hst
        have HST := Lib.hid hst
        have HOr := Lib.hid hO
        clear hs0 hst hO r1 r2
        go_wp2_with fail
        (refine wp_region_ext (by kernel_rfl) (by kernel_rfl) ?_; (repeat (first | go_big_quiet_step ((go_at_call 37; exact quiet_extD (hs _))) | quiet_step ((go_at_call 37; exact quiet_extD (hs _))))); refine wpQuiet_nil ?_)
        intro w2 hx2
        have hO2 := Lib.hid (HOr.out.ext RLb.good hx2)
        have hX2 := hE.trans' hx2
        clear hs hx2 HOr a1 a2
        go_wp2_with fail
        go_loopw [5, 7] (fun vi v2 wr' => ∃ d i : Nat, 1 ≤ d ∧ k + d ≤ l.length ∧ vi = .int .i64 (i : Nat) ∧ v2 = .int .i64 (d : Nat) ∧ i < k + d ∧ Hid ((compactB sameLb (l.take (k + d))).length = i ∧ ROwn RLb 2 61 base T wr' (compY sameLb l (k + d)) (.slice (some ⟨g, 0, none⟩) l.length cap)) ∧ Bt (fun b => b = g) w wr') (fun _ v2 _ => l.length - k - (intOf v2).toNat)
        case atStart =>
          have hk' : compactB sameLb (l.take k) = l.take k := hf.out
          have hY : compY sameLb l (k + 1) = l := by rw [compY, HST.out, hk', List.length_take, Nat.min_eq_left hk, List.take_append_drop]
          refine ⟨1, k, Nat.le_refl _, by omega, rfl, rfl, by omega, ⟨by rw [HST.out, hk', List.length_take, Nat.min_eq_left hk], by rw [hY]; exact hO2.out⟩, hX2.bt⟩
        case round =>
          obtain ⟨d, i, hd1, hd, rfl, rfl, hi, hR, hB⟩ := hrel
          by_cases hlt2 : k + d < l.length
          · have hlt3 : k + (d - 1) < l.length := by omega
            have hle3 : 1 ≤ k + d := by omega
            have hlt4 : i < l.length := by omega
            obtain ⟨hci, hO3⟩ := hR.out
            obtain ⟨t1, u1, a1, a1', r1, _⟩ := hO3.get2 (k + d) (by rw [compY_len]; exact hlt2)
            obtain ⟨t2, u2, a2, a2', r2, _⟩ := hO3.get2 (k + (d - 1)) (by rw [compY_len]; omega)
            rw [Nat.add_mul] at a1 a1' a2 a2'
            rw [compY_at sameLb l (k + d) (k + d) (by omega) hlt2] at r1
            rw [compY_at sameLb l (k + d) (k + (d - 1)) (by omega) hlt3] at r2
            have hs0 := fun X => SameLabel_c (fun _ => True) l[k + d] l[k + (d - 1)] [t1, u1] [t2, u2] (exto wr X) (RLb.good.bel (RLb.good.mono r1 fun _ _ _ => trivial) (exto_ext wr X)) (RLb.good.bel (RLb.good.mono r2 fun _ _ _ => trivial) (exto_ext wr X))
            have hix : sameLb l[k + d] l[k + (d - 1)] = sameLb l[k + d] (l[k + d - 1]'(by omega)) := by
              have hx : k + (d - 1) = k + d - 1 := by omega
              simp only [hx]
            have hsm := fun h => compY_same sameLb l (k + d) hle3 hlt2 h
            have hpt := fun h => compY_put sameLb l (k + d) hle3 hlt2 h (by rw [hci]; exact hlt4)
            rw [← hix] at hsm hpt
            obtain ⟨_, u1', e1, v1⟩ := id r1
            obtain ⟨_, u2', e2, v2⟩ := id r2
            simp only [List.cons.injEq, and_true] at e1 e2
            obtain ⟨rfl, rfl⟩ := e1
            obtain ⟨rfl, rfl⟩ := e2
            obtain ⟨A3, c3, rfl, _, _⟩ := v1.val
            obtain ⟨A4, c4, rfl, _, _⟩ := v2.val
            have hd0 : (0 : Int) ≤ (d : Int) - 1 := by omega
            have hd2 : ((d : Int) - 1).toNat = d - 1 := by omega
            by_cases he2 : sameLb l[k + d] l[k + (d - 1)] = true
            · have hs : ∀ X, Calls Tryz.prog 37 #[.agg #[.int .i64 l[k + d].g, .slice A3 l[k + d].v.length c3], .agg #[.int .i64 l[k + (d - 1)].g, .slice A4 l[k + (d - 1)].v.length c4]] (exto wr X) fun e w' => e = .returned (.bool true) ∧ ExtD (exto wr X) w' := fun X => by have := hs0 X; rwa [he2] at this
              have hsame := Lib.hid (hsm he2)
              have HO3 := Lib.hid hO3
              have HCI := Lib.hid hci
              clear hs0 hO3 r1 r2 hsm hpt hix hci hR
              go_wp2_with fail
              (refine wp_region_ext (by kernel_rfl) (by kernel_rfl) ?_; (repeat (first | go_big_quiet_step ((go_at_call 37; exact quiet_extD (hs _))) | quiet_step ((go_at_call 37; exact quiet_extD (hs _))))); refine wpQuiet_nil ?_)
              intro w5 hx5
              go_wp2_with fail
              go_roundw
              case rel =>
                refine ⟨d + 1, i, by omega, by omega, rfl, by go_num, by omega, ⟨?_, ?_⟩, hB.ext hx5⟩
                · rw [show k + (d + 1) = k + d + 1 from by omega, hsame.out.2]; exact HCI.out
                · rw [show k + (d + 1) = k + d + 1 from by omega, hsame.out.1]; exact HO3.out.ext RLb.good hx5
              case measure => simp [intOf]; omega
            · have hs : ∀ X, Calls Tryz.prog 37 #[.agg #[.int .i64 l[k + d].g, .slice A3 l[k + d].v.length c3], .agg #[.int .i64 l[k + (d - 1)].g, .slice A4 l[k + (d - 1)].v.length c4]] (exto wr X) fun e w' => e = .returned (.bool false) ∧ ExtD (exto wr X) w' := fun X => by have := hs0 X; rwa [eq_false_of_ne_true he2] at this
              have hput := Lib.hid (hpt (eq_false_of_ne_true he2))
              obtain ⟨t6, u6, b6, b7, _, f6, f7⟩ := hO3.get2 i (by rw [compY_len]; omega)
              have HO3 := Lib.hid hO3
              have HCI := Lib.hid hci
              have HR1 := Lib.hid r1
              clear hs0 hO3 r1 r2 hsm hpt hix hci hR
              go_wp2_with fail
              (refine wp_region_ext (by kernel_rfl) (by kernel_rfl) ?_; (repeat (first | go_big_quiet_step ((go_at_call 37; exact quiet_extD (hs _))) | quiet_step ((go_at_call 37; exact quiet_extD (hs _))))); refine wpQuiet_nil ?_)
              intro w5 hx5
              have a5 := Ext.keep hx5 a1
              have a6 := Ext.keep hx5 a1'
              have b5 := Ext.keep hx5 b6
              have b8 := Ext.keep hx5 b7
              have f5 := ext_fz hx5 (World.block_lt_of_cell? _ _ b6) f6
              have f8 := ext_fz hx5 (World.block_lt_of_cell? _ _ b7) f7
              clear a1 a2 a1' a2' b6 f6 b7 f7 hs
              go_wp2_with fail
              go_roundw
              case rel =>
                have hput2 := ROwn.putLb (HO3.out.ext RLb.good hx5) (by rw [compY_len]) i (by rw [compY_len]; omega) l[k + d] (.slice A3 l[k + d].v.length c3) (RLb.good.bel HR1.out hx5)
                refine ⟨d + 1, i + 1, by omega, by omega, by go_num, by go_num, by omega, ⟨?_, ?_⟩, ((hB.ext hx5).set (.inr rfl) _).set (.inr rfl) _⟩
                · rw [show k + (d + 1) = k + d + 1 from by omega, hput.out.2, List.length_append, HCI.out]; rfl
                · rw [show k + (d + 1) = k + d + 1 from by omega, hput.out.1, HCI.out]; exact hput2
              case measure => simp [intOf]; omega
          · obtain ⟨hci, hO3⟩ := hR.out
            have hkd : k + d = l.length := by omega
            rw [hkd, List.take_length] at hci
            rw [hkd] at hO3
            have hi3 : i < l.length := by omega
            obtain ⟨zs, hcl⟩ := run_clearK wr 22 61 0 (.agg #[.int .i64 0, .slice none 0 0]) 2 Tryz.underlying22 zero61 rfl (by decide) (by decide) g (i * 2) (l.length - i) (cap - i) (by omega) (fun j hj => hO3.cells2 (i * 2 + j) (by rw [compY_len]; omega))
            have hcut := Lib.hid (hO3.cut RLb.good (by rw [compY_len]) i (by omega) zs (i * 2) (by omega))
            have hres : Hid (cmpctL l = (compY sameLb l l.length).take i) := by
              show compactB sameLb l = _
              rw [compY, List.take_length, List.take_append_of_le_length (by omega), ← hci, List.take_length]
            have HCI := Lib.hid hci
            clear hO3 hci hR
            go_wp2_with fail
            go_ret
            have hln : (cmpctL l).length = i := HCI.out
            refine ⟨some ⟨g, 0, none⟩, cap, by rw [hln]; rfl, ?_, hB.trans hcut.out.2⟩
            rw [hln, hres.out]
            exact hcut.out.1
      · have hs : ∀ X, Calls Tryz.prog 37 #[.agg #[.int .i64 l[k].g, .slice A1 l[k].v.length c1], .agg #[.int .i64 l[k - 1].g, .slice A2 l[k - 1].v.length c2]] (exto wr X) fun e w' => e = .returned (.bool false) ∧ ExtD (exto wr X) w' := fun X => by have := hs0 X; rwa [eq_false_of_ne_true he] at this
        rw [if_neg he] at hst
        have HST := Lib.hid hst
        clear hs0 hst hO r1 r2
        go_wp2_with fail
        (refine wp_region_ext (by kernel_rfl) (by kernel_rfl) ?_; (repeat (first | go_big_quiet_step ((go_at_call 37; exact quiet_extD (hs _))) | quiet_step ((go_at_call 37; exact quiet_extD (hs _))))); refine wpQuiet_nil ?_)
        intro w2 hx2
        go_wp2_with fail
        go_roundw
        case rel =>
          refine ⟨k + 1, by omega, by omega, by go_num, (by repeat (first | exact Ext.refl _ | apply Ext.alloc | apply Below.drew | apply Ext.drewN | refine Ext.trans' ?_ (by assumption) | refine Ext.trans' ?_ (ExtD.ext (by assumption)))), ?_⟩
          show compactB sameLb _ = _
          rw [HST.out, show compactB sameLb (l.take k) = l.take k from hf.out, List.take_succ_eq_append_getElem hlt]
        case measure => simp [intOf]; omega
    · have hkk : Hid (cmpctL l = l) := by
        show _ = _
        have := hf.out
        rwa [List.take_of_length_le (by omega)] at this
      go_wp2_with fail
      go_ret
      rw [hkk.out]
      exact ⟨some ⟨g, 0, none⟩, cap, rfl, HO.out.ext RLb.good hE, hE.bt⟩
end Go.Proofs.YtegenalcheooeaaGreat

