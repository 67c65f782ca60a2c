/- Of the proof of a law of the suites: Copied. -/
import Derived.Test.YtegenalcheooeaaGreatB06
import Derived.Test.YtegenalcheooeaaGreatB11
import Derived.Deep.RegionWith
import Derived.Laws.OwnMore
import Derived.Lib.SmallJoins
import Derived.RangeFuncBox
/- suite.copied: labels in memory of their own. -/
set_option linter.unusedSectionVars false
set_option linter.unusedSimpArgs false
set_option linter.unusedVariables false
namespace Go.Proofs.YtegenalcheooeaaGreat
open Go.RowKit
attribute [local go_sem] cell?_exto

section
variable {α : Type} {R : Rdr α} {k : Nat}
/-- One cell of one element is written anew. -/
theorem Flat.put {S : Nat → Prop} {w w' : World} (hk : ∀ {x cs}, R S w x cs → cs.length = k) : ∀ {xs : List α} {cs : List Value} (i c : Nat) (u : Value) (x' : α), Flat R k S w xs cs → c < k → (hi : i < xs.length) →
    (∀ x ∈ xs, ∀ cs, R S w x cs → R S w' x cs) → (∀ cs, R S w xs[i] cs → R S w' x' (cs.set c u)) → Flat R k S w' (xs.set i x') (cs.set (i * k + c) u)
  | [], _, _, _, _, _, _, _, hi, _, _ => absurd hi (by simp)
  | x :: xs, cs, 0, c, u, x', ⟨c1, c2, h1, h2, h3, h4⟩, hc, _, hm, hn => by
    subst h1
    refine ⟨c1.set c u, c2, ?_, by simpa using h2, hn c1 h3, h4.imp fun y hy => hm y (by simp [hy])⟩
    rw [Nat.zero_mul, Nat.zero_add, List.set_append_left _ _ (by omega)]
  | x :: xs, cs, i + 1, c, u, x', ⟨c1, c2, h1, h2, h3, h4⟩, hc, hi, hm, hn => by
    subst h1
    refine ⟨c1, c2.set (i * k + c) u, ?_, h2, hm x (by simp) _ h3, Flat.put hk i c u x' h4 hc (by simpa using hi) (fun y hy => hm y (by simp [hy])) (by simpa using hn)⟩
    rw [List.set_append_right _ _ (by rw [h2, Nat.add_mul]; omega)]
    congr 2
    rw [h2, Nat.add_mul]
    omega
theorem ROwn.put {e : TypeId} {base : Nat} {T : Nat → Prop} {w : World} {xs : List α} {g cap : Nat} (hR : Good R k) (h : ROwn R k e base T w xs (.slice (some ⟨g, 0, none⟩) xs.length cap)) (i c : Nat) (u : Value) (x' : α) (hc : c < k) (hi : i < xs.length)
    (hn : ∀ cs, R (fun b => T b ∧ b ≠ g) w xs[i] cs → R (fun b => T b ∧ b ≠ g) w x' (cs.set c u)) : ROwn R k e base T (w.setCell ⟨g, i * k + c, none⟩ u) (xs.set i x') (.slice (some ⟨g, 0, none⟩) xs.length cap) := by
  obtain ⟨news, h1, h2⟩ := h
  have hS : (fun b => T b ∧ (Value.slice (some ⟨g, 0, none⟩) xs.length cap).ownBlock ≠ some b) = fun b => T b ∧ b ≠ g := by
    funext b
    simp [Value.ownBlock, eq_comm]
  rw [hS] at h2
  have hb := grownBy_setCell' w g u
  have hkp : Kp (fun b => T b ∧ b ≠ g) w (w.setCell ⟨g, i * k + c, none⟩ u) := ⟨by simp [World.setCell], fun q _ hq => Below.heap_setCell w _ u q hq.2⟩
  refine ⟨news.set (i * k + c) u, ?_, ?_⟩
  · rw [List.length_set]
    exact (h1.stored _ u).1
  · rw [hS]
    exact Flat.put (fun h => hR.len h) i c u x' h2 hc hi (fun x _ cs hx => hR.move hx hkp) fun cs hx => hR.move (hn cs hx) hkp
theorem Flat.at {S : Nat → Prop} {w : World} : ∀ {xs : List α} {cs : List Value} (i : Nat) (hi : i < xs.length), Flat R k S w xs cs → ∃ c1, c1.length = k ∧ R S w xs[i] c1 ∧ ∀ j, j < k → cs[i * k + j]? = c1[j]?
  | x :: xs, cs, 0, _, ⟨c1, c2, h1, h2, h3, h4⟩ => ⟨c1, h2, h3, fun j hj => by rw [h1, Nat.zero_mul, Nat.zero_add, List.getElem?_append_left (by omega)]⟩
  | x :: xs, cs, i + 1, hi, ⟨c1, c2, h1, h2, h3, h4⟩ => by
    obtain ⟨d, h5, h6, h7⟩ := Flat.at i (by simpa using hi) h4
    refine ⟨d, h5, by simpa using h6, fun j hj => ?_⟩
    rw [h1, List.getElem?_append_right (by rw [h2, Nat.add_mul]; omega), ← h7 j hj]
    congr 1
    rw [h2, Nat.add_mul]
    omega
theorem own_eq (g n cap : Nat) (T : Nat → Prop) : (fun b => T b ∧ (Value.slice (some ⟨g, 0, none⟩) n cap).ownBlock ≠ some b) = fun b => T b ∧ b ≠ g := by
  funext b
  simp [Value.ownBlock, eq_comm]
theorem ext_fz {W W1 : World} (he : Ext W W1) {a : Addr} (hb : a.block < W.heap.size) (h : W.frozen? a = false) : W1.frozen? a = false := (he.frozen hb).trans h
end

theorem Tm.size_pos (t : Tm) : 0 < t.size := by cases t; rw [Tm.size]; omega
theorem Tm.sizes_len : ∀ l : List Tm, l.length ≤ Tm.sizes l
  | [] => by simp
  | t :: l => by
    have := Tm.sizes_len l
    have := t.size_pos
    rw [Tm.sizes, List.length_cons]
    omega
theorem Tm.sizes_l (t : Tm) : Tm.sizes t.l < t.size := by cases t; rw [Tm.size]; exact Nat.lt_succ_self _

def CopyC (l : List Tm) : Prop := ∀ (S : Nat → Prop) (B : Nat) (v : Value) (W : World), RTms S W l [v] → W.cell? ⟨B, 0, none⟩ = some (.func (.func 151) #[] #[.pointer (some ⟨B, 0, none⟩)]) →
    Calls Tryz.prog 151 #[v, .pointer (some ⟨B, 0, none⟩)] W fun e w' => ∃ A c, e = .returned (.slice A l.length c) ∧ RTms (fun b => (S b ∧ b < W.heap.size) ∨ W.heap.size ≤ b) w' l [.slice A l.length c] ∧ Ext W w'

set_option maxHeartbeats 1000000 in
set_option maxRecDepth 100000 in
theorem copied1_c : ∀ (n : Nat) (l : List Tm), Tm.sizes l ≤ n → n ≤ 1000000000 → CopyC l := by
  intro n
  induction n using Nat.strongRecOn with
  | _ n ih =>
  intro l hl hn S B v w hx hB
  have hB0 := World.block_lt_of_cell? w _ hB
  have hll := Tm.sizes_len l
  have hcl := fun W (hW : Ext w W) => cloneTm S l v W (RTms.good.bel hx hW) (by omega)
  obtain ⟨A, c, rfl, _, _⟩ := hx.val
  obtain ⟨T, hT⟩ : ∃ T : Nat → Prop, T = fun b => (S b ∧ b < w.heap.size) ∨ w.heap.size ≤ b := ⟨_, rfl⟩
  have HX := Lib.hid hx
  clear hx
  rw [← hT]
  go_enter Tryz.func151, Tryz.ntmps151
  go_wp2_with fail
  refine (cloneTm (fun b => S b ∧ b < w.heap.size) l _ _ (RTms.good.mono HX.out fun b h1 h2 => ⟨h2, h1⟩) (by omega)).mono ?_
  rintro e w1 ⟨v1, rfl, hv1, h1⟩
  obtain ⟨A1, c1, rfl, _, _⟩ := (hv1.sl RTm.good (by decide)).val
  have HV := Lib.hid (hv1.mono (T' := T) RTm.good fun b _ h => by rw [hT]; exact .inl h)
  clear hv1 HX hcl
  go_wp2_with fail
  go_loopw [9] (fun i wr => ∃ k : Nat, k ≤ l.length ∧ i = .int .i64 k ∧ ROwn RTm 3 159 w.heap.size T wr l (.slice A1 l.length c1) ∧ Ext w wr) (fun i _ => l.length - (intOf i).toNat)
  case atStart => exact ⟨0, Nat.zero_le _, rfl, HV.out, h1⟩
  case round =>
    obtain ⟨k, hk, rfl, hv, hE⟩ := hrel
    by_cases hlt : k < l.length
    · obtain ⟨news, hrow, hF⟩ := id hv
      obtain ⟨g, cap, he⟩ := Joins.ownsRow_form hrow (by omega)
      injection he with he1 _ he2
      subst he1 he2
      rw [own_eq] at hF
      obtain ⟨c2, hc2, hr, hat⟩ := hF.at k hlt
      obtain ⟨_, _, v2, rfl, hv2⟩ := (RTm_iff ..).1 hr
      have gc : wr.cell? ⟨g, k * 3 + 2, none⟩ = some v2 := by rw [hrow.cellAt _ (by omega), hat 2 (by decide)]; rfl
      have gf := hrow.frozenAt (k * 3 + 2)
      have hgl : g < wr.heap.size := World.block_lt_of_cell? wr _ gc
      have hrec := fun W (hW : Ext wr W) => ih (Tm.sizes l[k].l) (by have := Tm.sizes_l l[k]; have := Tm.size_mem (List.getElem_mem hlt); omega) l[k].l (Nat.le_refl _) (by have := Tm.sizes_l l[k]; have := Tm.size_mem (List.getElem_mem hlt); omega) (fun b => T b ∧ b ≠ g) B v2 W (RTms.good.bel hv2 hW) (Ext.keep (hE.trans' hW) hB)
      obtain ⟨A2, c2, rfl, _, _⟩ := hv2.val
      have gB := Ext.keep hE hB
      have hgw : w.heap.size ≤ g := (own_row_base hrow g rfl).1
      have key : ∀ (w3 : World) (A3 : Option Addr) (c3 : Nat), Ext wr.drew w3 → RTms (fun b => (T b ∧ b ≠ g) ∧ b < wr.drew.heap.size ∨ wr.drew.heap.size ≤ b) w3 l[k].l [.slice A3 l[k].l.length c3] →
          ROwn RTm 3 159 w.heap.size T (w3.setCell ⟨g, k * 3 + 2, none⟩ (.slice A3 l[k].l.length c3)) l (.slice (some ⟨g, 0, none⟩) l.length c1) ∧ Ext w (w3.setCell ⟨g, k * 3 + 2, none⟩ (.slice A3 l[k].l.length c3)) := fun w3 A3 c3 hx ho => by
        have hx' : Ext wr w3 := Ext.trans' (Ext.refl wr).drew hx
        have h := ROwn.put RTm.good (hv.ext RTm.good hx') k 2 (.slice A3 l[k].l.length c3) l[k] (by decide) hlt fun cs hcs => by
          obtain ⟨i1, i2, u, rfl, hu⟩ := (RTm_iff ..).1 hcs
          refine (RTm_iff ..).2 ⟨i1, i2, _, rfl, RTms.good.mono ho fun b _ hb => ?_⟩
          rcases hb with ⟨h, _⟩ | h
          · exact h
          · have h' : wr.heap.size ≤ b := h
            have := hE.size
            exact ⟨by rw [hT]; exact .inr (by omega), by omega⟩
        rw [List.set_getElem_self] at h
        exact ⟨h, (hE.trans' hx').set hgw _⟩
      have HK := Lib.hid key
      clear hv hF hr hat hv2 hrow key
      go_wp2_with fail
      go_region_with (first | (go_at_call 151; refine (hrec _ (by repeat (first | exact Ext.refl _ | apply Ext.alloc | apply Below.drew | apply Ext.drewN | refine Ext.trans' ?_ (by assumption) | refine Ext.trans' ?_ (ExtD.ext (by assumption))))).mono ?_; rintro e w3 ⟨A3, c3, rfl, ho3, hx1⟩; have gf3 := ext_fz hx1 (by assumption) gf; have gc3 := Ext.keep hx1 gc))
      all_goals go_wp2_with fail
      all_goals go_roundw
      all_goals first
        | exact ⟨k + 1, by omega, by go_num, (HK.out _ _ _ hx1 ho3).1, (HK.out _ _ _ hx1 ho3).2⟩
        | (simp [intOf]; omega)
    · have HO := Lib.hid hv
      clear hv
      go_wp2_with fail
      go_ret
      refine ⟨A1, c1, rfl, RTms.good.mono (HO.out.sl RTm.good (by decide)) fun b _ hb => ?_, hE⟩
      rw [hT]
      rcases hb with h | h
      · rw [hT] at h; exact h
      · exact .inr h

theorem eg151 : ∀ args w, (callFunc 151 args).run Tryz.prog w = .ok (.enter 151 args) w := enters_of Tryz.func151 (by kernel_rfl) rfl
def Lb.size (x : Lb) : Nat := Tm.sizes x.v
set_option maxHeartbeats 1000000 in
set_option maxRecDepth 100000 in
theorem copied_c (S : Nat → Prop) (l : List Lb) (v : Value) (w : World) (hx : RLbs S w l [v]) (hsz : ∀ x ∈ l, x.size ≤ 1000000000) (hbig : l.length * 32 ≤ 140737488355328) :
    Calls Tryz.prog 82 #[v] w fun e w' => ∃ A c, e = .returned (.slice A l.length c) ∧ RLbs (fun b => (S b ∧ b < w.heap.size) ∨ w.heap.size ≤ b) w' l [.slice A l.length c] ∧ Ext w w' := by
  obtain ⟨A, c, rfl, _, _⟩ := hx.val
  obtain ⟨T, hT⟩ : ∃ T : Nat → Prop, T = fun b => (S b ∧ b < w.heap.size) ∨ w.heap.size ≤ b := ⟨_, rfl⟩
  have HX := Lib.hid hx
  clear hx
  rw [← hT]
  go_enter Tryz.func82, Tryz.ntmps82
  go_wp2_with fail
  obtain ⟨W0, hW0⟩ : ∃ W0, w.alloc (.cells #[.func (.func 151) #[] #[.pointer (some ⟨w.heap.size, 0, none⟩)]] 194) = W0 := ⟨_, rfl⟩
  have hX0 : Ext w W0 := by rw [← hW0]; exact (Ext.refl w).alloc _
  have hB : W0.cell? ⟨w.heap.size, 0, none⟩ = some (.func (.func 151) #[] #[.pointer (some ⟨w.heap.size, 0, none⟩)]) := by rw [← hW0]; simp
  have hB0 := World.block_lt_of_cell? W0 _ hB
  rw [hW0]
  clear hW0
  refine (cloneLb (fun b => S b ∧ b < w.heap.size) l _ _ (RLbs.good.bel (RLbs.good.mono HX.out fun b h1 h2 => ⟨h2, h1⟩) hX0) hbig).mono ?_
  rintro e w1 ⟨v1, rfl, hv1, h1⟩
  obtain ⟨A1, c1, rfl, _, _⟩ := (hv1.sl RLb.good (by decide)).val
  have HV := Lib.hid (hv1.mono (T' := T) RLb.good fun b _ h => by rw [hT]; exact .inl h)
  have hszW := hX0.size
  have hX1 : Ext w w1 := hX0.trans' h1
  have hB1 := Ext.keep h1 hB
  clear hv1 HX hB
  go_wp2_with fail
  go_loopw [10] (fun i wr => ∃ k : Nat, k ≤ l.length ∧ i = .int .i64 k ∧ ROwn RLb 2 61 W0.heap.size T wr l (.slice A1 l.length c1) ∧ Ext w wr ∧ wr.cell? ⟨w.heap.size, 0, none⟩ = some (.func (.func 151) #[] #[.pointer (some ⟨w.heap.size, 0, none⟩)])) (fun i _ => l.length - (intOf i).toNat)
  case atStart => exact ⟨0, Nat.zero_le _, rfl, HV.out, hX1, hB1⟩
  case round =>
    obtain ⟨k, hk, rfl, hv, hE, gB⟩ := hrel
    by_cases hlt : k < l.length
    · obtain ⟨news, hrow, hF⟩ := id hv
      obtain ⟨g, cap, he⟩ := Joins.ownsRow_form hrow (by omega)
      injection he with he1 _ he2
      subst he1 he2
      rw [own_eq] at hF
      obtain ⟨c2, hc2, hr, hat⟩ := hF.at k hlt
      obtain ⟨hi1, v2, rfl, hv2⟩ := id hr
      have gc : wr.cell? ⟨g, k * 2 + 1, none⟩ = some v2 := by rw [hrow.cellAt _ (by omega), hat 1 (by decide)]; rfl
      have gf := hrow.frozenAt (k * 2 + 1)
      have hgl : g < wr.heap.size := World.block_lt_of_cell? wr _ gc
      have hrec := fun W (hW : Ext wr W) => copied1_c (Tm.sizes l[k].v) l[k].v (Nat.le_refl _) (hsz _ (List.getElem_mem hlt)) (fun b => T b ∧ b ≠ g) w.heap.size v2 W (RTms.good.bel hv2 hW) (Ext.keep hW gB)
      obtain ⟨A2, c2, rfl, _, _⟩ := hv2.val
      have hgw : W0.heap.size ≤ g := (own_row_base hrow g rfl).1
      have key : ∀ (w3 : World) (A3 : Option Addr) (c3 : Nat), Ext wr.drew w3 → RTms (fun b => (T b ∧ b ≠ g) ∧ b < wr.drew.heap.size ∨ wr.drew.heap.size ≤ b) w3 l[k].v [.slice A3 l[k].v.length c3] →
          ROwn RLb 2 61 W0.heap.size T (w3.setCell ⟨g, k * 2 + 1, none⟩ (.slice A3 l[k].v.length c3)) l (.slice (some ⟨g, 0, none⟩) l.length c1) ∧ Ext w (w3.setCell ⟨g, k * 2 + 1, none⟩ (.slice A3 l[k].v.length c3)) ∧ (w3.setCell ⟨g, k * 2 + 1, none⟩ (.slice A3 l[k].v.length c3)).cell? ⟨w.heap.size, 0, none⟩ = some (.func (.func 151) #[] #[.pointer (some ⟨w.heap.size, 0, none⟩)]) := fun w3 A3 c3 hx ho => by
        have hx' : Ext wr w3 := Ext.trans' (Ext.refl wr).drew hx
        have h := ROwn.put RLb.good (hv.ext RLb.good hx') k 1 (.slice A3 l[k].v.length c3) l[k] (by decide) hlt fun cs hcs => by
          obtain ⟨i1, u, rfl, hu⟩ := hcs
          refine ⟨i1, _, rfl, RTms.good.mono ho fun b _ hb => ?_⟩
          rcases hb with ⟨h, _⟩ | h
          · exact h
          · have h' : wr.heap.size ≤ b := h
            have := hE.size
            exact ⟨by rw [hT]; exact .inr (by omega), by omega⟩
        rw [List.set_getElem_self] at h
        exact ⟨h, (hE.trans' hx').set (Nat.le_trans hszW hgw) _, (World.cell?_of_block (a := ⟨w.heap.size, 0, none⟩) (Below.heap_setCell w3 _ _ _ (by show w.heap.size ≠ g; omega))).trans (Ext.keep hx' gB)⟩
      have HK := Lib.hid key
      clear hv hF hr hat hv2 hrow key
      go_wp2_with fail
      go_region_with (first | (go_at_call 151; refine (hrec _ (by repeat (first | exact Ext.refl _ | apply Ext.alloc | apply Below.drew | apply Ext.drewN | refine Ext.trans' ?_ (by assumption) | refine Ext.trans' ?_ (ExtD.ext (by assumption))))).mono ?_; rintro e w3 ⟨A3, c3, rfl, ho3, hx1⟩; have gf3 := ext_fz hx1 (by assumption) gf; have gc3 := Ext.keep hx1 gc))
      all_goals go_wp2_with fail
      all_goals go_roundw
      all_goals first
        | exact ⟨k + 1, by omega, by go_num, (HK.out _ _ _ hx1 ho3).1, (HK.out _ _ _ hx1 ho3).2.1, (HK.out _ _ _ hx1 ho3).2.2⟩
        | (simp [intOf]; omega)
    · have HO := Lib.hid hv
      clear hv
      go_wp2_with fail
      go_ret
      refine ⟨A1, c1, rfl, RLbs.good.mono (HO.out.sl RLb.good (by decide)) fun b _ hb => ?_, hE⟩
      rw [hT]
      rcases hb with h | h
      · rw [hT] at h; exact h
      · exact .inr (by omega)
end Go.Proofs.YtegenalcheooeaaGreat

