/- Of the proof of a law of the suites: LDelete. -/
import Derived.Test.YtegenalcheooeaaGreatB40
import Derived.Test.YtegenalcheooeaaGreatCF01
import Derived.Deep.RegionLaw
/- slices.Delete of one label: walked. -/
set_option linter.unusedSectionVars false
set_option linter.unusedSimpArgs false
set_option linter.unusedVariables false
namespace Go.Proofs.YtegenalcheooeaaGreat
open Go.RowKit
attribute [local go_sem] cell?_exto
open Go.Shelf

set_option maxHeartbeats 1000000 in
set_option maxRecDepth 100000 in
theorem delete_c (base : Nat) (T : Nat → Prop) (l : List Lb) (g cap k : Nat) (w : World) (hown : ROwn RLb 2 61 base T w l (.slice (some ⟨g, 0, none⟩) l.length cap)) (hk : k < l.length) (hlen : l.length ≤ 1000000) :
    Calls Tryz.prog 38 #[.slice (some ⟨g, 0, none⟩) l.length cap, .int .i64 (k : Int), .int .i64 ((k : Int) + 1)] w fun e w' => e = .returned (.slice (some ⟨g, 0, none⟩) (l.length - 1) cap) ∧ ROwn RLb 2 61 base T w' (l.eraseIdx k) (.slice (some ⟨g, 0, none⟩) (l.length - 1) cap) ∧ Bt (fun b => b = g) w w' := by
  have hO := Lib.hid hown
  obtain ⟨news, hrow, hF⟩ := hown
  obtain ⟨hcap, hmax⟩ : l.length ≤ cap ∧ cap ≤ maxLen := by
    rcases hrow.2 with ⟨h', _⟩ | ⟨g', cap', cur, h', hb, hg, hnc, hcm, hcs, htake⟩
    · simp at h'
    · simp only [Value.slice.injEq, Option.some.injEq, Addr.mk.injEq, and_true, true_and] at h'
      obtain ⟨rfl, rfl⟩ := h'
      exact ⟨hnc, hcm⟩
  have hmax2 : cap ≤ 9223372036854775807 := by unfold maxLen at hmax; omega
  obtain ⟨i3, hi3, hzz⟩ := Option.map_eq_some_iff.1 infoLba
  simp only [Prod.mk.injEq] at hzz
  obtain ⟨_, hzs, _⟩ := hzz
  have hnl : news.length = l.length * 2 := hF.len
  obtain ⟨tail, htail⟩ : ∃ tail, tail = news.drop ((k + 1) * 2) := ⟨_, rfl⟩
  have htl : tail.length = (l.length - (k + 1)) * 2 := by rw [htail, List.length_drop, hnl, Nat.sub_mul]
  have h1n := hF.one RLb.good
  obtain ⟨A, hA, hsrc⟩ : ∃ A : Addr, (if cap = k + 1 then (some ⟨g, 0, none⟩ : Option Addr) else some ⟨g, (k + 1) * 2, none⟩) = some A ∧ Hid (∀ t u, tail[t]? = some u → w.drew.cell? (A.add t) = some u) := by
    by_cases h : cap = k + 1
    · refine ⟨⟨g, 0, none⟩, by simp [h], fun t u hu => ?_⟩
      have h0 : tail.length = 0 := by rw [htl]; omega
      rw [List.length_eq_zero_iff.1 h0] at hu
      simp at hu
    · refine ⟨⟨g, (k + 1) * 2, none⟩, by simp [h], fun t u hu => ?_⟩
      rw [htail, List.getElem?_drop] at hu
      have := (List.getElem?_eq_some_iff.1 hu).1
      rw [Addr.add_lit]
      exact (hrow.cellAt _ (by omega)).trans hu
  have s1 : Hid (tail.length = (l.length - (k + 1)) * 2) := htl
  have s2 : Hid (∀ u ∈ tail, u.oneCell' = true) := fun u hu => h1n u (by rw [htail] at hu; exact List.mem_of_mem_drop hu)
  have s3 : Hid (∀ t, t < tail.length → (w.drew.cell? ⟨g, 0 + k * 2 + t, none⟩).isSome = true ∧ w.drew.frozen? ⟨g, 0 + k * 2 + t, none⟩ = false) := fun t ht => by
    have := hO.out.cells2 (k * 2 + t) (by omega)
    rw [Nat.zero_add]
    exact this
  obtain ⟨W1, hW1⟩ : ∃ W1, W1 = w.drew.setCells g (0 + k * 2) tail := ⟨_, rfl⟩
  have hrow1 : W1.ownsRow base 61 2 (.slice (some ⟨g, 0, none⟩) l.length cap) l.length (setL news (k * 2) tail) := by
    rw [hW1, Nat.zero_add]
    exact own_setCells tail (k * 2) _ _ (World.ownsRow.drew hrow)
  have hB1 : Bt (fun b => b = g) w W1 := by
    rw [hW1]
    exact ((Bt.refl (fun b => b = g) w).drew).trans (bt_setCells _ _ _)
  have hcl0 : ∀ j, j < l.length * 2 → (W1.cell? ⟨g, j, none⟩).isSome = true ∧ W1.frozen? ⟨g, j, none⟩ = false := fun j hj => by
    refine ⟨?_, hrow1.frozenAt j⟩
    rw [hrow1.cellAt j (by omega), List.getElem?_eq_getElem (by rw [setL_len]; omega)]
    rfl
  obtain ⟨zs, hcl⟩ := run_clearK W1 22 61 0 (.agg #[.int .i64 0, .slice none 0 0]) 2 Tryz.underlying22 zero61 rfl (by decide) (by decide) g ((l.length - 1) * 2) 1 (cap - (l.length - 1)) (by omega) (fun j hj => hcl0 ((l.length - 1) * 2 + j) (by omega))
  have hfin := own_cleared zs ((l.length - 1) * 2) W1 (Nat.le_refl _) (own_prefix hrow1 (Nat.sub_le _ 1))
  have hlist : (setL news (k * 2) tail).take ((l.length - 1) * 2) = news.take (k * 2) ++ news.drop ((k + 1) * 2) := by
    apply List.ext_getElem?
    intro j
    rw [List.getElem?_take, setL_get tail (k * 2) news j (by omega), List.getElem?_append, List.length_take, Nat.min_eq_left (by omega), List.getElem?_take, List.getElem?_drop, htail, List.getElem?_drop, htail.symm, htl]
    by_cases h1 : j < k * 2
    · rw [if_pos (by omega), if_neg (by omega), if_pos h1, if_pos h1]
    · rw [if_neg h1]
      by_cases h2 : j < (l.length - 1) * 2
      · rw [if_pos h2, if_pos (by omega)]
      · rw [if_neg h2, List.getElem?_eq_none (by omega)]
  have hel : l.eraseIdx k = l.take k ++ l.drop (k + 1) := List.eraseIdx_eq_take_drop_succ l k
  have hell : (l.eraseIdx k).length = l.length - 1 := by rw [List.length_eraseIdx, if_pos hk]
  have HPOST : Hid (ROwn RLb 2 61 base T (W1.setCells g ((l.length - 1) * 2) zs) (l.eraseIdx k) (.slice (some ⟨g, 0, none⟩) (l.length - 1) cap) ∧ Bt (fun b => b = g) w (W1.setCells g ((l.length - 1) * 2) zs)) := by
    have hb := hB1.trans hfin.2
    refine ⟨⟨news.take (k * 2) ++ news.drop ((k + 1) * 2), by rw [hell, ← hlist]; exact hfin.1, ?_⟩, hb⟩
    rw [own_eq]
    rw [own_eq] at hF
    rw [hel]
    exact ((hF.take k).append (hF.drop (k + 1))).imp fun y _ cs hy => RLb.good.move hy (hb.kp fun b _ hb => hb.2)
  have hW : Hid (W1 = w.drew.setCells g (0 + k * 2) tail) := hW1
  have mixed : Tryz.prog.follows .mixedOrders = true := by kernel_rfl
  have hkc : k ≤ cap := by omega
  have hkc1 : k + 1 ≤ cap := by omega
  have hroom : k + (l.length - (k + 1)) ≤ cap := by omega
  have e1 : k + (l.length - (k + 1)) = l.length - 1 := by omega
  have e2 : l.length - (l.length - 1) = 1 := by omega
  have e3 : l.length - 1 ≤ l.length := by omega
  have b1 : (0 : Int) ≤ (k : Int) + 1 := by omega
  have b2 : ((k : Int) + 1).toNat = k + 1 := by omega
  have b3 : (k : Int) + 1 ≤ (l.length : Int) := by omega
  have b4 : ¬ (k : Int) = (k : Int) + 1 := by omega
  have b5 : (k : Int) ≤ (k : Int) + 1 := by omega
  clear hW1 hrow1 hB1 hcl0 hfin hlist hel hell htl h1n hnl htail hF hrow
  go_enter Tryz.func38, Tryz.ntmps38
  go_wp2_with fail
  go_region_law_o (refine step_append_room rfl (.tmp 22) (.tmp 25) 22 rfl 61 i3 2 Tryz.underlying22 hi3 hzs g 0 k cap (by simp [Act.eval, Act.put]) A (l.length - (k + 1)) (cap - (k + 1)) tail (by simp [Act.eval, Act.put]) s1.out hsrc.out s2.out hroom s3.out ?_; rw [← hW.out])
  go_wp2
  go_ret
  exact ⟨rfl, HPOST.out⟩
end Go.Proofs.YtegenalcheooeaaGreat

