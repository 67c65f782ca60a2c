/- Of the proof of a law of the suites: Compact, SortS, Delete, Scal. -/
import Derived.Test.YtegenalcheooeaaGreatM01
import Derived.Test.YtegenalcheooeaaGreatM04
import Derived.Test.YtegenalcheooeaaGreatM05
import Derived.Lib.SliceRun
import Derived.Test.YtegenalcheooeaaGreatLaid
import Derived.Shelf.SlGeneric
import Derived.Shelf.SlSortCmp.Whole1
import Derived.Shelf.SlSortCmp.NoneTotal
import Derived.Lib.OwnBridge
import Derived.BigQuiet
/- slices.CompactFunc at lists of labels: walked. -/
set_option linter.unusedSectionVars false
set_option linter.unusedSimpArgs false
set_option linter.unusedVariables false
namespace Go.Proofs.YtegenalcheooeaaGreat
open Go.RowKit
attribute [local go_sem] cell?_exto

/-! ### What it comes to -/
section
variable {α : Type} (eq : α → α → Bool)
def compGo : α → List α → List α
  | _, [] => []
  | p, y :: ys => if eq y p then compGo y ys else y :: compGo y ys
def compactB : List α → List α
  | [] => []
  | x :: xs => x :: compGo eq x xs
theorem compGo_snoc (z : α) : ∀ (xs : List α) (p : α), compGo eq p (xs ++ [z]) = compGo eq p xs ++ (if eq z ((p :: xs).getLast (by simp)) then [] else [z])
  | [], p => by cases h : eq z p <;> simp [compGo, h]
  | y :: ys, p => by
    have h := compGo_snoc z ys y
    rw [List.cons_append, compGo, compGo, h, List.getLast_cons_cons]
    split <;> rfl
theorem compGo_len : ∀ (xs : List α) (p : α), (compGo eq p xs).length ≤ xs.length
  | [], p => Nat.le_refl _
  | y :: ys, p => by
    have := compGo_len ys y
    rw [compGo]
    split <;> simp only [List.length_cons] <;> omega
theorem compactB_len : ∀ xs : List α, (compactB eq xs).length ≤ xs.length
  | [] => Nat.le_refl _
  | x :: xs => by have := compGo_len eq xs x; rw [compactB, List.length_cons, List.length_cons]; omega
theorem compactB_take (l : List α) (k : Nat) (h1 : 1 ≤ k) (hk : k < l.length) : compactB eq (l.take (k + 1)) = if eq l[k] l[k - 1] then compactB eq (l.take k) else compactB eq (l.take k) ++ [l[k]] := by
  rw [List.take_succ_eq_append_getElem hk]
  obtain ⟨p, xs, he⟩ : ∃ p xs, l.take k = p :: xs := by
    cases h : l.take k with
    | nil => have := congrArg List.length h; rw [List.length_take, List.length_nil] at this; omega
    | cons p xs => exact ⟨p, xs, rfl⟩
  have hl : (p :: xs).getLast (by simp) = l[k - 1] := by
    have hlen : (p :: xs).length = k := by rw [← he, List.length_take]; omega
    rw [List.getLast_eq_getElem]
    simp only [← he]
    rw [List.getElem_take]
    congr 1
    rw [List.length_take]
    omega
  rw [he, List.cons_append, compactB, compGo_snoc, hl, compactB]
  split <;> simp
theorem compGo_mem : ∀ (xs : List α) (p x : α), x ∈ compGo eq p xs → x ∈ xs
  | [], _, _, h => h
  | y :: ys, p, x, h => by
    rw [compGo] at h
    split at h
    · exact List.mem_cons_of_mem _ (compGo_mem ys y x h)
    · rcases List.mem_cons.1 h with rfl | h
      · simp
      · exact List.mem_cons_of_mem _ (compGo_mem ys y x h)
theorem compactB_mem : ∀ (xs : List α) (x : α), x ∈ compactB eq xs → x ∈ xs
  | [], x, h => h
  | y :: ys, x, h => by
    rw [compactB] at h
    rcases List.mem_cons.1 h with rfl | h
    · simp
    · exact List.mem_cons_of_mem _ (compGo_mem eq ys y x h)
/-- The row while it is being written. -/
def compY (l : List α) (m : Nat) : List α := compactB eq (l.take m) ++ l.drop (compactB eq (l.take m)).length
theorem compY_len (l : List α) (m : Nat) : (compY eq l m).length = l.length := by
  have h := compactB_len eq (l.take m)
  rw [List.length_take] at h
  rw [compY, List.length_append, List.length_drop]
  omega
theorem compY_at (l : List α) (m j : Nat) (hj : (compactB eq (l.take m)).length ≤ j) (hl : j < l.length) : (compY eq l m)[j]'(by rw [compY_len]; exact hl) = l[j] := by
  unfold compY
  rw [List.getElem_append_right hj]
  simp only [List.getElem_drop]
  congr 1
  omega
theorem compY_same (l : List α) (m : Nat) (h1 : 1 ≤ m) (hm : m < l.length) (he : eq l[m] l[m - 1] = true) : compY eq l (m + 1) = compY eq l m ∧ compactB eq (l.take (m + 1)) = compactB eq (l.take m) := by
  have h := compactB_take eq l m h1 hm
  rw [if_pos he] at h
  exact ⟨by rw [compY, h]; rfl, h⟩
theorem compY_put (l : List α) (m : Nat) (h1 : 1 ≤ m) (hm : m < l.length) (he : eq l[m] l[m - 1] = false) (hi : (compactB eq (l.take m)).length < l.length) :
    compY eq l (m + 1) = (compY eq l m).set (compactB eq (l.take m)).length l[m] ∧ compactB eq (l.take (m + 1)) = compactB eq (l.take m) ++ [l[m]] := by
  have h := compactB_take eq l m h1 hm
  rw [if_neg (by rw [he]; decide)] at h
  refine ⟨?_, h⟩
  rw [compY, compY, h, List.set_append_right _ _ (Nat.le_refl _), Nat.sub_self, List.drop_eq_getElem_cons hi, List.set_cons_zero, List.length_append, List.length_singleton, List.append_assoc]
  rfl
end

/-! ### A row that is cut short, and cleared behind -/
theorem own_prefix {w : World} {base size n m cap g : Nat} {e : TypeId} {xs : List Value} (h : w.ownsRow base e size (.slice (some ⟨g, 0, none⟩) n cap) n xs) (hm : m ≤ n) : w.ownsRow base e size (.slice (some ⟨g, 0, none⟩) m cap) m (xs.take (m * size)) := by
  have hmn : m * size ≤ n * size := Nat.mul_le_mul_right _ hm
  rcases h.2 with ⟨h', _⟩ | ⟨g', cap', cur, h', hb, hg, hnc, hcm, hcs, htake⟩
  · simp at h'
  · simp only [Value.slice.injEq, Option.some.injEq, Addr.mk.injEq, and_true, true_and] at h'
    obtain ⟨rfl, rfl⟩ := h'
    refine ⟨by rw [List.length_take, h.1]; omega, .inr ⟨g, cap, cur, rfl, hb, hg, by omega, hcm, hcs, ?_⟩⟩
    rw [← htake, List.take_take, Nat.min_eq_left hmn]
theorem own_cleared {base size n cap g : Nat} {e : TypeId} {xs : List Value} : ∀ (vs : List Value) (o : Nat) (w : World), n * size ≤ o → w.ownsRow base e size (.slice (some ⟨g, 0, none⟩) n cap) n xs → (w.setCells g o vs).ownsRow base e size (.slice (some ⟨g, 0, none⟩) n cap) n xs ∧ Bt (fun b => b = g) w (w.setCells g o vs)
  | [], o, w, _, h => ⟨h, Bt.refl _ _⟩
  | v :: vs, o, w, ho, h => by
    have h1 := (h.stored o v).1
    rw [List.set_eq_of_length_le (by rw [h.1]; exact ho)] at h1
    obtain ⟨h2, h3⟩ := own_cleared vs (o + 1) _ (by omega) h1
    exact ⟨h2, ((Bt.refl (fun b => b = g) w).set (p := ⟨g, o, none⟩) (.inr rfl) v).trans h3⟩
theorem Flat.take {α : Type} {R : Rdr α} {k : Nat} {S : Nat → Prop} {w : World} : ∀ {xs : List α} {cs : List Value} (m : Nat), Flat R k S w xs cs → Flat R k S w (xs.take m) (cs.take (m * k))
  | xs, cs, 0, h => by simp [Flat]
  | [], cs, m + 1, h => by rw [show cs = [] from h]; simp [Flat]
  | x :: xs, cs, m + 1, ⟨c1, c2, h1, h2, h3, h4⟩ => by
    refine ⟨c1, c2.take (m * k), ?_, h2, h3, Flat.take m h4⟩
    rw [h1, List.take_append, h2, List.take_of_length_le (by rw [h2, Nat.add_mul]; omega)]
    congr 2
    rw [Nat.add_mul]
    omega
section
variable {α : Type} {R : Rdr α} {k : Nat} {e : TypeId} {base : Nat} {T : Nat → Prop} {w : World} {xs : List α}
theorem ROwn.get1 {g n cap : Nat} (h : ROwn R 1 e base T w xs (.slice (some ⟨g, 0, none⟩) n cap)) (i : Nat) (hi : i < xs.length) :
    ∃ u, w.cell? ⟨g, i, none⟩ = some u ∧ R (fun b => T b ∧ b ≠ g) w xs[i] [u] ∧ w.frozen? ⟨g, i, none⟩ = false := by
  obtain ⟨news, h1, h2⟩ := h
  have hn : n = xs.length := by
    rcases h1.2 with ⟨h', _⟩ | ⟨g', cap', cur, h', _⟩
    · simp at h'
    · simp at h'; exact h'.2.1
  subst hn
  rw [own_eq] at h2
  obtain ⟨c1, h3, h4, h5⟩ := h2.at i hi
  obtain ⟨u, rfl⟩ : ∃ u, c1 = [u] := by
    match c1, h3 with
    | [u], _ => exact ⟨u, rfl⟩
  have := h5 0 (by decide)
  refine ⟨u, ?_, h4, h1.frozenAt i⟩
  rw [h1.cellAt i (by omega)]
  simpa using this
theorem ROwn.put1 {g n cap : Nat} (hR : Good R 1) (h : ROwn R 1 e base T w xs (.slice (some ⟨g, 0, none⟩) n cap)) (hn : n = xs.length) (i : Nat) (u : Value) (x' : α) (hi : i < xs.length) (hu : R (fun b => T b ∧ b ≠ g) w x' [u]) :
    ROwn R 1 e base T (w.setCell ⟨g, i, none⟩ u) (xs.set i x') (.slice (some ⟨g, 0, none⟩) n cap) := by
  subst hn
  have := ROwn.put hR h i 0 u x' (by decide) hi fun cs hcs => by
    have hl := hR.len hcs
    match cs, hl with
    | [a], _ => exact hu
  simpa using this
theorem ROwn.cut {g n cap : Nat} (hR : Good R k) (h : ROwn R k e base T w xs (.slice (some ⟨g, 0, none⟩) n cap)) (hn : n = xs.length) (m : Nat) (hm : m ≤ n) (vs : List Value) (o : Nat) (ho : m * k ≤ o) :
    ROwn R k e base T (w.setCells g o vs) (xs.take m) (.slice (some ⟨g, 0, none⟩) m cap) ∧ Bt (fun b => b = g) w (w.setCells g o vs) := by
  subst hn
  obtain ⟨news, h1, h2⟩ := h
  rw [own_eq] at h2
  obtain ⟨h3, h4⟩ := own_cleared vs o w ho (own_prefix h1 hm)
  refine ⟨⟨news.take (m * k), ?_, ?_⟩, h4⟩
  · rw [List.length_take, Nat.min_eq_left hm]; exact h3
  · rw [own_eq]
    exact (h2.take m).imp fun x _ cs hx => hR.move hx (h4.kp fun b _ hb => hb.2)
end

/-! ### The walk -/
def eqSets (a b : List Lb) : Bool := decide (cmpSets a b = 0)
def cmpctS (l : List (List Lb)) : List (List Lb) := compactB eqSets l
set_option maxHeartbeats 1000000 in
set_option maxRecDepth 100000 in
theorem compactLbs_c (base : Nat) (T : Nat → Prop) (l : List (List Lb)) (v : Value) (w : World) (hown : ROwn RLbs 1 22 base T w l v) (hlen : l.length ≤ 1000000000) :
    Calls Tryz.prog 144 #[v, .func (.func 145) #[] #[]] w fun e w' => ∃ A c, e = .returned (.slice A (cmpctS l).length c) ∧ ROwn RLbs 1 22 base T w' (cmpctS l) (.slice A (cmpctS l).length c) ∧ Bt (fun b => v.ownBlock = some b) w w' := by
  by_cases h2 : l.length < 2
  · have hc : Hid (cmpctS l = l) := by
      show _ = _
      match l, h2 with
      | [], _ => rfl
      | [x], _ => rfl
    obtain ⟨A, c, rfl, _, _⟩ := (hown.sl RLbs.good (by decide)).val
    have HO := Lib.hid hown
    clear hown
    go_enter Tryz.func144, Tryz.ntmps144
    go_wp2_with fail
    go_ret
    rw [hc.out]
    exact ⟨A, c, rfl, HO.out, Bt.refl _ _⟩
  obtain ⟨g, cap, rfl⟩ : ∃ g cap, v = .slice (some ⟨g, 0, none⟩) l.length cap := by
    obtain ⟨news, h1, _⟩ := hown
    exact Joins.ownsRow_form h1 (by omega)
  have hcap : l.length ≤ cap ∧ cap ≤ 9223372036854775807 := by
    obtain ⟨A, c, he, h3, h4⟩ := (hown.sl RLbs.good (by decide)).val
    injection he with _ _ he
    exact ⟨by omega, by omega⟩
  have hZ : (fun b => (Value.slice (some ⟨g, 0, none⟩) l.length cap).ownBlock = some b) = fun b => b = g := by funext b; simp [Value.ownBlock, eq_comm]
  rw [hZ]
  have HO := Lib.hid hown
  clear hown hZ
  go_enter Tryz.func144, Tryz.ntmps144
  go_wp2_with fail
  go_loopw [5] (fun i wr => ∃ k : Nat, 1 ≤ k ∧ k ≤ l.length ∧ i = .int .i64 k ∧ Ext w wr ∧ Hid (cmpctS (l.take k) = l.take k)) (fun i _ => l.length - (intOf i).toNat)
  case atStart => exact ⟨1, Nat.le_refl _, by omega, rfl, Ext.refl _, by
    show _ = _
    cases l with
    | nil => simp at h2
    | cons x xs => simp [cmpctS, compactB, compGo]⟩
  case round =>
    obtain ⟨k, hk1, hk, rfl, hE, hf⟩ := hrel
    by_cases hlt : k < l.length
    · have hO := HO.out.ext RLbs.good hE
      obtain ⟨u1, a1, r1, _⟩ := hO.get1 k hlt
      obtain ⟨u2, a2, r2, _⟩ := hO.get1 (k - 1) (by omega)
      have hs0 := fun X => same_c (fun _ => True) l[k] l[k - 1] u1 u2 (exto wr X) (RLbs.good.bel (RLbs.good.mono r1 fun _ _ _ => trivial) (exto_ext wr X)) (RLbs.good.bel (RLbs.good.mono r2 fun _ _ _ => trivial) (exto_ext wr X))
      obtain ⟨A1, c1, rfl, _, _⟩ := r1.val
      obtain ⟨A2, c2, rfl, _, _⟩ := r2.val
      have hst := compactB_take eqSets l k hk1 hlt
      have hk0 : (0 : Int) ≤ (k : Int) - 1 := by omega
      have hk2 : ((k : Int) - 1).toNat = k - 1 := by omega
      have hk3 : (k : Int) - 1 < (l.length : Int) := by omega
      by_cases he : eqSets l[k] l[k - 1] = true
      · have hs : ∀ X, Calls Tryz.prog 145 #[.slice A1 l[k].length c1, .slice A2 l[k - 1].length c2] (exto wr X) fun e w' => e = .returned (.bool true) ∧ ExtD (exto wr X) w' := fun X => by have := hs0 X; rwa [show decide (cmpSets l[k] l[k - 1] = 0) = true from he] at this
        rw [if_pos he] at hst
        have HST := Lib.hid hst
        have HOr := Lib.hid hO
        clear hs0 hst hO r1 r2
        go_wp2_with fail
        (refine wp_region_ext (by kernel_rfl) (by kernel_rfl) ?_; (repeat (first | go_big_quiet_step ((go_at_call 145; exact quiet_extD (hs _))) | quiet_step ((go_at_call 145; exact quiet_extD (hs _))))); refine wpQuiet_nil ?_)
        intro w2 hx2
        have hO2 := Lib.hid (HOr.out.ext RLbs.good hx2)
        have hX2 := hE.trans' hx2
        clear hs hx2 HOr a1 a2
        go_wp2_with fail
        go_loopw [5, 7] (fun vi v2 wr' => ∃ d i : Nat, 1 ≤ d ∧ k + d ≤ l.length ∧ vi = .int .i64 (i : Nat) ∧ v2 = .int .i64 (d : Nat) ∧ i < k + d ∧ Hid ((compactB eqSets (l.take (k + d))).length = i ∧ ROwn RLbs 1 22 base T wr' (compY eqSets l (k + d)) (.slice (some ⟨g, 0, none⟩) l.length cap)) ∧ Bt (fun b => b = g) w wr') (fun _ v2 _ => l.length - k - (intOf v2).toNat)
        case atStart =>
          have hk' : compactB eqSets (l.take k) = l.take k := hf.out
          have hY : compY eqSets l (k + 1) = l := by rw [compY, HST.out, hk', List.length_take, Nat.min_eq_left hk, List.take_append_drop]
          refine ⟨1, k, Nat.le_refl _, by omega, rfl, rfl, by omega, ⟨by rw [HST.out, hk', List.length_take, Nat.min_eq_left hk], by rw [hY]; exact hO2.out⟩, hX2.bt⟩
        case round =>
          obtain ⟨d, i, hd1, hd, rfl, rfl, hi, hR, hB⟩ := hrel
          by_cases hlt2 : k + d < l.length
          · have hlt3 : k + (d - 1) < l.length := by omega
            have hle3 : 1 ≤ k + d := by omega
            have hlt4 : i < l.length := by omega
            obtain ⟨hci, hO3⟩ := hR.out
            obtain ⟨u1, a1, r1, _⟩ := hO3.get1 (k + d) (by rw [compY_len]; exact hlt2)
            obtain ⟨u2, a2, r2, _⟩ := hO3.get1 (k + (d - 1)) (by rw [compY_len]; omega)
            rw [compY_at eqSets l (k + d) (k + d) (by omega) hlt2] at r1
            rw [compY_at eqSets l (k + d) (k + (d - 1)) (by omega) hlt3] at r2
            have hs0 := fun X => same_c (fun _ => True) l[k + d] l[k + (d - 1)] u1 u2 (exto wr X) (RLbs.good.bel (RLbs.good.mono r1 fun _ _ _ => trivial) (exto_ext wr X)) (RLbs.good.bel (RLbs.good.mono r2 fun _ _ _ => trivial) (exto_ext wr X))
            have hix : eqSets l[k + d] l[k + (d - 1)] = eqSets l[k + d] (l[k + d - 1]'(by omega)) := by
              have hx : k + (d - 1) = k + d - 1 := by omega
              simp only [hx]
            have hsm := fun h => compY_same eqSets l (k + d) hle3 hlt2 h
            have hpt := fun h => compY_put eqSets l (k + d) hle3 hlt2 h (by rw [hci]; exact hlt4)
            rw [← hix] at hsm hpt
            obtain ⟨A3, c3, rfl, _, _⟩ := r1.val
            obtain ⟨A4, c4, rfl, _, _⟩ := r2.val
            have hd0 : (0 : Int) ≤ (d : Int) - 1 := by omega
            have hd2 : ((d : Int) - 1).toNat = d - 1 := by omega
            by_cases he2 : eqSets l[k + d] l[k + (d - 1)] = true
            · have hs : ∀ X, Calls Tryz.prog 145 #[.slice A3 l[k + d].length c3, .slice A4 l[k + (d - 1)].length c4] (exto wr X) fun e w' => e = .returned (.bool true) ∧ ExtD (exto wr X) w' := fun X => by have := hs0 X; rwa [show decide (cmpSets l[k + d] l[k + (d - 1)] = 0) = true from he2] at this
              have hsame := Lib.hid (hsm he2)
              have HO3 := Lib.hid hO3
              have HCI := Lib.hid hci
              clear hs0 hO3 r1 r2 hsm hpt hix hci hR
              go_wp2_with fail
              (refine wp_region_ext (by kernel_rfl) (by kernel_rfl) ?_; (repeat (first | go_big_quiet_step ((go_at_call 145; exact quiet_extD (hs _))) | quiet_step ((go_at_call 145; exact quiet_extD (hs _))))); refine wpQuiet_nil ?_)
              intro w5 hx5
              go_wp2_with fail
              go_roundw
              case rel =>
                refine ⟨d + 1, i, by omega, by omega, rfl, by go_num, by omega, ⟨?_, ?_⟩, hB.ext hx5⟩
                · rw [show k + (d + 1) = k + d + 1 from by omega, hsame.out.2]; exact HCI.out
                · rw [show k + (d + 1) = k + d + 1 from by omega, hsame.out.1]; exact HO3.out.ext RLbs.good hx5
              case measure => simp [intOf]; omega
            · have hs : ∀ X, Calls Tryz.prog 145 #[.slice A3 l[k + d].length c3, .slice A4 l[k + (d - 1)].length c4] (exto wr X) fun e w' => e = .returned (.bool false) ∧ ExtD (exto wr X) w' := fun X => by have := hs0 X; rwa [show decide (cmpSets l[k + d] l[k + (d - 1)] = 0) = false from eq_false_of_ne_true he2] at this
              have hput := Lib.hid (hpt (eq_false_of_ne_true he2))
              obtain ⟨u6, b6, _, f6⟩ := hO3.get1 i (by rw [compY_len]; omega)
              have HO3 := Lib.hid hO3
              have HCI := Lib.hid hci
              have HR1 := Lib.hid r1
              clear hs0 hO3 r1 r2 hsm hpt hix hci hR
              go_wp2_with fail
              (refine wp_region_ext (by kernel_rfl) (by kernel_rfl) ?_; (repeat (first | go_big_quiet_step ((go_at_call 145; exact quiet_extD (hs _))) | quiet_step ((go_at_call 145; exact quiet_extD (hs _))))); refine wpQuiet_nil ?_)
              intro w5 hx5
              have a5 := Ext.keep hx5 a1
              have b5 := Ext.keep hx5 b6
              have f5 := ext_fz hx5 (World.block_lt_of_cell? _ _ b6) f6
              clear a1 a2 b6 f6 hs
              go_wp2_with fail
              go_roundw
              case rel =>
                have hput2 := ROwn.put1 RLbs.good (HO3.out.ext RLbs.good hx5) (by rw [compY_len]) i (.slice A3 l[k + d].length c3) l[k + d] (by rw [compY_len]; omega) (RLbs.good.bel HR1.out hx5)
                refine ⟨d + 1, i + 1, by omega, by omega, by go_num, by go_num, by omega, ⟨?_, ?_⟩, (hB.ext hx5).set (.inr rfl) _⟩
                · rw [show k + (d + 1) = k + d + 1 from by omega, hput.out.2, List.length_append, HCI.out]; rfl
                · rw [show k + (d + 1) = k + d + 1 from by omega, hput.out.1, HCI.out]; exact hput2
              case measure => simp [intOf]; omega
          · obtain ⟨hci, hO3⟩ := hR.out
            have hkd : k + d = l.length := by omega
            rw [hkd, List.take_length] at hci
            rw [hkd] at hO3
            have hi3 : i < l.length := by omega
            have hcl := Lib.run_clear_slice (P := Tryz.prog) wr 30 22 0 (.slice none 0 0) Tryz.underlying30 (fun _ => by kernel_rfl) rfl rfl g i (l.length - i) (cap - i) (by omega) (fun j hj => by
              obtain ⟨u, h1, _⟩ := hO3.get1 (i + j) (by rw [compY_len]; omega)
              rw [h1]; rfl) (fun j hj => by
              obtain ⟨u, _, _, h1⟩ := hO3.get1 (i + j) (by rw [compY_len]; omega)
              exact h1)
            have hcut := Lib.hid (hO3.cut RLbs.good (by rw [compY_len]) i (by omega) (List.replicate (l.length - i) (.slice none 0 0)) i (by omega))
            have hres : Hid (cmpctS l = (compY eqSets l l.length).take i) := by
              show compactB eqSets l = _
              rw [compY, List.take_length, List.take_append_of_le_length (by omega), ← hci, List.take_length]
            have HCI := Lib.hid hci
            clear hO3 hci hR
            go_wp2_with fail
            go_ret
            have hln : (cmpctS l).length = i := HCI.out
            refine ⟨some ⟨g, 0, none⟩, cap, by rw [hln]; rfl, ?_, hB.trans hcut.out.2⟩
            rw [hln, hres.out]
            exact hcut.out.1
      · have hs : ∀ X, Calls Tryz.prog 145 #[.slice A1 l[k].length c1, .slice A2 l[k - 1].length c2] (exto wr X) fun e w' => e = .returned (.bool false) ∧ ExtD (exto wr X) w' := fun X => by have := hs0 X; rwa [show decide (cmpSets l[k] l[k - 1] = 0) = false from eq_false_of_ne_true he] at this
        rw [if_neg he] at hst
        have HST := Lib.hid hst
        clear hs0 hst hO r1 r2
        go_wp2_with fail
        (refine wp_region_ext (by kernel_rfl) (by kernel_rfl) ?_; (repeat (first | go_big_quiet_step ((go_at_call 145; exact quiet_extD (hs _))) | quiet_step ((go_at_call 145; exact quiet_extD (hs _))))); refine wpQuiet_nil ?_)
        intro w2 hx2
        go_wp2_with fail
        go_roundw
        case rel =>
          refine ⟨k + 1, by omega, by omega, by go_num, (by repeat (first | exact Ext.refl _ | apply Ext.alloc | apply Below.drew | apply Ext.drewN | refine Ext.trans' ?_ (by assumption) | refine Ext.trans' ?_ (ExtD.ext (by assumption)))), ?_⟩
          show compactB eqSets _ = _
          rw [HST.out, show compactB eqSets (l.take k) = l.take k from hf.out, List.take_succ_eq_append_getElem hlt]
        case measure => simp [intOf]; omega
    · have hkk : Hid (cmpctS l = l) := by
        show _ = _
        have := hf.out
        rwa [List.take_of_length_le (by omega)] at this
      go_wp2_with fail
      go_ret
      rw [hkk.out]
      exact ⟨some ⟨g, 0, none⟩, cap, rfl, HO.out.ext RLbs.good hE, hE.bt⟩
end Go.Proofs.YtegenalcheooeaaGreat

/- slices.SortFunc at lists of labels: walked. -/
set_option linter.unusedSectionVars false
set_option linter.unusedSimpArgs false
set_option linter.unusedVariables false
namespace Go.Proofs.YtegenalcheooeaaGreat
open Go.RowKit
attribute [local go_sem] cell?_exto
open Go.Shelf Go.Sort Go.Lib

theorem grown_grow (w : World) (os : Array Obj) : w.grownBy (grow w os) none := ⟨rfl, rfl, rfl, by simp [grow], fun k hk _ => by simp [grow, Array.getElem?_append_left hk]⟩
theorem extD_grow {a b : World} (h : ExtD a b) : ∃ q os, b = grow (a.drewN q) os := by
  refine ⟨b.drawn - a.drawn, b.heap.extract a.heap.size b.heap.size, ?_⟩
  obtain ⟨bh, bt, bd, bo, bu⟩ := b
  obtain ⟨ah, at', ad, ao, au⟩ := a
  obtain ⟨⟨e1, e2, e3, e4, e5⟩, e6⟩ := h
  simp only at e1 e2 e3 e4 e5 e6
  subst e1 e2 e3
  simp only [grow, World.drewN, World.mk.injEq, true_and, and_true]
  refine ⟨?_, by omega⟩
  apply Array.ext_getElem?
  intro k
  by_cases hk : k < ah.size
  · rw [Array.getElem?_append_left hk]
    exact e5 k hk
  · rw [Array.getElem?_append_right (by omega), Array.getElem?_extract]
    by_cases hk2 : k < bh.size
    · rw [if_pos (by omega)]
      congr 1
      omega
    · rw [if_neg (by omega), Array.getElem?_eq_none (by omega)]

/-- A comparator that is an order gives a strict weak order. -/
theorem swo_of {α β : Type} {cf : α → α → Int} (h : Ord3 cf) (f : β → α) : SWO (ltOf fun x y => cf (f x) (f y)) := {
  irrefl x := by simp [ltOf, h.refl]
  trans x y z h1 h2 := by
    simp only [ltOf, decide_eq_true_eq] at *
    exact h.trans _ _ _ h1 h2
  ntrans x y z h1 h2 := by
    simp only [ltOf, decide_eq_false_iff_not, Int.not_lt] at *
    by_cases e1 : cf (f x) (f y) = 0
    · rw [h.eq _ _ e1]; exact h2
    · have h3 := (h.sgn (f y) (f x)).2 (by omega)
      by_cases h4 : cf (f x) (f z) < 0
      · have := h.trans _ _ _ h3 h4
        omega
      · omega }

section
variable {α : Type} [Inhabited α]
theorem grownBy_sortW (enc : α → Value) (w : World) (g n : Nat) (d : Array α) (os : Array Obj) : w.grownBy (sortWorld enc w g 0 n d os) (some g) := by
  refine ⟨rfl, rfl, rfl, by simp [sortWorld, grow, putRow, mapBlock, Sort.ahead], fun k hk hne => ?_⟩
  have hk' : k < (putRow enc (Sort.ahead w n) g 0 d).heap.size := by simpa [putRow, mapBlock, Sort.ahead] using hk
  have : g ≠ k := fun e => hne (by rw [e])
  unfold sortWorld
  simp only [grow, Array.getElem?_append_left hk']
  simp [putRow, mapBlock, Sort.ahead, Array.getElem?_modify, this]
theorem ownsRow_sortW {enc : α → Value} {w : World} {base : Nat} {e : TypeId} {g n cap q : Nat} {zs ys : List α} {os : Array Obj} (h : w.ownsRow base e 1 (.slice (some ⟨g, 0, none⟩) n cap) n (zs.map enc)) (hy : ys.length = n) :
    (sortWorld enc w g 0 q ys.toArray os).ownsRow base e 1 (.slice (some ⟨g, 0, none⟩) n cap) n (ys.map enc) := by
  have h1 := ownsRow_putRow (q := q) h hy (Nat.le_refl n)
  rw [← hy, List.take_length, hy] at h1
  exact h1.kept (grown_grow _ os) (.inr (by simp [Value.ownBlock]))
end

/-- Elements, each with its value. -/
abbrev SE (S : Nat → Prop) (w : World) : Type := { p : List Lb × Value // RLbs S w p.1 [p.2] }
instance (S : Nat → Prop) (w : World) : Inhabited (SE S w) := ⟨⟨([], .slice none 0 0), none, 0, rfl, Nat.le_refl _, by decide, .inl rfl⟩⟩
theorem flat_se {S : Nat → Prop} {w : World} : ∀ {l : List (List Lb)} {cs : List Value}, Flat RLbs 1 S w l cs → ∃ ds : List (SE S w), ds.map (fun p => p.1.1) = l ∧ ds.map (fun p => p.1.2) = cs
  | [], cs, h => ⟨[], rfl, (show cs = [] from h).symm⟩
  | x :: l, cs, ⟨c1, c2, h1, h2, h3, h4⟩ => by
    obtain ⟨ds, e1, e2⟩ := flat_se h4
    match c1, h2 with
    | [u], _ => exact ⟨⟨(x, u), h3⟩ :: ds, by rw [List.map_cons, e1], by rw [List.map_cons, e2, h1]; rfl⟩
theorem se_flat {S S' : Nat → Prop} {w w' : World} (hm : ∀ x u, RLbs S w x [u] → RLbs S' w' x [u]) : ∀ ds : List (SE S w), Flat RLbs 1 S' w' (ds.map fun p => p.1.1) (ds.map fun p => p.1.2)
  | [] => rfl
  | p :: ds => ⟨[p.1.2], ds.map (fun p => p.1.2), rfl, rfl, hm _ _ p.2, se_flat hm ds⟩

theorem eg143 : ∀ args w, (callFunc 143 args).run Tryz.prog w = .ok (.enter 143 args) w := enters_of Tryz.func143 (by kernel_rfl) rfl
theorem ordS : Ord3 cmpSets := ordL ordLb
def sortS (l : List (List Lb)) : List (List Lb) := sortB cmpSets l
set_option maxHeartbeats 1000000 in
set_option maxRecDepth 100000 in
theorem sortS_own (base : Nat) (T : Nat → Prop) (l : List (List Lb)) (v : Value) (w : World) (hown : ROwn RLbs 1 22 base T w l v) (hlen : l.length < 4611686018427387904) :
    Calls Tryz.prog 142 #[v, .func (.func 143) #[] #[]] w fun e w' => e = .returned (.tuple #[]) ∧ ROwn RLbs 1 22 base T w' (sortS l) v ∧ Bt (fun b => v.ownBlock = some b) w w' := by
  obtain ⟨news, hrow, hF⟩ := hown
  by_cases hv : v = .slice none 0 0
  · subst hv
    have hl0 : l = [] := by
      rcases hrow.2 with ⟨_, h⟩ | ⟨g, cap, cur, h, _⟩
      · exact List.length_eq_zero_iff.1 h
      · cases h
    subst hl0
    refine (AnyF.slices_SortFunc_none Tryz.lays142n none 0 _ w).mono ?_
    rintro e w' ⟨rfl, rfl⟩
    exact ⟨rfl, ROwn.nil .., Bt.refl _ _⟩
  obtain ⟨g, cap, rfl⟩ : ∃ g cap, v = .slice (some ⟨g, 0, none⟩) l.length cap := by
    rcases Joins.ownsRow_forms hrow with ⟨h, _⟩ | h
    · exact absurd h hv
    · exact h
  rw [own_eq] at hF
  obtain ⟨ds, rfl, rfl⟩ := flat_se hF
  have hgl := (own_row_base hrow g rfl).2
  have hn : (ds.map fun p => p.1.1).length = ds.length := List.length_map ..
  have hrow2 : w.ownsRow base 22 1 (.slice (some ⟨g, 0, none⟩) ds.length cap) ds.length (ds.map fun p => p.1.2) := by rw [← hn]; exact hrow
  obtain ⟨g', cap', he, _, _, _, _, _, hH⟩ := holds_of_ownsRow (enc := fun p : SE (fun b => T b ∧ b ≠ g) w => p.1.2) hrow2 (by simp)
  have hgg : g' = g := by injection he with h1; injection h1 with h1; injection h1 with h1; exact h1.symm
  subst hgg
  have hsz : ds.toArray.size = ds.length := by simp
  have hcmp : CmpLays1 Tryz.prog 143 #[] (fun p : SE (fun b => T b ∧ b ≠ g') w => p.1.2) (fun x y => cmpSets x.1.1 y.1.1) g' 0 ds.toArray.size w := fun m os dk hs x y => by
    have hk : Kp (fun b => T b ∧ b ≠ g') w (sortWorld (fun p : SE (fun b => T b ∧ b ≠ g') w => p.1.2) w g' 0 m dk os) :=
      (Kp.grown (grownBy_sortW _ w g' m dk os)).mono fun k _ h e => h.2 (by injection e)
    refine (sets_c (fun b => T b ∧ b ≠ g') x.1.1 y.1.1 x.1.2 y.1.2 _ (RLbs.good.move x.2 hk) (RLbs.good.move y.2 hk)).mono ?_
    rintro e w' ⟨rfl, h⟩
    exact ⟨rfl, extD_grow h⟩
  have h := Any.slices_SortFunc Tryz.lays142 (fun p : SE (fun b => T b ∧ b ≠ g') w => p.1.2) (fun p => p.2.oneCell) (fun x y => cmpSets x.1.1 y.1.1) (swo_of ordS _) 143 #[] g' 0 cap ds.toArray w eg143 hcmp hH hgl (by rw [hsz]; omega)
  rw [hsz] at h
  rw [hn]
  refine h.mono ?_
  rintro e w' ⟨rfl, d', n, os, hp, hs, rfl⟩
  refine ⟨rfl, ?_, (Bt.of_grown (grownBy_sortW _ w g' n d' os)).mono fun k _ hk => by injection hk with hk; rw [hk]; rfl⟩
  have hd : d'.size = ds.length := by rw [hp.1, hsz]
  have hperm : (d'.toList.map fun p => p.1.1).Perm (ds.map fun p => p.1.1) := by
    have h3 := hp.2.2
    rw [← hd, Array.extract_size] at h3
    have h4 : (ds.toArray.extract 0 d'.size).toList = ds := by rw [hd, ← hsz, Array.extract_size]
    rw [h4] at h3
    exact h3.map _
  have hsrt : Srt cmpSets (d'.toList.map fun p => p.1.1) := by
    rw [Srt, List.pairwise_map, List.pairwise_iff_getElem]
    intro i j hi hj hij
    have h5 := hs i j (Nat.zero_le _) hij (by rw [← hd]; simpa using hj)
    simp only [ltOf, decide_eq_false_iff_not, Int.not_lt] at h5
    rw [getElem!_pos d' i (by simpa using hi), getElem!_pos d' j (by simpa using hj)] at h5
    have h6 := ordS.sgn d'[i].1.1 d'[j].1.1
    have h7 := ordS.sgn d'[j].1.1 d'[i].1.1
    simp only [Array.getElem_toList]
    omega
  have heq : sortS (ds.map fun p => p.1.1) = d'.toList.map fun p => p.1.1 := (sortB_of ordS hperm hsrt).symm
  rw [heq]
  have hbt := grownBy_sortW (fun p : SE (fun b => T b ∧ b ≠ g') w => p.1.2) w g' n d' os
  have ho := ownsRow_sortW (q := n) (os := os) hrow2 (ys := d'.toList) (by simpa using hd)
  refine ⟨d'.toList.map fun p => p.1.2, ?_, ?_⟩
  · rw [List.length_map, show d'.toList.length = ds.length from by simpa using hd]
    simpa using ho
  · rw [own_eq]
    exact se_flat (fun x u hx => RLbs.good.move hx ((Kp.grown hbt).mono fun k _ h e => h.2 (by injection e))) _
end Go.Proofs.YtegenalcheooeaaGreat

/- slices.DeleteFunc at lists of labels, with least's closure: walked. -/
set_option linter.unusedSectionVars false
set_option linter.unusedSimpArgs false
set_option linter.unusedVariables false
namespace Go.Proofs.YtegenalcheooeaaGreat
open Go.RowKit
attribute [local go_sem] cell?_exto

theorem findI_none {α : Type} (p : α → Bool) : ∀ l : List α, findI p l = -1 → l.filter (fun x => !p x) = l
  | [], _ => rfl
  | x :: l, h => by
    have ih := findI_none p l
    rw [findI] at h
    split at h
    · cases h
    · rename_i hx
      rw [List.filter_cons, if_pos (by simpa using hx), ih (by split at h <;> omega)]
theorem findI_some {α : Type} (p : α → Bool) : ∀ l : List α, findI p l ≠ -1 → ∃ i, ∃ h : i < l.length, findI p l = (i : Int) ∧ p l[i] = true ∧ (l.take i).filter (fun x => !p x) = l.take i
  | [], h => absurd rfl h
  | x :: l, h => by
    rw [findI] at h ⊢
    by_cases hx : p x = true
    · rw [if_pos hx]
      exact ⟨0, by simp, rfl, hx, rfl⟩
    · rw [if_neg hx] at h ⊢
      have hn : findI p l ≠ -1 := fun e => by rw [e] at h; simp at h
      obtain ⟨i, hi, h1, h2, h3⟩ := findI_some p l hn
      refine ⟨i + 1, by simpa using hi, ?_, by simpa using h2, ?_⟩
      · rw [h1]; split <;> omega
      · rw [List.take_succ_cons, List.filter_cons, if_pos (by simpa using hx), h3]

section
variable {α : Type} (q : α → Bool)
def filtY (l : List α) (m : Nat) : List α := (l.take m).filter q ++ l.drop ((l.take m).filter q).length
theorem filt_len (l : List α) (m : Nat) : ((l.take m).filter q).length ≤ m := Nat.le_trans (List.length_filter_le _ _) (by rw [List.length_take]; omega)
theorem filtY_len (l : List α) (m : Nat) : (filtY q l m).length = l.length := by
  have h := List.length_filter_le q (l.take m)
  rw [List.length_take] at h
  rw [filtY, List.length_append, List.length_drop]
  omega
theorem filtY_at (l : List α) (m j : Nat) (hj : ((l.take m).filter q).length ≤ j) (hl : j < l.length) : (filtY q l m)[j]'(by rw [filtY_len]; exact hl) = l[j] := by
  unfold filtY
  rw [List.getElem_append_right hj]
  simp only [List.getElem_drop]
  congr 1
  omega
theorem filtY_same (l : List α) (m : Nat) (hm : m < l.length) (he : q l[m] = false) : filtY q l (m + 1) = filtY q l m ∧ (l.take (m + 1)).filter q = (l.take m).filter q := by
  have h : (l.take (m + 1)).filter q = (l.take m).filter q := by rw [List.take_succ_eq_append_getElem hm, List.filter_append]; simp [he]
  exact ⟨by rw [filtY, h]; rfl, h⟩
theorem filtY_put (l : List α) (m : Nat) (hm : m < l.length) (he : q l[m] = true) :
    filtY q l (m + 1) = (filtY q l m).set ((l.take m).filter q).length l[m] ∧ (l.take (m + 1)).filter q = (l.take m).filter q ++ [l[m]] := by
  have h : (l.take (m + 1)).filter q = (l.take m).filter q ++ [l[m]] := by rw [List.take_succ_eq_append_getElem hm, List.filter_append]; simp [he]
  have hi := filt_len q l m
  refine ⟨?_, h⟩
  rw [filtY, filtY, h, List.set_append_right _ _ (Nat.le_refl _), Nat.sub_self, List.drop_eq_getElem_cons (show ((l.take m).filter q).length < l.length by omega), List.set_cons_zero, List.length_append, List.length_singleton, List.append_assoc]
  rfl
end

set_option maxHeartbeats 1000000 in
set_option maxRecDepth 100000 in
theorem deleteLbs_c (base : Nat) (T : Nat → Prop) (p : List Lb → Bool) (l : List (List Lb)) (v : Value) (B : Nat) (w : World) (hown : ROwn RLbs 1 22 base T w l v) (hlen : l.length ≤ 1000000000)
    (hp : ∀ x ∈ l, ∀ u W, Bt (fun b => v.ownBlock = some b) w W → RLbs (fun _ => True) W x [u] → Calls Tryz.prog 217 #[u, .pointer (some ⟨B, 0, none⟩)] W fun e w' => e = .returned (.bool (p x)) ∧ Ext W w') :
    Calls Tryz.prog 215 #[v, .func (.func 217) #[] #[.pointer (some ⟨B, 0, none⟩)]] w fun e w' => ∃ A c, e = .returned (.slice A (l.filter fun x => !p x).length c) ∧ ROwn RLbs 1 22 base T w' (l.filter fun x => !p x) (.slice A (l.filter fun x => !p x).length c) ∧ Bt (fun b => v.ownBlock = some b) w w' := by
  have hidx := idxPLbs p (fun _ => True) w l v ((RSl.good RLbs.good).mono (hown.sl RLbs.good (by decide)) fun _ _ _ => trivial) 217 #[.pointer (some ⟨B, 0, none⟩)] eg217 (fun x hx cs W hW hr => by
    obtain ⟨A, c, rfl, _⟩ := id hr
    exact hp x hx _ W hW.bt hr)
  by_cases hf : findI p l = -1
  · have hc : Hid ((l.filter fun x => !p x) = l) := findI_none p l hf
    rw [hf] at hidx
    obtain ⟨A, c, rfl, _, _⟩ := (hown.sl RLbs.good (by decide)).val
    have HO := Lib.hid hown
    clear hown hf
    go_enter Tryz.func215, Tryz.ntmps215
    go_wp2_with fail
    refine hidx.mono ?_
    rintro e w1 ⟨rfl, h1⟩
    go_wp2_with fail
    go_ret
    rw [hc.out]
    exact ⟨A, c, rfl, HO.out.ext RLbs.good h1, h1.bt⟩
  obtain ⟨k, hk, hf2, hpk, htk⟩ := findI_some p l hf
  rw [hf2] at hidx
  obtain ⟨g, cap, rfl⟩ : ∃ g cap, v = .slice (some ⟨g, 0, none⟩) l.length cap := by
    obtain ⟨news, h1, _⟩ := hown
    exact Joins.ownsRow_form h1 (by omega)
  have hcap : l.length ≤ cap ∧ cap ≤ 9223372036854775807 := by
    obtain ⟨A, c, he, h3, h4⟩ := (hown.sl RLbs.good (by decide)).val
    injection he with _ _ he
    exact ⟨by omega, by omega⟩
  have hZ : (fun b => (Value.slice (some ⟨g, 0, none⟩) l.length cap).ownBlock = some b) = fun b => b = g := by funext b; simp [Value.ownBlock, eq_comm]
  rw [hZ] at hp ⊢
  have HO := Lib.hid hown
  have HP := Lib.hid hp
  have hkb : ((k : Int) == -1) = false := beq_eq_false_iff_ne.2 (by omega)
  have hq1 : (fun x => !p x) l[k] = false := by show (!p l[k]) = false; rw [hpk]; rfl
  have HQ1 := Lib.hid hq1
  have HTK := Lib.hid htk
  clear hown hZ hf hf2 hp hpk hq1 htk
  go_enter Tryz.func215, Tryz.ntmps215
  go_wp2_with fail
  refine hidx.mono ?_
  rintro e w1 ⟨rfl, h1⟩
  go_wp2_with fail
  go_loopw [5, 6] (fun vi vj wr => ∃ m i : Nat, k < m ∧ m ≤ l.length ∧ vi = .int .i64 (i : Nat) ∧ vj = .int .i64 (m : Nat) ∧ i < m ∧ Hid (((l.take m).filter fun x => !p x).length = i ∧ ROwn RLbs 1 22 base T wr (filtY (fun x => !p x) l m) (.slice (some ⟨g, 0, none⟩) l.length cap)) ∧ Bt (fun b => b = g) w wr) (fun _ vj _ => l.length - (intOf vj).toNat)
  case atStart =>
    have h2 := filtY_same (fun x => !p x) l k hk HQ1.out
    have h3 : filtY (fun x => !p x) l k = l := by rw [filtY, HTK.out, List.length_take, Nat.min_eq_left (by omega), List.take_append_drop]
    refine ⟨k + 1, k, by omega, by omega, rfl, by go_num, by omega, ⟨?_, ?_⟩, h1.bt⟩
    · rw [h2.2, HTK.out, List.length_take, Nat.min_eq_left (by omega)]
    · rw [h2.1, h3]; exact HO.out.ext RLbs.good h1
  case round =>
    obtain ⟨m, i, hm1, hm2, rfl, rfl, hi, hR, hB⟩ := hrel
    by_cases hlt : m < l.length
    · have hlt4 : i < l.length := by omega
      obtain ⟨hci, hO3⟩ := hR.out
      obtain ⟨u1, a1, r1, _⟩ := hO3.get1 m (by rw [filtY_len]; exact hlt)
      rw [filtY_at (fun x => !p x) l m m (by omega) hlt] at r1
      have hcall := HP.out _ (List.getElem_mem hlt) u1 wr hB (RLbs.good.mono r1 fun _ _ _ => trivial)
      obtain ⟨A3, c3, rfl, _, _⟩ := r1.val
      by_cases hpm : p l[m] = true
      · rw [hpm] at hcall
        have hsame := Lib.hid (filtY_same (fun x => !p x) l m hlt (by show (!p l[m]) = false; rw [hpm]; rfl))
        have HO3 := Lib.hid hO3
        have HCI := Lib.hid hci
        clear hO3 r1 hci hR hpm
        go_wp2_with fail
        refine hcall.mono ?_
        rintro e w5 ⟨rfl, hx5⟩
        go_wp2_with fail
        go_roundw
        case rel =>
          refine ⟨m + 1, i, by omega, by omega, rfl, by go_num, by omega, ⟨?_, ?_⟩, hB.ext hx5⟩
          · rw [hsame.out.2]; exact HCI.out
          · rw [hsame.out.1]; exact HO3.out.ext RLbs.good hx5
        case measure => simp [intOf]; omega
      · rw [eq_false_of_ne_true hpm] at hcall
        have hput := Lib.hid (filtY_put (fun x => !p x) l m hlt (by show (!p l[m]) = true; rw [eq_false_of_ne_true hpm]; rfl))
        obtain ⟨u6, b6, _, f6⟩ := hO3.get1 i (by rw [filtY_len]; omega)
        have HO3 := Lib.hid hO3
        have HCI := Lib.hid hci
        have HR1 := Lib.hid r1
        clear hO3 r1 hci hR hpm
        go_wp2_with fail
        refine hcall.mono ?_
        rintro e w5 ⟨rfl, hx5⟩
        have b5 := Ext.keep hx5 b6
        have f5 := ext_fz hx5 (World.block_lt_of_cell? _ _ b6) f6
        clear b6 f6
        go_wp2_with fail
        go_roundw
        case rel =>
          have hput2 := ROwn.put1 RLbs.good (HO3.out.ext RLbs.good hx5) (by rw [filtY_len]) i (.slice A3 l[m].length c3) l[m] (by rw [filtY_len]; omega) (RLbs.good.bel HR1.out hx5)
          refine ⟨m + 1, i + 1, by omega, by omega, by go_num, by go_num, by omega, ⟨?_, ?_⟩, (hB.ext hx5).set (.inr rfl) _⟩
          · rw [hput.out.2, List.length_append, HCI.out]; rfl
          · rw [hput.out.1, HCI.out]; exact hput2
        case measure => simp [intOf]; omega
    · obtain ⟨hci, hO3⟩ := hR.out
      have hkd : m = l.length := by omega
      subst hkd
      rw [List.take_length] at hci
      have hcl := Lib.run_clear_slice (P := Tryz.prog) wr 30 22 0 (.slice none 0 0) Tryz.underlying30 (fun _ => by kernel_rfl) rfl rfl g i (l.length - i) (cap - i) (by omega) (fun j hj => by
        obtain ⟨u, h1, _⟩ := hO3.get1 (i + j) (by rw [filtY_len]; omega)
        rw [h1]; rfl) (fun j hj => by
        obtain ⟨u, _, _, h1⟩ := hO3.get1 (i + j) (by rw [filtY_len]; omega)
        exact h1)
      have hcut := Lib.hid (hO3.cut RLbs.good (by rw [filtY_len]) i (by omega) (List.replicate (l.length - i) (.slice none 0 0)) i (by omega))
      have hres : Hid ((l.filter fun x => !p x) = (filtY (fun x => !p x) l l.length).take i) := by
        show _ = _
        rw [filtY, List.take_length, List.take_append_of_le_length (by omega), ← hci, List.take_length]
      have HCI := Lib.hid hci
      clear hO3 hci hR
      go_wp2_with fail
      go_ret
      have hln : (l.filter fun x => !p x).length = i := HCI.out
      refine ⟨some ⟨g, 0, none⟩, cap, by rw [hln]; rfl, ?_, hB.trans hcut.out.2⟩
      rw [hln, hres.out]
      exact hcut.out.1
end Go.Proofs.YtegenalcheooeaaGreat

/- slices.Index, Contains, Equal at whole numbers and truth values. -/
set_option linter.unusedSectionVars false
set_option linter.unusedSimpArgs false
set_option linter.unusedVariables false
namespace Go.Proofs.YtegenalcheooeaaGreat
open Go.RowKit
attribute [local go_sem] cell?_exto

/-- The index of an element (-1: it is not there). -/
def ixOf {α : Type} [DecidableEq α] (x : α) : List α → Int
  | [] => -1
  | y :: ys => if x = y then 0 else ixOf x ys + if ixOf x ys < 0 then 0 else 1
theorem ixOf_ge {α : Type} [DecidableEq α] (x : α) : ∀ ys : List α, -1 ≤ ixOf x ys
  | [] => by simp [ixOf]
  | y :: ys => by
    have := ixOf_ge x ys
    rw [ixOf]
    split
    · simp
    · split <;> omega
theorem ixOf_lt {α : Type} [DecidableEq α] (x : α) : ∀ ys : List α, ixOf x ys < ys.length
  | [] => by simp [ixOf]
  | y :: ys => by
    have := ixOf_lt x ys
    rw [ixOf]
    split
    · simp only [List.length_cons]; omega
    · simp only [List.length_cons]; split <;> omega
theorem leq_eq {α : Type} [DecidableEq α] : ∀ xs ys : List α, leq (fun x y => decide (x = y)) xs ys = decide (xs = ys)
  | [], [] => by simp [leq]
  | [], _ :: _ => by simp [leq]
  | _ :: _, [] => by simp [leq]
  | x :: xs, y :: ys => by rw [leq, leq_eq xs ys]; simp
theorem ixOf_mem {α : Type} [DecidableEq α] (x : α) : ∀ ys : List α, 0 ≤ ixOf x ys ↔ x ∈ ys
  | [] => by simp [ixOf]
  | y :: ys => by
    have h := ixOf_mem x ys
    have h1 := ixOf_ge x ys
    rw [ixOf, List.mem_cons]
    split
    · rename_i e; simp [e]
    · rename_i e
      rw [← h]
      split
      · rename_i e2; constructor
        · intro h2; omega
        · rintro (h2 | h2)
          · exact absurd h2 e
          · omega
      · constructor
        · intro _; right; omega
        · intro _; omega

set_option maxHeartbeats 1000000 in
set_option maxRecDepth 100000 in
/-- slices.Index at Int. -/
theorem indexInt (S : Nat → Prop) (xs : List Int) (x : Int) (v : Value) (w : World) (hx : RSl RInt 1 S w xs [v]) : Calls Tryz.prog 104 #[v, .int .i64 x] w fun e w' => e = .returned (.int .i64 (ixOf x xs)) ∧ w' = w := by
  obtain ⟨A, c, rfl, hc, hc0⟩ := hx.val
  have HX := Lib.hid hx
  clear hx
  go_enter Tryz.func104, Tryz.ntmps104
  go_wp2
  go_loopw [5, 8] (fun _ i wr => ∃ k : Nat, k ≤ xs.length ∧ i = .int .i64 k ∧ wr = w ∧ Hid (ixOf x xs = ixOf x (xs.drop k) + (if ixOf x (xs.drop k) < 0 then 0 else (k : Int)))) (fun _ i _ => xs.length - (intOf i).toNat)
  case atStart => exact ⟨0, Nat.zero_le _, rfl, rfl, by simp [Hid]⟩
  case round =>
    obtain ⟨k, hk, rfl, rfl, hf⟩ := hrel
    by_cases hlt : k < xs.length
    · obtain ⟨b, off, cs, rfl, hb, hS, hl, hr, hcell⟩ := HX.out.get k hlt
      obtain rfl : cs = [.int .i64 xs[k]] := hr.1
      have g0 := (by simpa using hcell.get 0 _ : wr.cell? ⟨b, off + k, none⟩ = some (.int .i64 xs[k]))
      have hf' := hf.out
      rw [List.drop_eq_getElem_cons hlt, ixOf] at hf'
      clear hcell hl hS hr hf
      by_cases hq : x = xs[k]
      · rw [if_pos hq] at hf'
        have Hf := Lib.hid hf'
        have hb1 : (x == xs[k]) = true := beq_iff_eq.2 hq
        clear hf' hq
        go_wp2_with fail
        go_ret
        rw [Hf.out]
        exact ⟨by simp, rfl⟩
      · rw [if_neg hq] at hf'
        have Hf := Lib.hid hf'
        have hb1 : (x == xs[k]) = false := beq_eq_false_iff_ne.2 hq
        clear hf' hq
        go_wp2_with fail
        go_roundw
        case rel =>
          refine ⟨k + 1, by omega, by go_num, (by first | rfl | trivial), ?_⟩
          show ixOf x xs = _
          rw [Hf.out]
          have := ixOf_ge x (xs.drop (k + 1))
          split <;> split <;> omega
        case measure => simp [intOf]; omega
    · have hd : xs.drop k = [] := List.drop_of_length_le (by omega)
      have hf' := hf.out
      rw [hd, ixOf] at hf'
      have Hf := Lib.hid hf'
      clear hf hf'
      go_wp2
      go_ret
      rw [Hf.out]
      exact ⟨by simp, rfl⟩

set_option maxHeartbeats 1000000 in
set_option maxRecDepth 100000 in
/-- slices.Contains at Int. -/
theorem containsInt (S : Nat → Prop) (xs : List Int) (x : Int) (v : Value) (w : World) (hx : RSl RInt 1 S w xs [v]) : Calls Tryz.prog 32 #[v, .int .i64 x] w fun e w' => e = .returned (.bool (decide (x ∈ xs))) ∧ w' = w := by
  obtain ⟨A, c, rfl, hc, hc0⟩ := hx.val
  have HX := Lib.hid hx
  have hm := Lib.hid (ixOf_mem x xs)
  clear hx
  go_enter Tryz.func32, Tryz.ntmps32
  go_wp2_with fail
  refine (indexInt S xs x _ w HX.out).mono ?_
  rintro e w' ⟨rfl, rfl⟩
  generalize hi : ixOf x xs = i at hm ⊢
  clear hi
  go_wp2_with fail
  all_goals go_ret
  exact ⟨by rw [show decide (0 ≤ i) = decide (x ∈ xs) from decide_eq_decide.2 hm.out]; rfl, rfl⟩

set_option maxHeartbeats 1000000 in
set_option maxRecDepth 100000 in
/-- slices.Equal at Int. -/
theorem equalInt (S : Nat → Prop) (xs ys : List Int) (v u : Value) (w : World) (hx : RSl RInt 1 S w xs [v]) (hy : RSl RInt 1 S w ys [u]) : Calls Tryz.prog 47 #[v, u] w fun e w' => e = .returned (.bool (decide (xs = ys))) ∧ Ext w w' := by
  obtain ⟨A, c, rfl, hc, hc0⟩ := hx.val
  obtain ⟨A', c', rfl, hc', hc0'⟩ := hy.val
  have HX := Lib.hid hx
  have HY := Lib.hid hy
  clear hx hy
  rw [← leq_eq]
  by_cases hlen : xs.length = ys.length
  case neg =>
    have HL := Lib.hid (leq_len (fun x y : Int => decide (x = y)) xs ys hlen)
    have hne : ((xs.length : Int) != (ys.length : Int)) = true := bne_iff_ne.2 (by omega)
    clear hlen
    go_enter Tryz.func47, Tryz.ntmps47
    go_wp2_with fail
    go_ret
    exact ⟨by rw [HL.out]; rfl, Ext.refl _⟩
  have hne : ((xs.length : Int) != (ys.length : Int)) = false := bne_eq_false_iff_eq.2 (by omega)
  have hle1 : xs.length ≤ ys.length := by omega
  have hle2 : ys.length ≤ xs.length := by omega
  have HLEN := Lib.hid hlen
  clear hlen
  go_enter Tryz.func47, Tryz.ntmps47
  go_wp2_with fail
  go_loopw [5, 13] (fun _ i wr => ∃ k : Nat, k ≤ xs.length ∧ k ≤ ys.length ∧ i = .int .i64 k ∧ Ext w wr ∧ Hid (leq (fun x y : Int => decide (x = y)) xs ys = leq (fun x y : Int => decide (x = y)) (xs.drop k) (ys.drop k))) (fun _ i _ => xs.length - (intOf i).toNat)
  case atStart => exact ⟨0, Nat.zero_le _, Nat.zero_le _, rfl, Ext.refl _, rfl⟩
  case round =>
    obtain ⟨k, hk, hk2, rfl, hE, hf⟩ := hrel
    by_cases hlt : k < xs.length
    · obtain ⟨b, off, cs, rfl, hb, hS, hl, hr, hcell⟩ := ((RSl.good RInt.good).bel HX.out hE).get k hlt
      have hlt2 : k < ys.length := by omega
      obtain ⟨b2, off2, cs2, rfl, hb2, hS2, hl2, hr2, hcell2⟩ := ((RSl.good RInt.good).bel HY.out hE).get k hlt2
      obtain rfl : cs = [.int .i64 xs[k]] := hr.1
      obtain rfl : cs2 = [.int .i64 ys[k]] := hr2.1
      have g0 := (by simpa using hcell.get 0 _ : wr.cell? ⟨b, off + k, none⟩ = some (.int .i64 xs[k]))
      have q0 := (by simpa using hcell2.get 0 _ : wr.cell? ⟨b2, off2 + k, none⟩ = some (.int .i64 ys[k]))
      have hf' := hf.out
      rw [List.drop_eq_getElem_cons hlt, List.drop_eq_getElem_cons hlt2, leq] at hf'
      clear hcell hcell2 hl hl2 hS hS2 hr hr2 hf
      by_cases hq : xs[k] = ys[k]
      · rw [decide_eq_true hq] at hf'
        have Hf := Lib.hid hf'
        have hb1 : (xs[k] != ys[k]) = false := by simp [hq]
        clear hf' hq
        go_wp2_with fail
        (refine wp_region_ext (by kernel_rfl) (by kernel_rfl) ?_; (repeat (first | go_big_quiet_step ((fail)) | quiet_step ((fail)))); refine wpQuiet_nil ?_)
        intro w1 hx1
        go_wp2_with fail
        go_roundw
        case rel => exact ⟨k + 1, by omega, by omega, by go_num, (by repeat (first | exact Ext.refl _ | apply Ext.alloc | apply Below.drew | apply Ext.drewN | refine Ext.trans' ?_ (by assumption) | refine Ext.trans' ?_ (ExtD.ext (by assumption)))), by show leq _ xs ys = _; rw [Hf.out]; exact Bool.true_and _⟩
        case measure => simp [intOf]; omega
      · rw [decide_eq_false hq] at hf'
        have Hf := Lib.hid hf'
        have hb1 : (xs[k] != ys[k]) = true := by simpa using hq
        clear hf' hq
        go_wp2_with fail
        (refine wp_region_ext (by kernel_rfl) (by kernel_rfl) ?_; (repeat (first | go_big_quiet_step ((fail)) | quiet_step ((fail)))); refine wpQuiet_nil ?_)
        intro w1 hx1
        go_wp2_with fail
        go_ret
        exact ⟨by rw [Hf.out]; rfl, (by repeat (first | exact Ext.refl _ | apply Ext.alloc | apply Below.drew | apply Ext.drewN | refine Ext.trans' ?_ (by assumption) | refine Ext.trans' ?_ (ExtD.ext (by assumption))))⟩
    · have hf' := hf.out
      rw [List.drop_of_length_le (l := xs) (by omega), List.drop_of_length_le (by omega), leq] at hf'
      have Hf := Lib.hid hf'
      clear hf hf'
      go_wp2_with fail
      go_ret
      exact ⟨by rw [Hf.out]; rfl, hE⟩

set_option maxHeartbeats 1000000 in
set_option maxRecDepth 100000 in
/-- slices.Index at Bool. -/
theorem indexBool (S : Nat → Prop) (xs : List Bool) (x : Bool) (v : Value) (w : World) (hx : RSl RBool 1 S w xs [v]) : Calls Tryz.prog 134 #[v, .bool x] w fun e w' => e = .returned (.int .i64 (ixOf x xs)) ∧ w' = w := by
  obtain ⟨A, c, rfl, hc, hc0⟩ := hx.val
  have HX := Lib.hid hx
  clear hx
  go_enter Tryz.func134, Tryz.ntmps134
  go_wp2
  go_loopw [5, 8] (fun _ i wr => ∃ k : Nat, k ≤ xs.length ∧ i = .int .i64 k ∧ wr = w ∧ Hid (ixOf x xs = ixOf x (xs.drop k) + (if ixOf x (xs.drop k) < 0 then 0 else (k : Int)))) (fun _ i _ => xs.length - (intOf i).toNat)
  case atStart => exact ⟨0, Nat.zero_le _, rfl, rfl, by simp [Hid]⟩
  case round =>
    obtain ⟨k, hk, rfl, rfl, hf⟩ := hrel
    by_cases hlt : k < xs.length
    · obtain ⟨b, off, cs, rfl, hb, hS, hl, hr, hcell⟩ := HX.out.get k hlt
      obtain rfl : cs = [.bool xs[k]] := hr
      have g0 := (by simpa using hcell.get 0 _ : wr.cell? ⟨b, off + k, none⟩ = some (.bool xs[k]))
      have hf' := hf.out
      rw [List.drop_eq_getElem_cons hlt, ixOf] at hf'
      clear hcell hl hS hf
      by_cases hq : x = xs[k]
      · rw [if_pos hq] at hf'
        have Hf := Lib.hid hf'
        have hb1 : (x == xs[k]) = true := beq_iff_eq.2 hq
        clear hf' hq
        go_wp2_with fail
        go_ret
        rw [Hf.out]
        exact ⟨by simp, rfl⟩
      · rw [if_neg hq] at hf'
        have Hf := Lib.hid hf'
        have hb1 : (x == xs[k]) = false := beq_eq_false_iff_ne.2 hq
        clear hf' hq
        go_wp2_with fail
        go_roundw
        case rel =>
          refine ⟨k + 1, by omega, by go_num, (by first | rfl | trivial), ?_⟩
          show ixOf x xs = _
          rw [Hf.out]
          have := ixOf_ge x (xs.drop (k + 1))
          split <;> split <;> omega
        case measure => simp [intOf]; omega
    · have hd : xs.drop k = [] := List.drop_of_length_le (by omega)
      have hf' := hf.out
      rw [hd, ixOf] at hf'
      have Hf := Lib.hid hf'
      clear hf hf'
      go_wp2
      go_ret
      rw [Hf.out]
      exact ⟨by simp, rfl⟩

set_option maxHeartbeats 1000000 in
set_option maxRecDepth 100000 in
/-- slices.Contains at Bool. -/
theorem containsBool (S : Nat → Prop) (xs : List Bool) (x : Bool) (v : Value) (w : World) (hx : RSl RBool 1 S w xs [v]) : Calls Tryz.prog 72 #[v, .bool x] w fun e w' => e = .returned (.bool (decide (x ∈ xs))) ∧ w' = w := by
  obtain ⟨A, c, rfl, hc, hc0⟩ := hx.val
  have HX := Lib.hid hx
  have hm := Lib.hid (ixOf_mem x xs)
  clear hx
  go_enter Tryz.func72, Tryz.ntmps72
  go_wp2_with fail
  refine (indexBool S xs x _ w HX.out).mono ?_
  rintro e w' ⟨rfl, rfl⟩
  generalize hi : ixOf x xs = i at hm ⊢
  clear hi
  go_wp2_with fail
  all_goals go_ret
  exact ⟨by rw [show decide (0 ≤ i) = decide (x ∈ xs) from decide_eq_decide.2 hm.out]; rfl, rfl⟩

set_option maxHeartbeats 1000000 in
set_option maxRecDepth 100000 in
/-- slices.Equal at Bool. -/
theorem equalBool (S : Nat → Prop) (xs ys : List Bool) (v u : Value) (w : World) (hx : RSl RBool 1 S w xs [v]) (hy : RSl RBool 1 S w ys [u]) : Calls Tryz.prog 54 #[v, u] w fun e w' => e = .returned (.bool (decide (xs = ys))) ∧ Ext w w' := by
  obtain ⟨A, c, rfl, hc, hc0⟩ := hx.val
  obtain ⟨A', c', rfl, hc', hc0'⟩ := hy.val
  have HX := Lib.hid hx
  have HY := Lib.hid hy
  clear hx hy
  rw [← leq_eq]
  by_cases hlen : xs.length = ys.length
  case neg =>
    have HL := Lib.hid (leq_len (fun x y : Bool => decide (x = y)) xs ys hlen)
    have hne : ((xs.length : Int) != (ys.length : Int)) = true := bne_iff_ne.2 (by omega)
    clear hlen
    go_enter Tryz.func54, Tryz.ntmps54
    go_wp2_with fail
    go_ret
    exact ⟨by rw [HL.out]; rfl, Ext.refl _⟩
  have hne : ((xs.length : Int) != (ys.length : Int)) = false := bne_eq_false_iff_eq.2 (by omega)
  have hle1 : xs.length ≤ ys.length := by omega
  have hle2 : ys.length ≤ xs.length := by omega
  have HLEN := Lib.hid hlen
  clear hlen
  go_enter Tryz.func54, Tryz.ntmps54
  go_wp2_with fail
  go_loopw [5, 13] (fun _ i wr => ∃ k : Nat, k ≤ xs.length ∧ k ≤ ys.length ∧ i = .int .i64 k ∧ Ext w wr ∧ Hid (leq (fun x y : Bool => decide (x = y)) xs ys = leq (fun x y : Bool => decide (x = y)) (xs.drop k) (ys.drop k))) (fun _ i _ => xs.length - (intOf i).toNat)
  case atStart => exact ⟨0, Nat.zero_le _, Nat.zero_le _, rfl, Ext.refl _, rfl⟩
  case round =>
    obtain ⟨k, hk, hk2, rfl, hE, hf⟩ := hrel
    by_cases hlt : k < xs.length
    · obtain ⟨b, off, cs, rfl, hb, hS, hl, hr, hcell⟩ := ((RSl.good RBool.good).bel HX.out hE).get k hlt
      have hlt2 : k < ys.length := by omega
      obtain ⟨b2, off2, cs2, rfl, hb2, hS2, hl2, hr2, hcell2⟩ := ((RSl.good RBool.good).bel HY.out hE).get k hlt2
      obtain rfl : cs = [.bool xs[k]] := hr
      obtain rfl : cs2 = [.bool ys[k]] := hr2
      have g0 := (by simpa using hcell.get 0 _ : wr.cell? ⟨b, off + k, none⟩ = some (.bool xs[k]))
      have q0 := (by simpa using hcell2.get 0 _ : wr.cell? ⟨b2, off2 + k, none⟩ = some (.bool ys[k]))
      have hf' := hf.out
      rw [List.drop_eq_getElem_cons hlt, List.drop_eq_getElem_cons hlt2, leq] at hf'
      clear hcell hcell2 hl hl2 hS hS2 hf
      by_cases hq : xs[k] = ys[k]
      · rw [decide_eq_true hq] at hf'
        have Hf := Lib.hid hf'
        have hb1 : (!(xs[k] == ys[k])) = false := by simp [hq]
        clear hf' hq
        go_wp2_with fail
        (refine wp_region_ext (by kernel_rfl) (by kernel_rfl) ?_; (repeat (first | go_big_quiet_step ((fail)) | quiet_step ((fail)))); refine wpQuiet_nil ?_)
        intro w1 hx1
        go_wp2_with fail
        go_roundw
        case rel => exact ⟨k + 1, by omega, by omega, by go_num, (by repeat (first | exact Ext.refl _ | apply Ext.alloc | apply Below.drew | apply Ext.drewN | refine Ext.trans' ?_ (by assumption) | refine Ext.trans' ?_ (ExtD.ext (by assumption)))), by show leq _ xs ys = _; rw [Hf.out]; exact Bool.true_and _⟩
        case measure => simp [intOf]; omega
      · rw [decide_eq_false hq] at hf'
        have Hf := Lib.hid hf'
        have hb1 : (!(xs[k] == ys[k])) = true := by simpa using hq
        clear hf' hq
        go_wp2_with fail
        (refine wp_region_ext (by kernel_rfl) (by kernel_rfl) ?_; (repeat (first | go_big_quiet_step ((fail)) | quiet_step ((fail)))); refine wpQuiet_nil ?_)
        intro w1 hx1
        go_wp2_with fail
        go_ret
        exact ⟨by rw [Hf.out]; rfl, (by repeat (first | exact Ext.refl _ | apply Ext.alloc | apply Below.drew | apply Ext.drewN | refine Ext.trans' ?_ (by assumption) | refine Ext.trans' ?_ (ExtD.ext (by assumption))))⟩
    · have hf' := hf.out
      rw [List.drop_of_length_le (l := xs) (by omega), List.drop_of_length_le (by omega), leq] at hf'
      have Hf := Lib.hid hf'
      clear hf hf'
      go_wp2_with fail
      go_ret
      exact ⟨by rw [Hf.out]; rfl, hE⟩

end Go.Proofs.YtegenalcheooeaaGreat

