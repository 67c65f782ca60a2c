/- Of the proof of a law of the suites: Scal, Steps. -/
import Derived.Test.YtegenalcheooeaaGreatB03
import Derived.Test.YtegenalcheooeaaGreatB09
import Derived.Test.YtegenalcheooeaaGreatB14
import Derived.BigQuiet
import Derived.RangeFuncNested
import Derived.RangeFuncBound
import Derived.RangeFuncCalls
import Derived.RangeFuncLeaves
import Derived.Shelf.Abstract
import Derived.Shelf.RegionOpen
import Derived.WalkKit
import Derived.OwnWalkIn
import Derived.TacticsInMore
import Derived.LoopNIn
import Derived.LoopIn
/- slices.Index, Contains, Equal at whole numbers and truth values. -/
set_option linter.unusedSectionVars false
set_option linter.unusedSimpArgs false
set_option linter.unusedVariables false
namespace Go.Proofs.YtegenalcheooeaaGreat
open Go.RowKit
attribute [local go_sem] cell?_exto

/-- The index of an element (-1: it is not there). -/
def ixOf {α : Type} [DecidableEq α] (x : α) : List α → Int
  | [] => -1
  | y :: ys => if x = y then 0 else ixOf x ys + if ixOf x ys < 0 then 0 else 1
theorem ixOf_ge {α : Type} [DecidableEq α] (x : α) : ∀ ys : List α, -1 ≤ ixOf x ys
  | [] => by simp [ixOf]
  | y :: ys => by
    have := ixOf_ge x ys
    rw [ixOf]
    split
    · simp
    · split <;> omega
theorem ixOf_lt {α : Type} [DecidableEq α] (x : α) : ∀ ys : List α, ixOf x ys < ys.length
  | [] => by simp [ixOf]
  | y :: ys => by
    have := ixOf_lt x ys
    rw [ixOf]
    split
    · simp only [List.length_cons]; omega
    · simp only [List.length_cons]; split <;> omega
theorem leq_eq {α : Type} [DecidableEq α] : ∀ xs ys : List α, leq (fun x y => decide (x = y)) xs ys = decide (xs = ys)
  | [], [] => by simp [leq]
  | [], _ :: _ => by simp [leq]
  | _ :: _, [] => by simp [leq]
  | x :: xs, y :: ys => by rw [leq, leq_eq xs ys]; simp
theorem ixOf_mem {α : Type} [DecidableEq α] (x : α) : ∀ ys : List α, 0 ≤ ixOf x ys ↔ x ∈ ys
  | [] => by simp [ixOf]
  | y :: ys => by
    have h := ixOf_mem x ys
    have h1 := ixOf_ge x ys
    rw [ixOf, List.mem_cons]
    split
    · rename_i e; simp [e]
    · rename_i e
      rw [← h]
      split
      · rename_i e2; constructor
        · intro h2; omega
        · rintro (h2 | h2)
          · exact absurd h2 e
          · omega
      · constructor
        · intro _; right; omega
        · intro _; omega

set_option maxHeartbeats 1000000 in
set_option maxRecDepth 100000 in
/-- slices.Index at Int. -/
theorem indexInt (S : Nat → Prop) (xs : List Int) (x : Int) (v : Value) (w : World) (hx : RSl RInt 1 S w xs [v]) : Calls Tryz.prog 104 #[v, .int .i64 x] w fun e w' => e = .returned (.int .i64 (ixOf x xs)) ∧ w' = w := by
  obtain ⟨A, c, rfl, hc, hc0⟩ := hx.val
  have HX := Lib.hid hx
  clear hx
  go_enter Tryz.func104, Tryz.ntmps104
  go_wp2
  go_loopw [5, 8] (fun _ i wr => ∃ k : Nat, k ≤ xs.length ∧ i = .int .i64 k ∧ wr = w ∧ Hid (ixOf x xs = ixOf x (xs.drop k) + (if ixOf x (xs.drop k) < 0 then 0 else (k : Int)))) (fun _ i _ => xs.length - (intOf i).toNat)
  case atStart => exact ⟨0, Nat.zero_le _, rfl, rfl, by simp [Hid]⟩
  case round =>
    obtain ⟨k, hk, rfl, rfl, hf⟩ := hrel
    by_cases hlt : k < xs.length
    · obtain ⟨b, off, cs, rfl, hb, hS, hl, hr, hcell⟩ := HX.out.get k hlt
      obtain rfl : cs = [.int .i64 xs[k]] := hr.1
      have g0 := (by simpa using hcell.get 0 _ : wr.cell? ⟨b, off + k, none⟩ = some (.int .i64 xs[k]))
      have hf' := hf.out
      rw [List.drop_eq_getElem_cons hlt, ixOf] at hf'
      clear hcell hl hS hr hf
      by_cases hq : x = xs[k]
      · rw [if_pos hq] at hf'
        have Hf := Lib.hid hf'
        have hb1 : (x == xs[k]) = true := beq_iff_eq.2 hq
        clear hf' hq
        go_wp2_with fail
        go_ret
        rw [Hf.out]
        exact ⟨by simp, rfl⟩
      · rw [if_neg hq] at hf'
        have Hf := Lib.hid hf'
        have hb1 : (x == xs[k]) = false := beq_eq_false_iff_ne.2 hq
        clear hf' hq
        go_wp2_with fail
        go_roundw
        case rel =>
          refine ⟨k + 1, by omega, by go_num, (by first | rfl | trivial), ?_⟩
          show ixOf x xs = _
          rw [Hf.out]
          have := ixOf_ge x (xs.drop (k + 1))
          split <;> split <;> omega
        case measure => simp [intOf]; omega
    · have hd : xs.drop k = [] := List.drop_of_length_le (by omega)
      have hf' := hf.out
      rw [hd, ixOf] at hf'
      have Hf := Lib.hid hf'
      clear hf hf'
      go_wp2
      go_ret
      rw [Hf.out]
      exact ⟨by simp, rfl⟩

set_option maxHeartbeats 1000000 in
set_option maxRecDepth 100000 in
/-- slices.Contains at Int. -/
theorem containsInt (S : Nat → Prop) (xs : List Int) (x : Int) (v : Value) (w : World) (hx : RSl RInt 1 S w xs [v]) : Calls Tryz.prog 32 #[v, .int .i64 x] w fun e w' => e = .returned (.bool (decide (x ∈ xs))) ∧ w' = w := by
  obtain ⟨A, c, rfl, hc, hc0⟩ := hx.val
  have HX := Lib.hid hx
  have hm := Lib.hid (ixOf_mem x xs)
  clear hx
  go_enter Tryz.func32, Tryz.ntmps32
  go_wp2_with fail
  refine (indexInt S xs x _ w HX.out).mono ?_
  rintro e w' ⟨rfl, rfl⟩
  generalize hi : ixOf x xs = i at hm ⊢
  clear hi
  go_wp2_with fail
  all_goals go_ret
  exact ⟨by rw [show decide (0 ≤ i) = decide (x ∈ xs) from decide_eq_decide.2 hm.out]; rfl, rfl⟩

set_option maxHeartbeats 1000000 in
set_option maxRecDepth 100000 in
/-- slices.Equal at Int. -/
theorem equalInt (S : Nat → Prop) (xs ys : List Int) (v u : Value) (w : World) (hx : RSl RInt 1 S w xs [v]) (hy : RSl RInt 1 S w ys [u]) : Calls Tryz.prog 47 #[v, u] w fun e w' => e = .returned (.bool (decide (xs = ys))) ∧ Ext w w' := by
  obtain ⟨A, c, rfl, hc, hc0⟩ := hx.val
  obtain ⟨A', c', rfl, hc', hc0'⟩ := hy.val
  have HX := Lib.hid hx
  have HY := Lib.hid hy
  clear hx hy
  rw [← leq_eq]
  by_cases hlen : xs.length = ys.length
  case neg =>
    have HL := Lib.hid (leq_len (fun x y : Int => decide (x = y)) xs ys hlen)
    have hne : ((xs.length : Int) != (ys.length : Int)) = true := bne_iff_ne.2 (by omega)
    clear hlen
    go_enter Tryz.func47, Tryz.ntmps47
    go_wp2_with fail
    go_ret
    exact ⟨by rw [HL.out]; rfl, Ext.refl _⟩
  have hne : ((xs.length : Int) != (ys.length : Int)) = false := bne_eq_false_iff_eq.2 (by omega)
  have hle1 : xs.length ≤ ys.length := by omega
  have hle2 : ys.length ≤ xs.length := by omega
  have HLEN := Lib.hid hlen
  clear hlen
  go_enter Tryz.func47, Tryz.ntmps47
  go_wp2_with fail
  go_loopw [5, 13] (fun _ i wr => ∃ k : Nat, k ≤ xs.length ∧ k ≤ ys.length ∧ i = .int .i64 k ∧ Ext w wr ∧ Hid (leq (fun x y : Int => decide (x = y)) xs ys = leq (fun x y : Int => decide (x = y)) (xs.drop k) (ys.drop k))) (fun _ i _ => xs.length - (intOf i).toNat)
  case atStart => exact ⟨0, Nat.zero_le _, Nat.zero_le _, rfl, Ext.refl _, rfl⟩
  case round =>
    obtain ⟨k, hk, hk2, rfl, hE, hf⟩ := hrel
    by_cases hlt : k < xs.length
    · obtain ⟨b, off, cs, rfl, hb, hS, hl, hr, hcell⟩ := ((RSl.good RInt.good).bel HX.out hE).get k hlt
      have hlt2 : k < ys.length := by omega
      obtain ⟨b2, off2, cs2, rfl, hb2, hS2, hl2, hr2, hcell2⟩ := ((RSl.good RInt.good).bel HY.out hE).get k hlt2
      obtain rfl : cs = [.int .i64 xs[k]] := hr.1
      obtain rfl : cs2 = [.int .i64 ys[k]] := hr2.1
      have g0 := (by simpa using hcell.get 0 _ : wr.cell? ⟨b, off + k, none⟩ = some (.int .i64 xs[k]))
      have q0 := (by simpa using hcell2.get 0 _ : wr.cell? ⟨b2, off2 + k, none⟩ = some (.int .i64 ys[k]))
      have hf' := hf.out
      rw [List.drop_eq_getElem_cons hlt, List.drop_eq_getElem_cons hlt2, leq] at hf'
      clear hcell hcell2 hl hl2 hS hS2 hr hr2 hf
      by_cases hq : xs[k] = ys[k]
      · rw [decide_eq_true hq] at hf'
        have Hf := Lib.hid hf'
        have hb1 : (xs[k] != ys[k]) = false := by simp [hq]
        clear hf' hq
        go_wp2_with fail
        (refine wp_region_ext (by kernel_rfl) (by kernel_rfl) ?_; (repeat (first | go_big_quiet_step ((fail)) | quiet_step ((fail)))); refine wpQuiet_nil ?_)
        intro w1 hx1
        go_wp2_with fail
        go_roundw
        case rel => exact ⟨k + 1, by omega, by omega, by go_num, (by repeat (first | exact Ext.refl _ | apply Ext.alloc | apply Below.drew | apply Ext.drewN | refine Ext.trans' ?_ (by assumption) | refine Ext.trans' ?_ (ExtD.ext (by assumption)))), by show leq _ xs ys = _; rw [Hf.out]; exact Bool.true_and _⟩
        case measure => simp [intOf]; omega
      · rw [decide_eq_false hq] at hf'
        have Hf := Lib.hid hf'
        have hb1 : (xs[k] != ys[k]) = true := by simpa using hq
        clear hf' hq
        go_wp2_with fail
        (refine wp_region_ext (by kernel_rfl) (by kernel_rfl) ?_; (repeat (first | go_big_quiet_step ((fail)) | quiet_step ((fail)))); refine wpQuiet_nil ?_)
        intro w1 hx1
        go_wp2_with fail
        go_ret
        exact ⟨by rw [Hf.out]; rfl, (by repeat (first | exact Ext.refl _ | apply Ext.alloc | apply Below.drew | apply Ext.drewN | refine Ext.trans' ?_ (by assumption) | refine Ext.trans' ?_ (ExtD.ext (by assumption))))⟩
    · have hf' := hf.out
      rw [List.drop_of_length_le (l := xs) (by omega), List.drop_of_length_le (by omega), leq] at hf'
      have Hf := Lib.hid hf'
      clear hf hf'
      go_wp2_with fail
      go_ret
      exact ⟨by rw [Hf.out]; rfl, hE⟩

set_option maxHeartbeats 1000000 in
set_option maxRecDepth 100000 in
/-- slices.Index at Bool. -/
theorem indexBool (S : Nat → Prop) (xs : List Bool) (x : Bool) (v : Value) (w : World) (hx : RSl RBool 1 S w xs [v]) : Calls Tryz.prog 134 #[v, .bool x] w fun e w' => e = .returned (.int .i64 (ixOf x xs)) ∧ w' = w := by
  obtain ⟨A, c, rfl, hc, hc0⟩ := hx.val
  have HX := Lib.hid hx
  clear hx
  go_enter Tryz.func134, Tryz.ntmps134
  go_wp2
  go_loopw [5, 8] (fun _ i wr => ∃ k : Nat, k ≤ xs.length ∧ i = .int .i64 k ∧ wr = w ∧ Hid (ixOf x xs = ixOf x (xs.drop k) + (if ixOf x (xs.drop k) < 0 then 0 else (k : Int)))) (fun _ i _ => xs.length - (intOf i).toNat)
  case atStart => exact ⟨0, Nat.zero_le _, rfl, rfl, by simp [Hid]⟩
  case round =>
    obtain ⟨k, hk, rfl, rfl, hf⟩ := hrel
    by_cases hlt : k < xs.length
    · obtain ⟨b, off, cs, rfl, hb, hS, hl, hr, hcell⟩ := HX.out.get k hlt
      obtain rfl : cs = [.bool xs[k]] := hr
      have g0 := (by simpa using hcell.get 0 _ : wr.cell? ⟨b, off + k, none⟩ = some (.bool xs[k]))
      have hf' := hf.out
      rw [List.drop_eq_getElem_cons hlt, ixOf] at hf'
      clear hcell hl hS hf
      by_cases hq : x = xs[k]
      · rw [if_pos hq] at hf'
        have Hf := Lib.hid hf'
        have hb1 : (x == xs[k]) = true := beq_iff_eq.2 hq
        clear hf' hq
        go_wp2_with fail
        go_ret
        rw [Hf.out]
        exact ⟨by simp, rfl⟩
      · rw [if_neg hq] at hf'
        have Hf := Lib.hid hf'
        have hb1 : (x == xs[k]) = false := beq_eq_false_iff_ne.2 hq
        clear hf' hq
        go_wp2_with fail
        go_roundw
        case rel =>
          refine ⟨k + 1, by omega, by go_num, (by first | rfl | trivial), ?_⟩
          show ixOf x xs = _
          rw [Hf.out]
          have := ixOf_ge x (xs.drop (k + 1))
          split <;> split <;> omega
        case measure => simp [intOf]; omega
    · have hd : xs.drop k = [] := List.drop_of_length_le (by omega)
      have hf' := hf.out
      rw [hd, ixOf] at hf'
      have Hf := Lib.hid hf'
      clear hf hf'
      go_wp2
      go_ret
      rw [Hf.out]
      exact ⟨by simp, rfl⟩

set_option maxHeartbeats 1000000 in
set_option maxRecDepth 100000 in
/-- slices.Contains at Bool. -/
theorem containsBool (S : Nat → Prop) (xs : List Bool) (x : Bool) (v : Value) (w : World) (hx : RSl RBool 1 S w xs [v]) : Calls Tryz.prog 72 #[v, .bool x] w fun e w' => e = .returned (.bool (decide (x ∈ xs))) ∧ w' = w := by
  obtain ⟨A, c, rfl, hc, hc0⟩ := hx.val
  have HX := Lib.hid hx
  have hm := Lib.hid (ixOf_mem x xs)
  clear hx
  go_enter Tryz.func72, Tryz.ntmps72
  go_wp2_with fail
  refine (indexBool S xs x _ w HX.out).mono ?_
  rintro e w' ⟨rfl, rfl⟩
  generalize hi : ixOf x xs = i at hm ⊢
  clear hi
  go_wp2_with fail
  all_goals go_ret
  exact ⟨by rw [show decide (0 ≤ i) = decide (x ∈ xs) from decide_eq_decide.2 hm.out]; rfl, rfl⟩

set_option maxHeartbeats 1000000 in
set_option maxRecDepth 100000 in
/-- slices.Equal at Bool. -/
theorem equalBool (S : Nat → Prop) (xs ys : List Bool) (v u : Value) (w : World) (hx : RSl RBool 1 S w xs [v]) (hy : RSl RBool 1 S w ys [u]) : Calls Tryz.prog 54 #[v, u] w fun e w' => e = .returned (.bool (decide (xs = ys))) ∧ Ext w w' := by
  obtain ⟨A, c, rfl, hc, hc0⟩ := hx.val
  obtain ⟨A', c', rfl, hc', hc0'⟩ := hy.val
  have HX := Lib.hid hx
  have HY := Lib.hid hy
  clear hx hy
  rw [← leq_eq]
  by_cases hlen : xs.length = ys.length
  case neg =>
    have HL := Lib.hid (leq_len (fun x y : Bool => decide (x = y)) xs ys hlen)
    have hne : ((xs.length : Int) != (ys.length : Int)) = true := bne_iff_ne.2 (by omega)
    clear hlen
    go_enter Tryz.func54, Tryz.ntmps54
    go_wp2_with fail
    go_ret
    exact ⟨by rw [HL.out]; rfl, Ext.refl _⟩
  have hne : ((xs.length : Int) != (ys.length : Int)) = false := bne_eq_false_iff_eq.2 (by omega)
  have hle1 : xs.length ≤ ys.length := by omega
  have hle2 : ys.length ≤ xs.length := by omega
  have HLEN := Lib.hid hlen
  clear hlen
  go_enter Tryz.func54, Tryz.ntmps54
  go_wp2_with fail
  go_loopw [5, 13] (fun _ i wr => ∃ k : Nat, k ≤ xs.length ∧ k ≤ ys.length ∧ i = .int .i64 k ∧ Ext w wr ∧ Hid (leq (fun x y : Bool => decide (x = y)) xs ys = leq (fun x y : Bool => decide (x = y)) (xs.drop k) (ys.drop k))) (fun _ i _ => xs.length - (intOf i).toNat)
  case atStart => exact ⟨0, Nat.zero_le _, Nat.zero_le _, rfl, Ext.refl _, rfl⟩
  case round =>
    obtain ⟨k, hk, hk2, rfl, hE, hf⟩ := hrel
    by_cases hlt : k < xs.length
    · obtain ⟨b, off, cs, rfl, hb, hS, hl, hr, hcell⟩ := ((RSl.good RBool.good).bel HX.out hE).get k hlt
      have hlt2 : k < ys.length := by omega
      obtain ⟨b2, off2, cs2, rfl, hb2, hS2, hl2, hr2, hcell2⟩ := ((RSl.good RBool.good).bel HY.out hE).get k hlt2
      obtain rfl : cs = [.bool xs[k]] := hr
      obtain rfl : cs2 = [.bool ys[k]] := hr2
      have g0 := (by simpa using hcell.get 0 _ : wr.cell? ⟨b, off + k, none⟩ = some (.bool xs[k]))
      have q0 := (by simpa using hcell2.get 0 _ : wr.cell? ⟨b2, off2 + k, none⟩ = some (.bool ys[k]))
      have hf' := hf.out
      rw [List.drop_eq_getElem_cons hlt, List.drop_eq_getElem_cons hlt2, leq] at hf'
      clear hcell hcell2 hl hl2 hS hS2 hf
      by_cases hq : xs[k] = ys[k]
      · rw [decide_eq_true hq] at hf'
        have Hf := Lib.hid hf'
        have hb1 : (!(xs[k] == ys[k])) = false := by simp [hq]
        clear hf' hq
        go_wp2_with fail
        (refine wp_region_ext (by kernel_rfl) (by kernel_rfl) ?_; (repeat (first | go_big_quiet_step ((fail)) | quiet_step ((fail)))); refine wpQuiet_nil ?_)
        intro w1 hx1
        go_wp2_with fail
        go_roundw
        case rel => exact ⟨k + 1, by omega, by omega, by go_num, (by repeat (first | exact Ext.refl _ | apply Ext.alloc | apply Below.drew | apply Ext.drewN | refine Ext.trans' ?_ (by assumption) | refine Ext.trans' ?_ (ExtD.ext (by assumption)))), by show leq _ xs ys = _; rw [Hf.out]; exact Bool.true_and _⟩
        case measure => simp [intOf]; omega
      · rw [decide_eq_false hq] at hf'
        have Hf := Lib.hid hf'
        have hb1 : (!(xs[k] == ys[k])) = true := by simpa using hq
        clear hf' hq
        go_wp2_with fail
        (refine wp_region_ext (by kernel_rfl) (by kernel_rfl) ?_; (repeat (first | go_big_quiet_step ((fail)) | quiet_step ((fail)))); refine wpQuiet_nil ?_)
        intro w1 hx1
        go_wp2_with fail
        go_ret
        exact ⟨by rw [Hf.out]; rfl, (by repeat (first | exact Ext.refl _ | apply Ext.alloc | apply Below.drew | apply Ext.drewN | refine Ext.trans' ?_ (by assumption) | refine Ext.trans' ?_ (ExtD.ext (by assumption))))⟩
    · have hf' := hf.out
      rw [List.drop_of_length_le (l := xs) (by omega), List.drop_of_length_le (by omega), leq] at hf'
      have Hf := Lib.hid hf'
      clear hf hf'
      go_wp2_with fail
      go_ret
      exact ⟨by rw [Hf.out]; rfl, hE⟩

end Go.Proofs.YtegenalcheooeaaGreat

/- suite.steps: the edges of a state, as an iterator. -/
set_option linter.unusedSectionVars false
set_option linter.unusedSimpArgs false
set_option linter.unusedVariables false
namespace Go.Proofs.YtegenalcheooeaaGreat
open Go.RowKit
attribute [local go_sem] cell?_exto
open Go.Shelf
attribute [local go_sem] Oper.semAt_some

/-- The edges that leave a state, as indices. -/
def outN (es : List Ed) (n : Int) : List (Fin es.length) := (List.finRange es.length).filter fun i => decide (es[i].f = n)
theorem outFrom_range (n : Int) : ∀ (es : List Ed) (i : Nat), outFrom i es n = ((List.finRange es.length).filter fun j => decide (es[j].f = n)).map fun j => ((i + j.1 : Nat) : Int)
  | [], i => by simp [outFrom]
  | e :: es, i => by
    rw [outFrom, outFrom_range n es (i + 1)]
    have : List.finRange (e :: es).length = 0 :: (List.finRange es.length).map Fin.succ := List.finRange_succ (n := es.length)
    rw [this, List.filter_cons, List.filter_map]
    have hm : ∀ l : List (Fin es.length), (l.map Fin.succ).map (fun j : Fin (es.length + 1) => ((i + j.1 : Nat) : Int)) = l.map fun j => ((i + 1 + j.1 : Nat) : Int) := fun l => by
      rw [List.map_map]
      apply List.map_congr_left
      intro j _
      simp only [Function.comp, Fin.val_succ]
      congr 1
      omega
    by_cases he : e.f = n
    · rw [if_pos he, if_pos (by simp [he]), List.map_cons]
      congr 1
      exact (hm _).symm
    · rw [if_neg he, if_neg (by simp [he])]
      exact (hm _).symm
theorem outIx_outN (es : List Ed) (n : Int) : outIx es n = (outN es n).map fun j => ((j.1 : Nat) : Int) := by
  rw [outIx, outFrom_range, outN]
  simp

/-- What a round is handed. -/
def edArgs (es : List Ed) (i : Fin es.length) : Array Value := #[.int .i64 (i.1 : Int), .agg #[.int .i64 es[i].f, .int .i64 es[i].l, .int .i64 es[i].t]]

set_option maxHeartbeats 1000000 in
set_option maxRecDepth 100000 in
theorem steps1_in (n : Nat) (hn : 1 ≤ n) (Z : Nat → Prop) (s : Sy) (g Bs Bst l : Nat) (state : Int) (hZ : Z Bs) (J Jx : List (Fin s.es.length) → World → Prop)
    (hY : ∀ pre x W, J pre W → pre.length < (outN s.es state).length → YieldAt Fence.wide (n - 1) Tryz.prog l (edArgs s.es x) W fun e W' =>
      (e = .returned (.bool true) ∧ J (pre ++ [x]) W' ∧ Kp Z W W') ∨ (e = .returned (.bool false) ∧ Jx (pre ++ [x]) W'))
    (W : World) (hJ : ∀ W', J [] W → Ext W W' → J [] W') (hS : IsSys Z W g s) (hBs : W.cell? ⟨Bs, 0, none⟩ = some (.pointer (some ⟨g, 0, none⟩))) (hBst : W.cell? ⟨Bst, 0, none⟩ = some (.int .i64 state)) (h0 : J [] W) :
    CallsIn Fence.wide n Tryz.prog 234 #[.func (.yield l) #[] #[], .pointer (some ⟨Bs, 0, none⟩), .pointer (some ⟨Bst, 0, none⟩)] W fun e W' => (∃ v, e = .returned v) ∧
      ((∃ ys, ys = outN s.es state ∧ J ys W') ∨ (∃ pre, pre <+: outN s.es state ∧ Jx pre W')) := by
  obtain ⟨v, u, m, f, hg, hL, hE, hZg, hZm, hM, hno, hrow⟩ := hS.ex
  obtain ⟨A', c', rfl, hc', hc0'⟩ := hE.val
  -- what the map holds there
  obtain ⟨rv, hlk, hrv⟩ : ∃ rv, (f state).getD (.slice none 0 0) = rv ∧ RSl RInt 1 Z W (outIx s.es state) [rv] := by
    cases hf : f state with
    | none => exact ⟨_, rfl, by rw [hno state hf]; exact ⟨none, 0, rfl, Nat.le_refl _, by omega, .inl rfl⟩⟩
    | some x => exact ⟨x, rfl, hrow state x hf⟩
  obtain ⟨Ar, cr, rfl, hcr, hcr0⟩ := hrv.val
  have hlook := fun W' (hW : W'.heap[m]? = W.heap[m]?) => (hM.move (W' := W') hW).lookup (P := Tryz.prog) Tryz.underlying182 keyInt (z := .slice none 0 0) (by kernel_rfl) state
  simp only [hlk] at hlook
  have g3 : W.cell? ⟨g, 3, none⟩ = some (.map (some m)) := cell_of_row W _ 3 _ _ _ hg
  have HY := Lib.hid hY
  have HS := Lib.hid hS
  have HE := Lib.hid hE
  have HR := Lib.hid hrv
  have HG := Lib.hid hg
  have hlx := fun x => hlook (exto W x) ((exto_ext W x).block m hM.lt)
  have HLK := Lib.hid hlook
  clear hY hS hE hrv hg hL hM hno hrow hlook hlk
  refine callsIn_of_wp Tryz.func234 rfl trivial ?_ rfl
  simp only [Tryz.ntmps234, List.size_toArray, List.length_cons, List.length_nil, Nat.reduceAdd, Nat.reduceSub, Array.replicate_succ, Array.replicate_zero, List.push_toArray, List.append_toArray, List.nil_append, List.cons_append]
  gi_wp2
  refine wpIn_wide.2 ?_
  (refine wp_region_ext (by kernel_rfl) (by kernel_rfl) ?_; (repeat (first | go_big_quiet_step ((fail)) | quiet_step ((fail)))); refine wpQuiet_nil ?_)
  intro w1 hx1
  have h01 := hJ w1 h0 hx1
  have hlen : Hid ((outIx s.es state).length = (outN s.es state).length) := by show _ = _; rw [outIx_outN, List.length_map]
  have hE1 := Lib.hid (REds.good.bel HE.out hx1)
  have hR1 := Lib.hid ((RSl.good RInt.good).bel HR.out hx1)
  have hS1 := Lib.hid (HS.out.bel hx1)
  have hG1 := Lib.hid ((Ext.kp (S := fun _ => True) hx1).block g (Array.getElem?_eq_some_iff.1 HG.out).1 trivial |>.trans HG.out)
  have hb1 : w1.cell? ⟨Bs, 0, none⟩ = some (.pointer (some ⟨g, 0, none⟩)) := Ext.keep hx1 hBs
  clear hx1 hBs hBst g3 hlx HLK HG HS HE HR h0 hJ
  gi_wp2
  gi_loopw [13] (fun i wr => ∃ k : Nat, k ≤ (outIx s.es state).length ∧ i = .int .i64 k ∧ J ((outN s.es state).take k) wr ∧ Kp Z w1 wr) (fun i _ => (outIx s.es state).length - (intOf i).toNat)
  case atStart => exact ⟨0, Nat.zero_le _, rfl, by simpa using h01, Kp.refl _ _⟩
  case round =>
    obtain ⟨k, hk, rfl, hJs, hK⟩ := hrel
    by_cases hlt : k < (outIx s.es state).length
    · have hlt2 : k < (outN s.es state).length := by have := hlen.out; omega
      obtain ⟨b, off, cs, rfl, hb, hZb, hl, hr, hcell⟩ := ((RSl.good RInt.good).move hR1.out hK).get k hlt
      obtain rfl := hr.1
      have hix : (outIx s.es state)[k] = (((outN s.es state)[k].1 : Nat) : Int) := by simp only [outIx_outN, List.getElem_map]
      have g0 : wr.cell? ⟨b, off + k, none⟩ = some (.int .i64 (((outN s.es state)[k].1 : Nat) : Int)) := by rw [← hix]; simpa using hcell.get 0 _
      obtain ⟨⟨xi, hxl⟩, hx⟩ : ∃ x, x = (outN s.es state)[k] := ⟨_, rfl⟩
      rw [← hx] at g0
      replace g0 : wr.cell? ⟨b, off + k, none⟩ = some (.int .i64 (xi : Int)) := g0
      obtain ⟨b2, off2, cs2, rfl, hb2, hZ2, hl2, hr2, hcell2⟩ := (REds.good.move hE1.out hK).get xi hxl
      obtain ⟨i1, i2, i3, rfl⟩ := id hr2
      have q0 : wr.cell? ⟨b2, off2 + xi * 3, none⟩ = some (.int .i64 s.es[xi].f) := by simpa using hcell2.get 0 _
      have q1 := hcell2.get 1 _
      have q2 := hcell2.get 2 _
      have hgw := hK.block g (Array.getElem?_eq_some_iff.1 hG1.out).1 hZg |>.trans hG1.out
      have p2 : wr.cell? ⟨g, 2, none⟩ = some (.slice (some ⟨b2, off2, none⟩) s.es.length c') := cell_of_row wr _ 2 _ _ _ hgw
      have pb : wr.cell? ⟨Bs, 0, none⟩ = some (.pointer (some ⟨g, 0, none⟩)) := (World.cell?_of_block (a := ⟨Bs, 0, none⟩) (hK.block Bs (World.block_lt_of_cell? w1 _ hb1) hZ)).trans hb1
      obtain ⟨fn, tmps, assign, body, hy, hRd⟩ := HY.out _ ⟨xi, hxl⟩ wr hJs (by rw [List.length_take]; omega)
      unfold edArgs at hy
      simp only [Fin.getElem_fin] at hy
      have htk : (outN s.es state).take k ++ [⟨xi, hxl⟩] = (outN s.es state).take (k + 1) := by rw [hx]; exact (List.take_succ_eq_append_getElem hlt2).symm
      rw [htk] at hRd
      clear hcell hcell2 hr hr2 hl hl2 hgw hJs hix htk
      gi_wp2
      refine hRd.mono ?_
      rintro e W3 (⟨rfl, hJ3, hk3⟩ | ⟨rfl, hJx3⟩)
      · gi_wp2
        go_roundw
        case rel => exact ⟨k + 1, by omega, by go_num, hJ3, hK.trans hk3⟩
        case measure => simp [intOf]; omega
      · gi_wp2
        refine bodyPost_ret (results_none rfl _ _ _) rfl ?_
        exact ⟨⟨_, rfl⟩, .inr ⟨_, List.take_prefix _ _, hJx3⟩⟩
    · have hke : Hid (k = (outN s.es state).length) := by have := hlen.out; show _ = _; omega
      gi_wp2
      go_end0
      refine ⟨⟨_, rfl⟩, .inl ⟨_, rfl, ?_⟩⟩
      rwa [hke.out, List.take_length] at hJs

set_option maxHeartbeats 1000000 in
set_option maxRecDepth 100000 in
theorem steps_in (n : Nat) (p : Option Addr) (state : Int) (w : World) :
    CallsIn Fence.wide n Tryz.prog 175 #[.pointer p, .int .i64 state] w fun e w' => e = .returned (.func (.func 234) #[] #[.pointer (some ⟨w.heap.size, 0, none⟩), .pointer (some ⟨w.heap.size + 1, 0, none⟩)]) ∧
      w' = (w.alloc (.cells #[.pointer p] 111)).alloc (.cells #[.int .i64 state] 3) := by
  refine callsIn_wide.2 ?_
  go_enter Tryz.func175, Tryz.ntmps175
  go_wp2_with fail
  go_ret
  exact ⟨rfl, rfl⟩

/-- The iterator's contract; Z: what a round keeps. -/
theorem steps_stops (n : Nat) (hn : 1 ≤ n) (Z : Nat → Prop) (s : Sy) (g Bs Bst : Nat) (state : Int) (hZ : Z Bs) (w : World) (hS : IsSys Z w g s) (hBs : w.cell? ⟨Bs, 0, none⟩ = some (.pointer (some ⟨g, 0, none⟩))) (hBst : w.cell? ⟨Bst, 0, none⟩ = some (.int .i64 state)) :
    SeqStopsK Fence.wide n Tryz.prog 234 #[.pointer (some ⟨Bs, 0, none⟩), .pointer (some ⟨Bst, 0, none⟩)] (edArgs s.es) (Kp Z) (fun ys => ys = outN s.es state) (fun pre => pre <+: outN s.es state) (outN s.es state).length w := fun l J Jx W hW hJ hJx hY h0 =>
  steps1_in n hn Z s g Bs Bst l state hZ J Jx hY W (fun W' h he => hJ [] W W' none h ⟨he.os, he.tape, he.output, he.size, fun k hk _ => (Ext.kp (S := fun _ => True) he).block k hk trivial⟩ (fun r e => by cases e)) (hS.bel hW) (Ext.keep hW hBs) (Ext.keep hW hBst) h0
theorem kp_t {Z : Nat → Prop} {A B C : World} (h : Kp Z A B) (k : Kp Z B C) : Kp Z A C := h.trans k
theorem kp_b {Z : Nat → Prop} {w : World} (hZ : ∀ k, Z k → k < w.heap.size) (W : World) (l : Nat) (o o' : Obj) (hl : w.heap.size ≤ l) (h : W.heap[l]? = some o) (_ : o.isCells = false) (_ : o.isWalk = false) : Kp Z W (W.putObj l o') :=
  ⟨by simp, fun k hk hz => World.putObj_heap_other (fun e => by have := hZ k hz; omega)⟩
end Go.Proofs.YtegenalcheooeaaGreat

