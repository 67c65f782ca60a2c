/- Of the proof of a law of the suites: LibCLb, Sets, Compact. -/
import Derived.Test.YtegenalcheooeaaGreatB03
import Derived.Test.YtegenalcheooeaaGreatB04
import Derived.Test.YtegenalcheooeaaGreatB09
import Derived.Test.YtegenalcheooeaaGreatB11
import Derived.Lib.SliceRun
set_option linter.unusedSectionVars false
set_option linter.unusedSimpArgs false
set_option linter.unusedVariables false
namespace Go.Proofs.YtegenalcheooeaaGreat
open Go.RowKit
attribute [local go_sem] cell?_exto
section

set_option maxHeartbeats 1000000 in
set_option maxRecDepth 100000 in
/-- slices.CompareFunc at Lb. -/
theorem cmpFLb (cf : Lb → Lb → Int) (S : Nat → Prop) (w : World) (xs ys : List (Lb)) (v u : Value) (hx : RSl RLb 2 S w xs [v]) (hy : RSl RLb 2 S w ys [u]) (g : Nat) (lb : Array Value)
  (eg : ∀ args w, (callFunc g args).run Tryz.prog w = .ok (.enter g args) w)
  (hp : ∀ x ∈ xs, ∀ y ∈ ys, ∀ cs cs2 W, ExtD w W → RLb S W x cs → RLb S W y cs2 → Calls Tryz.prog g (#[.agg cs.toArray, .agg cs2.toArray] ++ lb) W fun e w' => e = .returned (.int .i64 (cf x y)) ∧ ExtD W w') :
  Calls Tryz.prog 210 #[v, u, .func (.func g) #[] lb] w fun e w' => e = .returned (.int .i64 (lcmp cf xs ys)) ∧ ExtD w w' := by
 obtain ⟨A, c, rfl, hc, hc0⟩ := hx.val
 obtain ⟨A', c', rfl, hc', hc0'⟩ := hy.val
 have HX := Lib.hid hx
 have HY := Lib.hid hy
 have HP := Lib.hid hp
 clear hx hy hp
 go_enter Tryz.func210, Tryz.ntmps210
 go_wp2_with fail
 go_loopw [7, 8, 9, 10, 13] (fun _ _ _ _ i wr => ∃ k : Nat, k ≤ xs.length ∧ k ≤ ys.length ∧ i = .int .i64 k ∧ ExtD w wr ∧ Hid (lcmp cf xs ys = lcmp cf (xs.drop k) (ys.drop k))) (fun _ _ _ _ i _ => xs.length - (intOf i).toNat)
 case atStart => exact ⟨0, Nat.zero_le _, Nat.zero_le _, rfl, ExtD.refl _, rfl⟩
 case round =>
  obtain ⟨k, hk, hk2, rfl, hE, hf⟩ := hrel
  by_cases hlt : k < xs.length
  ·obtain ⟨b, off, cs, rfl, hb, hS, hl, hr, hcell⟩ := ((RSl.good RLb.good).ext HX.out hE).get k hlt
   by_cases hlt2 : k < ys.length
   ·obtain ⟨b2, off2, cs2, rfl, hb2, hS2, hl2, hr2, hcell2⟩ := ((RSl.good RLb.good).ext HY.out hE).get k hlt2
    have hcon := fun W (hW : ExtD wr W) => HP.out xs[k] (List.getElem_mem hlt) ys[k] (List.getElem_mem hlt2) cs cs2 W (hE.trans hW) (RLb.good.ext hr hW) (RLb.good.ext hr2 hW)
    obtain ⟨c0, c1, rfl⟩ : ∃ c0 c1, cs = [c0, c1] := by
     match cs, hl with
     | [c0, c1], _ => exact ⟨c0, c1, rfl⟩
    have g0 := (by simpa using hcell.get 0 _ : wr.cell? ⟨b, off + k * 2, none⟩ = some c0)
    have g1 := hcell.get 1 _
    obtain ⟨d0, d1, rfl⟩ : ∃ d0 d1, cs2 = [d0, d1] := by
     match cs2, hl2 with
     | [d0, d1], _ => exact ⟨d0, d1, rfl⟩
    have q0 := (by simpa using hcell2.get 0 _ : wr.cell? ⟨b2, off2 + k * 2, none⟩ = some d0)
    have q1 := hcell2.get 1 _
    have s0 := fun (W : World) (a : Addr) (m : Mode) => run_store Tryz.prog W a c0 m (RLb.good.one hr c0 (by simp))
    have s1 := fun (W : World) (a : Addr) (m : Mode) => run_store Tryz.prog W a c1 m (RLb.good.one hr c1 (by simp))
    have t0 := fun (W : World) (a : Addr) (m : Mode) => run_store Tryz.prog W a d0 m (RLb.good.one hr2 d0 (by simp))
    have t1 := fun (W : World) (a : Addr) (m : Mode) => run_store Tryz.prog W a d1 m (RLb.good.one hr2 d1 (by simp))
    rw [List.drop_eq_getElem_cons hlt, List.drop_eq_getElem_cons hlt2, lcmp] at hf
    clear hcell hcell2 hl hl2 hS hS2 hr hr2
    by_cases hq : cf xs[k] ys[k] = 0
    ·rw [if_pos hq] at hf
     have Hf := Lib.hid hf
     have hq1 : (cf xs[k] ys[k] != 0) = false := by rw [hq]; rfl
     rw [hq] at hcon
     clear hf hq1 hq
     go_wp2_with fail
     refine (hcon _ extd).mono ?_
     rintro e w1 ⟨rfl, h1⟩
     go_wp2_with fail
     go_roundw
     case rel => exact ⟨k + 1, by omega, by omega, by go_num, extd, Hf.out⟩
     case measure => simp [intOf]; omega
    ·rw [if_neg hq] at hf
     have Hf := Lib.hid hf
     have hq1 : (cf xs[k] ys[k] != 0) = true := bne_iff_ne.2 hq
     clear hf hq
     go_wp2_with fail
     refine (hcon _ extd).mono ?_
     rintro e w1 ⟨rfl, h1⟩
     go_wp2_with fail
     go_ret
     exact ⟨by rw [Hf.out]; rfl, extd⟩
   ·rw [List.drop_of_length_le (l := ys) (by omega), List.drop_eq_getElem_cons hlt, lcmp] at hf
    have Hf := Lib.hid hf
    obtain ⟨c0, c1, rfl⟩ : ∃ c0 c1, cs = [c0, c1] := by
     match cs, hl with
     | [c0, c1], _ => exact ⟨c0, c1, rfl⟩
    have g0 := (by simpa using hcell.get 0 _ : wr.cell? ⟨b, off + k * 2, none⟩ = some c0)
    have g1 := hcell.get 1 _
    have s0 := fun (W : World) (a : Addr) (m : Mode) => run_store Tryz.prog W a c0 m (RLb.good.one hr c0 (by simp))
    have s1 := fun (W : World) (a : Addr) (m : Mode) => run_store Tryz.prog W a c1 m (RLb.good.one hr c1 (by simp))
    clear hf hcell
    go_wp2_with fail
    go_ret
    exact ⟨by rw [Hf.out]; rfl, extd⟩
  ·rw [List.drop_of_length_le (l := xs) (by omega)] at hf
   by_cases hlt2 : k < ys.length
   ·rw [List.drop_eq_getElem_cons hlt2, lcmp] at hf
    have Hf := Lib.hid hf
    clear hf
    go_wp2_with fail
    go_ret
    exact ⟨by rw [Hf.out]; rfl, hE⟩
   ·rw [List.drop_of_length_le (by omega), lcmp] at hf
    have Hf := Lib.hid hf
    clear hf
    go_wp2_with fail
    go_ret
    exact ⟨by rw [Hf.out]; rfl, hE⟩
end
section
set_option maxHeartbeats 1000000
set_option maxRecDepth 100000
/- suite.subset, sets, same, and the closures of least: walked. -/

/-- suite.subset -/
def subB (a b : List Lb) : Bool := !(a.any fun x => !inLb x b)
theorem eg261 : ∀ args w, (callFunc 261 args).run Tryz.prog w = .ok (.enter 261 args) w := enters_of Tryz.func261 (by kernel_rfl) rfl
theorem subset1_c (S : Nat → Prop) (l : List Lb) (x : Lb) (v : Value) (B : Nat) (cx : List Value) (w : World) (hl : RLbs S w l [v]) (hx : RLb S w x cx) (hn : l.length ≤ 4611686018427387903) (hB : w.cell? ⟨B, 0, none⟩ = some v) :
  Calls Tryz.prog 261 #[.agg cx.toArray, .pointer (some ⟨B, 0, none⟩)] w fun e w' => e = .returned (.bool (!inLb x l)) ∧ Ext w w' := by
 have hcon := fun W (hW : ExtD w W) => within_c S l x v cx W (RLbs.good.ext hl hW) (RLb.good.ext hx hW) hn
 obtain ⟨A, c, rfl, hc, hc0⟩ := hl.val
 obtain ⟨_, vx, rfl, hvx⟩ := id hx
 have hB0 := World.block_lt_of_cell? w _ hB
 clear hl hx hvx
 go_enter Tryz.func261, Tryz.ntmps261
 go_wp2_with fail
 refine (hcon _ extd).mono ?_
 rintro e w1 ⟨rfl, h1⟩
 go_wp2_with fail
 go_ret
 exact ⟨rfl, bel⟩
theorem subset_c (S : Nat → Prop) (a b : List Lb) (va vb : Value) (w : World) (ha : RLbs S w a [va]) (hb : RLbs S w b [vb]) (hn : b.length ≤ 4611686018427387903) :
  Calls Tryz.prog 219 #[va, vb] w fun e w' => e = .returned (.bool (subB a b)) ∧ Ext w w' := by
 have hcon := fun B W (hW : Ext w W) (hB : W.cell? ⟨B, 0, none⟩ = some vb) => conPLb (fun x => !inLb x b) S W a va (RLbs.good.bel ha hW) 261 #[.pointer (some ⟨B, 0, none⟩)] eg261
  (fun x hx cs W' hW' hr => subset1_c S b x vb B cs W' (RLbs.good.bel hb (hW.trans' hW')) hr hn ((hW'.cell (World.block_lt_of_cell? W _ hB)).trans hB))
 obtain ⟨A, c, rfl, hc, hc0⟩ := ha.val
 obtain ⟨A', c', rfl, hc', hc0'⟩ := hb.val
 clear ha hb
 go_enter Tryz.func219, Tryz.ntmps219
 go_wp2_with fail
 refine (hcon _ _ bel (by go_simp)).mono ?_
 rintro e w1 ⟨rfl, h1⟩
 go_wp2_with fail
 go_ret
 exact ⟨rfl, bel⟩

/-- suite.sets -/
def cmpSets (a b : List Lb) : Int := lcmp cmpLb a b
theorem eg166 : ∀ args w, (callFunc 166 args).run Tryz.prog w = .ok (.enter 166 args) w := enters_of Tryz.func166 (by kernel_rfl) rfl
theorem sets_c (S : Nat → Prop) (a b : List Lb) (va vb : Value) (w : World) (ha : RLbs S w a [va]) (hb : RLbs S w b [vb]) :
  Calls Tryz.prog 143 #[va, vb] w fun e w' => e = .returned (.int .i64 (cmpSets a b)) ∧ ExtD w w' := by
 have hcon := fun W (hW : ExtD w W) => cmpFLb cmpLb S W a b va vb (RLbs.good.ext ha hW) (RLbs.good.ext hb hW) 166 #[] eg166
  (fun x hx y hy cs cs2 W' hW' hr hr2 => compare_c S x y cs cs2 W' hr hr2)
 obtain ⟨A, c, rfl, hc, hc0⟩ := ha.val
 obtain ⟨A', c', rfl, hc', hc0'⟩ := hb.val
 clear ha hb
 go_enter Tryz.func143, Tryz.ntmps143
 go_wp2_with fail
 refine (hcon _ extd).mono ?_
 rintro e w1 ⟨rfl, h1⟩
 go_wp2_with fail
 go_ret
 exact ⟨rfl, extd⟩
theorem same_c (S : Nat → Prop) (a b : List Lb) (va vb : Value) (w : World) (ha : RLbs S w a [va]) (hb : RLbs S w b [vb]) :
  Calls Tryz.prog 145 #[va, vb] w fun e w' => e = .returned (.bool (decide (cmpSets a b = 0))) ∧ ExtD w w' := by
 have hcon := fun W (hW : ExtD w W) => sets_c S a b va vb W (RLbs.good.ext ha hW) (RLbs.good.ext hb hW)
 obtain ⟨A, c, rfl, hc, hc0⟩ := ha.val
 obtain ⟨A', c', rfl, hc', hc0'⟩ := hb.val
 clear ha hb
 generalize cmpSets a b = i at hcon ⊢
 go_enter Tryz.func145, Tryz.ntmps145
 go_wp2_with fail
 refine (hcon _ extd).mono ?_
 rintro e w1 ⟨rfl, h1⟩
 go_wp2_with fail
 go_ret
 exact ⟨rfl, extd⟩

/-! ### least's closures -/
def smaller (a b : List Lb) : Bool := decide (b.length < a.length) && subB b a
theorem eg218 : ∀ args w, (callFunc 218 args).run Tryz.prog w = .ok (.enter 218 args) w := enters_of Tryz.func218 (by kernel_rfl) rfl
theorem least11_c (S : Nat → Prop) (a b : List Lb) (va vb : Value) (B : Nat) (w : World) (ha : RLbs S w a [va]) (hb : RLbs S w b [vb]) (hn : a.length ≤ 4611686018427387903) (hB : w.cell? ⟨B, 0, none⟩ = some va) :
  Calls Tryz.prog 218 #[vb, .pointer (some ⟨B, 0, none⟩)] w fun e w' => e = .returned (.bool (smaller a b)) ∧ Ext w w' := by
 have hcon := fun W (hW : Ext w W) => subset_c S b a vb va W (RLbs.good.bel hb hW) (RLbs.good.bel ha hW) hn
 obtain ⟨A, c, rfl, hc, hc0⟩ := ha.val
 obtain ⟨A', c', rfl, hc', hc0'⟩ := hb.val
 have hB0 := World.block_lt_of_cell? w _ hB
 clear ha hb
 by_cases hlt : b.length < a.length
 ·have HV := Lib.hid (show smaller a b = subB b a from by rw [smaller, decide_eq_true hlt, Bool.true_and])
  have z := decide_eq_true (show (b.length : Int) < (a.length : Int) by omega)
  go_enter Tryz.func218, Tryz.ntmps218
  go_wp2_with fail
  refine (hcon _ bel).mono ?_
  rintro e w1 ⟨rfl, h1⟩
  go_wp2_with fail
  go_ret
  exact ⟨by rw [HV.out]; rfl, bel⟩
 ·have HV := Lib.hid (show smaller a b = false from by rw [smaller, decide_eq_false hlt, Bool.false_and])
  have z := decide_eq_false (show ¬ (b.length : Int) < (a.length : Int) by omega)
  go_enter Tryz.func218, Tryz.ntmps218
  go_wp2_with fail
  go_ret
  exact ⟨by rw [HV.out]; rfl, bel⟩
theorem eg217 : ∀ args w, (callFunc 217 args).run Tryz.prog w = .ok (.enter 217 args) w := enters_of Tryz.func217 (by kernel_rfl) rfl
theorem least1_c (S : Nat → Prop) (a : List Lb) (l : List (List Lb)) (va vl : Value) (B : Nat) (w : World) (ha : RLbs S w a [va]) (hl : RSl RLbs 1 S w l [vl]) (hn : a.length ≤ 4611686018427387903) (hB : w.cell? ⟨B, 0, none⟩ = some vl) :
  Calls Tryz.prog 217 #[va, .pointer (some ⟨B, 0, none⟩)] w fun e w' => e = .returned (.bool (l.any (smaller a))) ∧ Ext w w' := by
 have hcon := fun B' W (hW : Ext w W) (hB' : W.cell? ⟨B', 0, none⟩ = some va) => conPLbs (smaller a) S W l vl ((RSl.good RLbs.good).bel hl hW) 218 #[.pointer (some ⟨B', 0, none⟩)] eg218
  (fun x hx cs W' hW' hr => by
   obtain ⟨A, c, rfl, _⟩ := id hr
   exact least11_c S a x va _ B' W' (RLbs.good.bel ha (hW.trans' hW')) hr hn (Ext.keep hW' hB'))
 obtain ⟨A, c, rfl, hc, hc0⟩ := ha.val
 obtain ⟨A', c', rfl, hc', hc0'⟩ := hl.val
 have hB0 := World.block_lt_of_cell? w _ hB
 clear ha hl
 go_enter Tryz.func217, Tryz.ntmps217
 go_wp2_with fail
 refine (hcon _ _ bel (by go_simp)).mono ?_
 rintro e w1 ⟨rfl, h1⟩
 go_wp2_with fail
 go_ret
 exact ⟨rfl, bel⟩
end
section

/-! ### What it comes to -/
section
variable {α : Type} (eq : α → α → Bool)
def compGo : α → List α → List α
 | _, [] => []
 | p, y :: ys => if eq y p then compGo y ys else y :: compGo y ys
def compactB : List α → List α
 | [] => []
 | x :: xs => x :: compGo eq x xs
theorem compGo_snoc (z : α) : ∀ (xs : List α) (p : α), compGo eq p (xs ++ [z]) = compGo eq p xs ++ (if eq z ((p :: xs).getLast (by simp)) then [] else [z])
 | [], p => by cases h : eq z p <;> simp [compGo, h]
 | y :: ys, p => by
  have h := compGo_snoc z ys y
  rw [List.cons_append, compGo, compGo, h, List.getLast_cons_cons]
  split <;> rfl
theorem compGo_len : ∀ (xs : List α) (p : α), (compGo eq p xs).length ≤ xs.length
 | [], p => Nat.le_refl _
 | y :: ys, p => by
  have := compGo_len ys y
  rw [compGo]
  split <;> simp only [List.length_cons] <;> omega
theorem compactB_len : ∀ xs : List α, (compactB eq xs).length ≤ xs.length
 | [] => Nat.le_refl _
 | x :: xs => by have := compGo_len eq xs x; rw [compactB, List.length_cons, List.length_cons]; omega
theorem compactB_take (l : List α) (k : Nat) (h1 : 1 ≤ k) (hk : k < l.length) : compactB eq (l.take (k + 1)) = if eq l[k] l[k - 1] then compactB eq (l.take k) else compactB eq (l.take k) ++ [l[k]] := by
 rw [List.take_succ_eq_append_getElem hk]
 obtain ⟨p, xs, he⟩ : ∃ p xs, l.take k = p :: xs := by
  cases h : l.take k with
  | nil => have := congrArg List.length h; rw [List.length_take, List.length_nil] at this; omega
  | cons p xs => exact ⟨p, xs, rfl⟩
 have hl : (p :: xs).getLast (by simp) = l[k - 1] := by
  have hlen : (p :: xs).length = k := by rw [← he, List.length_take]; omega
  rw [List.getLast_eq_getElem]
  simp only [← he]
  rw [List.getElem_take]
  congr 1
  rw [List.length_take]
  omega
 rw [he, List.cons_append, compactB, compGo_snoc, hl, compactB]
 split <;> simp
theorem compGo_mem : ∀ (xs : List α) (p x : α), x ∈ compGo eq p xs → x ∈ xs
 | [], _, _, h => h
 | y :: ys, p, x, h => by
  rw [compGo] at h
  split at h
  ·exact List.mem_cons_of_mem _ (compGo_mem ys y x h)
  ·rcases List.mem_cons.1 h with rfl | h
   ·simp
   ·exact List.mem_cons_of_mem _ (compGo_mem ys y x h)
theorem compactB_mem : ∀ (xs : List α) (x : α), x ∈ compactB eq xs → x ∈ xs
 | [], x, h => h
 | y :: ys, x, h => by
  rw [compactB] at h
  rcases List.mem_cons.1 h with rfl | h
  ·simp
  ·exact List.mem_cons_of_mem _ (compGo_mem eq ys y x h)
/-- The row while it is being written. -/
def compY (l : List α) (m : Nat) : List α := compactB eq (l.take m) ++ l.drop (compactB eq (l.take m)).length
theorem compY_len (l : List α) (m : Nat) : (compY eq l m).length = l.length := by
 have h := compactB_len eq (l.take m)
 rw [List.length_take] at h
 rw [compY, List.length_append, List.length_drop]
 omega
theorem compY_at (l : List α) (m j : Nat) (hj : (compactB eq (l.take m)).length ≤ j) (hl : j < l.length) : (compY eq l m)[j]'(by rw [compY_len]; exact hl) = l[j] := by
 unfold compY
 rw [List.getElem_append_right hj]
 simp only [List.getElem_drop]
 congr 1
 omega
theorem compY_same (l : List α) (m : Nat) (h1 : 1 ≤ m) (hm : m < l.length) (he : eq l[m] l[m - 1] = true) : compY eq l (m + 1) = compY eq l m ∧ compactB eq (l.take (m + 1)) = compactB eq (l.take m) := by
 have h := compactB_take eq l m h1 hm
 rw [if_pos he] at h
 exact ⟨by rw [compY, h]; rfl, h⟩
theorem compY_put (l : List α) (m : Nat) (h1 : 1 ≤ m) (hm : m < l.length) (he : eq l[m] l[m - 1] = false) (hi : (compactB eq (l.take m)).length < l.length) :
  compY eq l (m + 1) = (compY eq l m).set (compactB eq (l.take m)).length l[m] ∧ compactB eq (l.take (m + 1)) = compactB eq (l.take m) ++ [l[m]] := by
 have h := compactB_take eq l m h1 hm
 rw [if_neg (by rw [he]; decide)] at h
 refine ⟨?_, h⟩
 rw [compY, compY, h, List.set_append_right _ _ (Nat.le_refl _), Nat.sub_self, List.drop_eq_getElem_cons hi, List.set_cons_zero, List.length_append, List.length_singleton, List.append_assoc]
 rfl
end

/-! ### A row that is cut short, and cleared behind -/
theorem own_prefix {w : World} {base size n m cap g : Nat} {e : TypeId} {xs : List Value} (h : w.ownsRow base e size (.slice (some ⟨g, 0, none⟩) n cap) n xs) (hm : m ≤ n) : w.ownsRow base e size (.slice (some ⟨g, 0, none⟩) m cap) m (xs.take (m * size)) := by
 have hmn : m * size ≤ n * size := Nat.mul_le_mul_right _ hm
 rcases h.2 with ⟨h', _⟩ | ⟨g', cap', cur, h', hb, hg, hnc, hcm, hcs, htake⟩
 ·simp at h'
 ·simp only [Value.slice.injEq, Option.some.injEq, Addr.mk.injEq, and_true, true_and] at h'
  obtain ⟨rfl, rfl⟩ := h'
  refine ⟨by rw [List.length_take, h.1]; omega, .inr ⟨g, cap, cur, rfl, hb, hg, by omega, hcm, hcs, ?_⟩⟩
  rw [← htake, List.take_take, Nat.min_eq_left hmn]
theorem own_cleared {base size n cap g : Nat} {e : TypeId} {xs : List Value} : ∀ (vs : List Value) (o : Nat) (w : World), n * size ≤ o → w.ownsRow base e size (.slice (some ⟨g, 0, none⟩) n cap) n xs → (w.setCells g o vs).ownsRow base e size (.slice (some ⟨g, 0, none⟩) n cap) n xs ∧ Bt (fun b => b = g) w (w.setCells g o vs)
 | [], o, w, _, h => ⟨h, Bt.refl _ _⟩
 | v :: vs, o, w, ho, h => by
  have h1 := (h.stored o v).1
  rw [List.set_eq_of_length_le (by rw [h.1]; exact ho)] at h1
  obtain ⟨h2, h3⟩ := own_cleared vs (o + 1) _ (by omega) h1
  exact ⟨h2, ((Bt.refl (fun b => b = g) w).set (p := ⟨g, o, none⟩) (.inr rfl) v).trans h3⟩
theorem Flat.take {α : Type} {R : Rdr α} {k : Nat} {S : Nat → Prop} {w : World} : ∀ {xs : List α} {cs : List Value} (m : Nat), Flat R k S w xs cs → Flat R k S w (xs.take m) (cs.take (m * k))
 | xs, cs, 0, h => by simp [Flat]
 | [], cs, m + 1, h => by rw [show cs = [] from h]; simp [Flat]
 | x :: xs, cs, m + 1, ⟨c1, c2, h1, h2, h3, h4⟩ => by
  refine ⟨c1, c2.take (m * k), ?_, h2, h3, Flat.take m h4⟩
  rw [h1, List.take_append, h2, List.take_of_length_le (by rw [h2, Nat.add_mul]; omega)]
  congr 2
  rw [Nat.add_mul]
  omega
section
variable {α : Type} {R : Rdr α} {k : Nat} {e : TypeId} {base : Nat} {T : Nat → Prop} {w : World} {xs : List α}
theorem ROwn.get1 {g n cap : Nat} (h : ROwn R 1 e base T w xs (.slice (some ⟨g, 0, none⟩) n cap)) (i : Nat) (hi : i < xs.length) :
  ∃ u, w.cell? ⟨g, i, none⟩ = some u ∧ R (fun b => T b ∧ b ≠ g) w xs[i] [u] ∧ w.frozen? ⟨g, i, none⟩ = false := by
 obtain ⟨news, h1, h2⟩ := h
 have hn : n = xs.length := by
  rcases h1.2 with ⟨h', _⟩ | ⟨g', cap', cur, h', _⟩
  ·simp at h'
  ·simp at h'; exact h'.2.1
 subst hn
 rw [own_eq] at h2
 obtain ⟨c1, h3, h4, h5⟩ := h2.at i hi
 obtain ⟨u, rfl⟩ : ∃ u, c1 = [u] := by
  match c1, h3 with
  | [u], _ => exact ⟨u, rfl⟩
 have := h5 0 (by decide)
 refine ⟨u, ?_, h4, h1.frozenAt i⟩
 rw [h1.cellAt i (by omega)]
 simpa using this
theorem ROwn.put1 {g n cap : Nat} (hR : Good R 1) (h : ROwn R 1 e base T w xs (.slice (some ⟨g, 0, none⟩) n cap)) (hn : n = xs.length) (i : Nat) (u : Value) (x' : α) (hi : i < xs.length) (hu : R (fun b => T b ∧ b ≠ g) w x' [u]) :
  ROwn R 1 e base T (w.setCell ⟨g, i, none⟩ u) (xs.set i x') (.slice (some ⟨g, 0, none⟩) n cap) := by
 subst hn
 have := ROwn.put hR h i 0 u x' (by decide) hi fun cs hcs => by
  have hl := hR.len hcs
  match cs, hl with
  | [a], _ => exact hu
 simpa using this
theorem ROwn.cut {g n cap : Nat} (hR : Good R k) (h : ROwn R k e base T w xs (.slice (some ⟨g, 0, none⟩) n cap)) (hn : n = xs.length) (m : Nat) (hm : m ≤ n) (vs : List Value) (o : Nat) (ho : m * k ≤ o) :
  ROwn R k e base T (w.setCells g o vs) (xs.take m) (.slice (some ⟨g, 0, none⟩) m cap) ∧ Bt (fun b => b = g) w (w.setCells g o vs) := by
 subst hn
 obtain ⟨news, h1, h2⟩ := h
 rw [own_eq] at h2
 obtain ⟨h3, h4⟩ := own_cleared vs o w ho (own_prefix h1 hm)
 refine ⟨⟨news.take (m * k), ?_, ?_⟩, h4⟩
 ·rw [List.length_take, Nat.min_eq_left hm]; exact h3
 ·rw [own_eq]
  exact (h2.take m).imp fun x _ cs hx => hR.move hx (h4.kp fun b _ hb => hb.2)
end

/-! ### The walk -/
def eqSets (a b : List Lb) : Bool := decide (cmpSets a b = 0)
def cmpctS (l : List (List Lb)) : List (List Lb) := compactB eqSets l
set_option maxHeartbeats 1000000 in
set_option maxRecDepth 100000 in
theorem compactLbs_c (base : Nat) (T : Nat → Prop) (l : List (List Lb)) (v : Value) (w : World) (hown : ROwn RLbs 1 22 base T w l v) (hlen : l.length ≤ 1000000000) :
  Calls Tryz.prog 144 #[v, .func (.func 145) #[] #[]] w fun e w' => ∃ A c, e = .returned (.slice A (cmpctS l).length c) ∧ ROwn RLbs 1 22 base T w' (cmpctS l) (.slice A (cmpctS l).length c) ∧ Bt (fun b => v.ownBlock = some b) w w' := by
 by_cases h2 : l.length < 2
 ·have hc : Hid (cmpctS l = l) := by
   show _ = _
   match l, h2 with
   | [], _ => rfl
   | [x], _ => rfl
  obtain ⟨A, c, rfl, _, _⟩ := (hown.sl RLbs.good (by decide)).val
  have HO := Lib.hid hown
  clear hown
  go_enter Tryz.func144, Tryz.ntmps144
  go_wp2_with fail
  go_ret
  rw [hc.out]
  exact ⟨A, c, rfl, HO.out, Bt.refl _ _⟩
 obtain ⟨g, cap, rfl⟩ : ∃ g cap, v = .slice (some ⟨g, 0, none⟩) l.length cap := by
  obtain ⟨news, h1, _⟩ := hown
  exact Joins.ownsRow_form h1 (by omega)
 have hcap : l.length ≤ cap ∧ cap ≤ 9223372036854775807 := by
  obtain ⟨A, c, he, h3, h4⟩ := (hown.sl RLbs.good (by decide)).val
  injection he with _ _ he
  exact ⟨by omega, by omega⟩
 have hZ : (fun b => (Value.slice (some ⟨g, 0, none⟩) l.length cap).ownBlock = some b) = fun b => b = g := by funext b; simp [Value.ownBlock, eq_comm]
 rw [hZ]
 have HO := Lib.hid hown
 clear hown hZ
 go_enter Tryz.func144, Tryz.ntmps144
 go_wp2_with fail
 go_loopw [5] (fun i wr => ∃ k : Nat, 1 ≤ k ∧ k ≤ l.length ∧ i = .int .i64 k ∧ Ext w wr ∧ Hid (cmpctS (l.take k) = l.take k)) (fun i _ => l.length - (intOf i).toNat)
 case atStart => exact ⟨1, Nat.le_refl _, by omega, rfl, Ext.refl _, by
  show _ = _
  cases l with
  | nil => simp at h2
  | cons x xs => simp [cmpctS, compactB, compGo]⟩
 case round =>
  obtain ⟨k, hk1, hk, rfl, hE, hf⟩ := hrel
  by_cases hlt : k < l.length
  ·have hO := HO.out.ext RLbs.good hE
   obtain ⟨u1, a1, r1, _⟩ := hO.get1 k hlt
   obtain ⟨u2, a2, r2, _⟩ := hO.get1 (k - 1) (by omega)
   have hs0 := fun X => same_c (fun _ => True) l[k] l[k - 1] u1 u2 (exto wr X) (RLbs.good.bel (RLbs.good.mono r1 fun _ _ _ => trivial) (exto_ext wr X)) (RLbs.good.bel (RLbs.good.mono r2 fun _ _ _ => trivial) (exto_ext wr X))
   obtain ⟨A1, c1, rfl, _, _⟩ := r1.val
   obtain ⟨A2, c2, rfl, _, _⟩ := r2.val
   have hst := compactB_take eqSets l k hk1 hlt
   have hk0 : (0 : Int) ≤ (k : Int) - 1 := by omega
   have hk2 : ((k : Int) - 1).toNat = k - 1 := by omega
   have hk3 : (k : Int) - 1 < (l.length : Int) := by omega
   by_cases he : eqSets l[k] l[k - 1] = true
   ·have hs : ∀ X, Calls Tryz.prog 145 #[.slice A1 l[k].length c1, .slice A2 l[k - 1].length c2] (exto wr X) fun e w' => e = .returned (.bool true) ∧ ExtD (exto wr X) w' := fun X => by have := hs0 X; rwa [show decide (cmpSets l[k] l[k - 1] = 0) = true from he] at this
    rw [if_pos he] at hst
    have HST := Lib.hid hst
    have HOr := Lib.hid hO
    clear hs0 hst hO r1 r2
    go_wp2_with fail
    (refine wp_region_ext (by kernel_rfl) (by kernel_rfl) ?_; (repeat (first | go_big_quiet_step ((go_at_call 145; exact quiet_extD (hs _))) | quiet_step ((go_at_call 145; exact quiet_extD (hs _))))); refine wpQuiet_nil ?_)
    intro w2 hx2
    have hO2 := Lib.hid (HOr.out.ext RLbs.good hx2)
    have hX2 := hE.trans' hx2
    clear hs hx2 HOr a1 a2
    go_wp2_with fail
    go_loopw [5, 7] (fun vi v2 wr' => ∃ d i : Nat, 1 ≤ d ∧ k + d ≤ l.length ∧ vi = .int .i64 (i : Nat) ∧ v2 = .int .i64 (d : Nat) ∧ i < k + d ∧ Hid ((compactB eqSets (l.take (k + d))).length = i ∧ ROwn RLbs 1 22 base T wr' (compY eqSets l (k + d)) (.slice (some ⟨g, 0, none⟩) l.length cap)) ∧ Bt (fun b => b = g) w wr') (fun _ v2 _ => l.length - k - (intOf v2).toNat)
    case atStart =>
     have hk' : compactB eqSets (l.take k) = l.take k := hf.out
     have hY : compY eqSets l (k + 1) = l := by rw [compY, HST.out, hk', List.length_take, Nat.min_eq_left hk, List.take_append_drop]
     refine ⟨1, k, Nat.le_refl _, by omega, rfl, rfl, by omega, ⟨by rw [HST.out, hk', List.length_take, Nat.min_eq_left hk], by rw [hY]; exact hO2.out⟩, hX2.bt⟩
    case round =>
     obtain ⟨d, i, hd1, hd, rfl, rfl, hi, hR, hB⟩ := hrel
     by_cases hlt2 : k + d < l.length
     ·have hlt3 : k + (d - 1) < l.length := by omega
      have hle3 : 1 ≤ k + d := by omega
      have hlt4 : i < l.length := by omega
      obtain ⟨hci, hO3⟩ := hR.out
      obtain ⟨u1, a1, r1, _⟩ := hO3.get1 (k + d) (by rw [compY_len]; exact hlt2)
      obtain ⟨u2, a2, r2, _⟩ := hO3.get1 (k + (d - 1)) (by rw [compY_len]; omega)
      rw [compY_at eqSets l (k + d) (k + d) (by omega) hlt2] at r1
      rw [compY_at eqSets l (k + d) (k + (d - 1)) (by omega) hlt3] at r2
      have hs0 := fun X => same_c (fun _ => True) l[k + d] l[k + (d - 1)] u1 u2 (exto wr X) (RLbs.good.bel (RLbs.good.mono r1 fun _ _ _ => trivial) (exto_ext wr X)) (RLbs.good.bel (RLbs.good.mono r2 fun _ _ _ => trivial) (exto_ext wr X))
      have hix : eqSets l[k + d] l[k + (d - 1)] = eqSets l[k + d] (l[k + d - 1]'(by omega)) := by
       have hx : k + (d - 1) = k + d - 1 := by omega
       simp only [hx]
      have hsm := fun h => compY_same eqSets l (k + d) hle3 hlt2 h
      have hpt := fun h => compY_put eqSets l (k + d) hle3 hlt2 h (by rw [hci]; exact hlt4)
      rw [← hix] at hsm hpt
      obtain ⟨A3, c3, rfl, _, _⟩ := r1.val
      obtain ⟨A4, c4, rfl, _, _⟩ := r2.val
      have hd0 : (0 : Int) ≤ (d : Int) - 1 := by omega
      have hd2 : ((d : Int) - 1).toNat = d - 1 := by omega
      by_cases he2 : eqSets l[k + d] l[k + (d - 1)] = true
      ·have hs : ∀ X, Calls Tryz.prog 145 #[.slice A3 l[k + d].length c3, .slice A4 l[k + (d - 1)].length c4] (exto wr X) fun e w' => e = .returned (.bool true) ∧ ExtD (exto wr X) w' := fun X => by have := hs0 X; rwa [show decide (cmpSets l[k + d] l[k + (d - 1)] = 0) = true from he2] at this
       have hsame := Lib.hid (hsm he2)
       have HO3 := Lib.hid hO3
       have HCI := Lib.hid hci
       clear hs0 hO3 r1 r2 hsm hpt hix hci hR
       go_wp2_with fail
       (refine wp_region_ext (by kernel_rfl) (by kernel_rfl) ?_; (repeat (first | go_big_quiet_step ((go_at_call 145; exact quiet_extD (hs _))) | quiet_step ((go_at_call 145; exact quiet_extD (hs _))))); refine wpQuiet_nil ?_)
       intro w5 hx5
       go_wp2_with fail
       go_roundw
       case rel =>
        refine ⟨d + 1, i, by omega, by omega, rfl, by go_num, by omega, ⟨?_, ?_⟩, hB.ext hx5⟩
        ·rw [show k + (d + 1) = k + d + 1 from by omega, hsame.out.2]; exact HCI.out
        ·rw [show k + (d + 1) = k + d + 1 from by omega, hsame.out.1]; exact HO3.out.ext RLbs.good hx5
       case measure => simp [intOf]; omega
      ·have hs : ∀ X, Calls Tryz.prog 145 #[.slice A3 l[k + d].length c3, .slice A4 l[k + (d - 1)].length c4] (exto wr X) fun e w' => e = .returned (.bool false) ∧ ExtD (exto wr X) w' := fun X => by have := hs0 X; rwa [show decide (cmpSets l[k + d] l[k + (d - 1)] = 0) = false from eq_false_of_ne_true he2] at this
       have hput := Lib.hid (hpt (eq_false_of_ne_true he2))
       obtain ⟨u6, b6, _, f6⟩ := hO3.get1 i (by rw [compY_len]; omega)
       have HO3 := Lib.hid hO3
       have HCI := Lib.hid hci
       have HR1 := Lib.hid r1
       clear hs0 hO3 r1 r2 hsm hpt hix hci hR
       go_wp2_with fail
       (refine wp_region_ext (by kernel_rfl) (by kernel_rfl) ?_; (repeat (first | go_big_quiet_step ((go_at_call 145; exact quiet_extD (hs _))) | quiet_step ((go_at_call 145; exact quiet_extD (hs _))))); refine wpQuiet_nil ?_)
       intro w5 hx5
       have a5 := Ext.keep hx5 a1
       have b5 := Ext.keep hx5 b6
       have f5 := ext_fz hx5 (World.block_lt_of_cell? _ _ b6) f6
       clear a1 a2 b6 f6 hs
       go_wp2_with fail
       go_roundw
       case rel =>
        have hput2 := ROwn.put1 RLbs.good (HO3.out.ext RLbs.good hx5) (by rw [compY_len]) i (.slice A3 l[k + d].length c3) l[k + d] (by rw [compY_len]; omega) (RLbs.good.bel HR1.out hx5)
        refine ⟨d + 1, i + 1, by omega, by omega, by go_num, by go_num, by omega, ⟨?_, ?_⟩, (hB.ext hx5).set (.inr rfl) _⟩
        ·rw [show k + (d + 1) = k + d + 1 from by omega, hput.out.2, List.length_append, HCI.out]; rfl
        ·rw [show k + (d + 1) = k + d + 1 from by omega, hput.out.1, HCI.out]; exact hput2
       case measure => simp [intOf]; omega
     ·obtain ⟨hci, hO3⟩ := hR.out
      have hkd : k + d = l.length := by omega
      rw [hkd, List.take_length] at hci
      rw [hkd] at hO3
      have hi3 : i < l.length := by omega
      have hcl := Lib.run_clear_slice (P := Tryz.prog) wr 30 22 0 (.slice none 0 0) Tryz.underlying30 (fun _ => by kernel_rfl) rfl rfl g i (l.length - i) (cap - i) (by omega) (fun j hj => by
       obtain ⟨u, h1, _⟩ := hO3.get1 (i + j) (by rw [compY_len]; omega)
       rw [h1]; rfl) (fun j hj => by
       obtain ⟨u, _, _, h1⟩ := hO3.get1 (i + j) (by rw [compY_len]; omega)
       exact h1)
      have hcut := Lib.hid (hO3.cut RLbs.good (by rw [compY_len]) i (by omega) (List.replicate (l.length - i) (.slice none 0 0)) i (by omega))
      have hres : Hid (cmpctS l = (compY eqSets l l.length).take i) := by
       show compactB eqSets l = _
       rw [compY, List.take_length, List.take_append_of_le_length (by omega), ← hci, List.take_length]
      have HCI := Lib.hid hci
      clear hO3 hci hR
      go_wp2_with fail
      go_ret
      have hln : (cmpctS l).length = i := HCI.out
      refine ⟨some ⟨g, 0, none⟩, cap, by rw [hln]; rfl, ?_, hB.trans hcut.out.2⟩
      rw [hln, hres.out]
      exact hcut.out.1
   ·have hs : ∀ X, Calls Tryz.prog 145 #[.slice A1 l[k].length c1, .slice A2 l[k - 1].length c2] (exto wr X) fun e w' => e = .returned (.bool false) ∧ ExtD (exto wr X) w' := fun X => by have := hs0 X; rwa [show decide (cmpSets l[k] l[k - 1] = 0) = false from eq_false_of_ne_true he] at this
    rw [if_neg he] at hst
    have HST := Lib.hid hst
    clear hs0 hst hO r1 r2
    go_wp2_with fail
    (refine wp_region_ext (by kernel_rfl) (by kernel_rfl) ?_; (repeat (first | go_big_quiet_step ((go_at_call 145; exact quiet_extD (hs _))) | quiet_step ((go_at_call 145; exact quiet_extD (hs _))))); refine wpQuiet_nil ?_)
    intro w2 hx2
    go_wp2_with fail
    go_roundw
    case rel =>
     refine ⟨k + 1, by omega, by omega, by go_num, bel, ?_⟩
     show compactB eqSets _ = _
     rw [HST.out, show compactB eqSets (l.take k) = l.take k from hf.out, List.take_succ_eq_append_getElem hlt]
    case measure => simp [intOf]; omega
  ·have hkk : Hid (cmpctS l = l) := by
    show _ = _
    have := hf.out
    rwa [List.take_of_length_le (by omega)] at this
   go_wp2_with fail
   go_ret
   rw [hkk.out]
   exact ⟨some ⟨g, 0, none⟩, cap, rfl, HO.out.ext RLbs.good hE, hE.bt⟩
end
end Go.Proofs.YtegenalcheooeaaGreat
