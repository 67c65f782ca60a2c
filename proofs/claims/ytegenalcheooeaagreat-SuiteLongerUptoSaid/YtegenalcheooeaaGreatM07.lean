/- Of the proof of a law of the suites: SortI, Steps, Marks, CalmW, Rng, Least, LSlice. -/
import Derived.Test.YtegenalcheooeaaGreatM04
import Derived.Test.YtegenalcheooeaaGreatM06
import Derived.Test.YtegenalcheooeaaGreatLaid
import Derived.Shelf.Lay
import Derived.Shelf.Sort.Plain
import Derived.Shelf.Slices.In.SortNone
import Derived.Ground.Names2Prog
import Derived.Sort.OwnSortedInts
import Derived.RangeFuncNested
import Derived.RangeFuncBound
import Derived.RangeFuncCalls
import Derived.RangeFuncLeaves
import Derived.Shelf.Abstract
import Derived.Shelf.RegionOpen
import Derived.WalkKit
import Derived.OwnWalkIn
import Derived.TacticsInMore
import Derived.LoopNIn
import Derived.LoopIn
import Derived.Sort.WalkA
import Derived.Sort.LotA
import Derived.Lib.ReflectliteSwap
import Derived.Laws.Externs
/- slices.Sort at whole numbers. -/
set_option linter.unusedSectionVars false
set_option linter.unusedSimpArgs false
set_option linter.unusedVariables false
namespace Go.Proofs.YtegenalcheooeaaGreat
open Go.RowKit
attribute [local go_sem] cell?_exto
open Go.Shelf Go.Sort

def insI (x : Int) : List Int → List Int
  | [] => [x]
  | y :: ys => if x ≤ y then x :: y :: ys else y :: insI x ys
def sortI : List Int → List Int
  | [] => []
  | x :: xs => insI x (sortI xs)
theorem insI_perm (x : Int) : ∀ l : List Int, (insI x l).Perm (x :: l)
  | [] => List.Perm.refl _
  | y :: ys => by
    rw [insI]
    split
    · exact List.Perm.refl _
    · exact ((insI_perm x ys).cons y).trans (List.Perm.swap x y ys)
theorem sortI_perm : ∀ xs : List Int, (sortI xs).Perm xs
  | [] => List.Perm.refl _
  | x :: xs => (insI_perm x (sortI xs)).trans ((sortI_perm xs).cons x)
theorem insI_sorted (x : Int) : ∀ l : List Int, l.Pairwise (· ≤ ·) → (insI x l).Pairwise (· ≤ ·)
  | [], _ => List.pairwise_singleton _ _
  | y :: ys, h => by
    rw [insI]
    have h' := List.pairwise_cons.1 h
    split
    · rename_i hx
      exact List.pairwise_cons.2 ⟨fun z hz => (List.mem_cons.1 hz).elim (fun e => e ▸ hx) fun hz => Int.le_trans hx (h'.1 z hz), h⟩
    · rename_i hx
      refine List.pairwise_cons.2 ⟨fun z hz => ?_, insI_sorted x ys h'.2⟩
      rcases List.mem_cons.1 ((insI_perm x ys).mem_iff.1 hz) with rfl | hz
      · omega
      · exact h'.1 z hz
theorem sortI_sorted : ∀ xs : List Int, (sortI xs).Pairwise (· ≤ ·)
  | [] => List.Pairwise.nil
  | x :: xs => insI_sorted x _ (sortI_sorted xs)
theorem sortI_eq (xs : List Int) : sortI xs = xs.mergeSort fun x y => decide (x ≤ y) := by
  have h := List.pairwise_mergeSort (le := fun x y : Int => decide (x ≤ y)) (fun a b c h1 h2 => by simp at *; omega) (fun a b => by simp; omega) xs
  exact List.Perm.eq_of_pairwise (le := (· ≤ ·)) (fun a b _ _ h1 h2 => Int.le_antisymm h1 h2) (sortI_sorted xs) (h.imp fun {a b} h => by simpa using h) ((sortI_perm xs).trans (List.mergeSort_perm _ _).symm)
theorem sortI_len (xs : List Int) : (sortI xs).length = xs.length := (sortI_perm xs).length_eq
theorem sortI_mem (xs : List Int) (x : Int) : x ∈ sortI xs ↔ x ∈ xs := (sortI_perm xs).mem_iff

theorem Flat.ints {S : Nat → Prop} {w : World} : ∀ {xs : List Int} {cs : List Value}, Flat RInt 1 S w xs cs → cs = xs.map (Value.int .i64) ∧ ∀ x ∈ xs, I64 x
  | [], cs, h => ⟨h, by simp⟩
  | x :: xs, cs, ⟨c1, c2, h1, h2, h3, h4⟩ => by
    obtain ⟨rfl, hx⟩ := h3
    obtain ⟨rfl, hi⟩ := h4.ints
    exact ⟨h1, fun y hy => (List.mem_cons.1 hy).elim (fun e => e ▸ hx) (hi y)⟩
theorem Flat.of_ints {S : Nat → Prop} {w : World} : ∀ {xs : List Int}, (∀ x ∈ xs, I64 x) → Flat RInt 1 S w xs (xs.map (Value.int .i64))
  | [], _ => rfl
  | x :: xs, h => ⟨[.int .i64 x], _, rfl, rfl, ⟨rfl, h x (by simp)⟩, Flat.of_ints fun y hy => h y (by simp [hy])⟩

/-- slices.Sort of a row of one's own. -/
theorem sort_own (base : Nat) (T : Nat → Prop) (xs : List Int) (v : Value) (w : World) (hx : ROwn RInt 1 3 base T w xs v) (hsz : xs.length < 4611686018427387904) :
    Calls Tryz.prog 59 #[v] w fun e w' => e = .returned (.tuple #[]) ∧ ROwn RInt 1 3 base T w' (sortI xs) v ∧ Bt (fun b => v.ownBlock = some b) w w' := by
  obtain ⟨news, ⟨h1, h2⟩, h3⟩ := hx
  obtain ⟨rfl, hi⟩ := h3.ints
  rcases h2 with ⟨rfl, h2⟩ | ⟨g, cap, cur, rfl, hb, hh, hc, hm, hs, ht⟩
  · have : xs = [] := List.length_eq_zero_iff.1 h2
    subst this
    refine (Any.slices_Sort_int_none Tryz.lays189 none 0 w).mono ?_
    rintro e w' ⟨rfl, rfl⟩
    exact ⟨rfl, (ROwn.nil ..), Bt.refl _ _⟩
  · have ht' : cur.toList.take xs.length = xs.map (Value.int .i64) := by rw [← ht, Nat.mul_one]
    refine (Any.slices_Sort_int Tryz.lays189 g 0 cap xs w (holds_of_blockI hh ht') (Array.getElem?_eq_some_iff.1 hh).1 hsz).mono ?_
    rintro e w' ⟨rfl, n, os, rfl⟩
    rw [sortI_eq]
    refine ⟨rfl, ⟨(xs.mergeSort fun x y => decide (x ≤ y)).map (Value.int .i64), ?_, Flat.of_ints fun x hx => hi x (List.mem_mergeSort.1 hx)⟩, (Bt.of_grown (grownBy_sortedI _)).mono fun k _ hk => by cases hk; rfl⟩
    have := ownsRow_sortedI (n := n) (os := os) (ts := xs.mergeSort fun x y => decide (x ≤ y)) (List.length_mergeSort xs) hb hh hc hm hs
    rw [List.length_mergeSort]
    exact this
end Go.Proofs.YtegenalcheooeaaGreat

/- suite.steps: the edges of a state, as an iterator. -/
set_option linter.unusedSectionVars false
set_option linter.unusedSimpArgs false
set_option linter.unusedVariables false
namespace Go.Proofs.YtegenalcheooeaaGreat
open Go.RowKit
attribute [local go_sem] cell?_exto
open Go.Shelf
attribute [local go_sem] Oper.semAt_some

/-- The edges that leave a state, as indices. -/
def outN (es : List Ed) (n : Int) : List (Fin es.length) := (List.finRange es.length).filter fun i => decide (es[i].f = n)
theorem outFrom_range (n : Int) : ∀ (es : List Ed) (i : Nat), outFrom i es n = ((List.finRange es.length).filter fun j => decide (es[j].f = n)).map fun j => ((i + j.1 : Nat) : Int)
  | [], i => by simp [outFrom]
  | e :: es, i => by
    rw [outFrom, outFrom_range n es (i + 1)]
    have : List.finRange (e :: es).length = 0 :: (List.finRange es.length).map Fin.succ := List.finRange_succ (n := es.length)
    rw [this, List.filter_cons, List.filter_map]
    have hm : ∀ l : List (Fin es.length), (l.map Fin.succ).map (fun j : Fin (es.length + 1) => ((i + j.1 : Nat) : Int)) = l.map fun j => ((i + 1 + j.1 : Nat) : Int) := fun l => by
      rw [List.map_map]
      apply List.map_congr_left
      intro j _
      simp only [Function.comp, Fin.val_succ]
      congr 1
      omega
    by_cases he : e.f = n
    · rw [if_pos he, if_pos (by simp [he]), List.map_cons]
      congr 1
      exact (hm _).symm
    · rw [if_neg he, if_neg (by simp [he])]
      exact (hm _).symm
theorem outIx_outN (es : List Ed) (n : Int) : outIx es n = (outN es n).map fun j => ((j.1 : Nat) : Int) := by
  rw [outIx, outFrom_range, outN]
  simp

/-- What a round is handed. -/
def edArgs (es : List Ed) (i : Fin es.length) : Array Value := #[.int .i64 (i.1 : Int), .agg #[.int .i64 es[i].f, .int .i64 es[i].l, .int .i64 es[i].t]]

set_option maxHeartbeats 1000000 in
set_option maxRecDepth 100000 in
theorem steps1_in (n : Nat) (hn : 1 ≤ n) (Z : Nat → Prop) (s : Sy) (g Bs Bst l : Nat) (state : Int) (hZ : Z Bs) (J Jx : List (Fin s.es.length) → World → Prop)
    (hY : ∀ pre x W, J pre W → pre.length < (outN s.es state).length → YieldAt Fence.wide (n - 1) Tryz.prog l (edArgs s.es x) W fun e W' =>
      (e = .returned (.bool true) ∧ J (pre ++ [x]) W' ∧ Kp Z W W') ∨ (e = .returned (.bool false) ∧ Jx (pre ++ [x]) W'))
    (W : World) (hJ : ∀ W', J [] W → Ext W W' → J [] W') (hS : IsSys Z W g s) (hBs : W.cell? ⟨Bs, 0, none⟩ = some (.pointer (some ⟨g, 0, none⟩))) (hBst : W.cell? ⟨Bst, 0, none⟩ = some (.int .i64 state)) (h0 : J [] W) :
    CallsIn Fence.wide n Tryz.prog 234 #[.func (.yield l) #[] #[], .pointer (some ⟨Bs, 0, none⟩), .pointer (some ⟨Bst, 0, none⟩)] W fun e W' => (∃ v, e = .returned v) ∧
      ((∃ ys, ys = outN s.es state ∧ J ys W') ∨ (∃ pre, pre <+: outN s.es state ∧ Jx pre W')) := by
  obtain ⟨v, u, m, f, hg, hL, hE, hZg, hZm, hM, hno, hrow⟩ := hS.ex
  obtain ⟨A', c', rfl, hc', hc0'⟩ := hE.val
  -- what the map holds there
  obtain ⟨rv, hlk, hrv⟩ : ∃ rv, (f state).getD (.slice none 0 0) = rv ∧ RSl RInt 1 Z W (outIx s.es state) [rv] := by
    cases hf : f state with
    | none => exact ⟨_, rfl, by rw [hno state hf]; exact ⟨none, 0, rfl, Nat.le_refl _, by omega, .inl rfl⟩⟩
    | some x => exact ⟨x, rfl, hrow state x hf⟩
  obtain ⟨Ar, cr, rfl, hcr, hcr0⟩ := hrv.val
  have hlook := fun W' (hW : W'.heap[m]? = W.heap[m]?) => (hM.move (W' := W') hW).lookup (P := Tryz.prog) Tryz.underlying182 keyInt (z := .slice none 0 0) (by kernel_rfl) state
  simp only [hlk] at hlook
  have g3 : W.cell? ⟨g, 3, none⟩ = some (.map (some m)) := cell_of_row W _ 3 _ _ _ hg
  have HY := Lib.hid hY
  have HS := Lib.hid hS
  have HE := Lib.hid hE
  have HR := Lib.hid hrv
  have HG := Lib.hid hg
  have hlx := fun x => hlook (exto W x) ((exto_ext W x).block m hM.lt)
  have HLK := Lib.hid hlook
  clear hY hS hE hrv hg hL hM hno hrow hlook hlk
  refine callsIn_of_wp Tryz.func234 rfl trivial ?_ rfl
  simp only [Tryz.ntmps234, List.size_toArray, List.length_cons, List.length_nil, Nat.reduceAdd, Nat.reduceSub, Array.replicate_succ, Array.replicate_zero, List.push_toArray, List.append_toArray, List.nil_append, List.cons_append]
  gi_wp2
  refine wpIn_wide.2 ?_
  (refine wp_region_ext (by kernel_rfl) (by kernel_rfl) ?_; (repeat (first | go_big_quiet_step ((fail)) | quiet_step ((fail)))); refine wpQuiet_nil ?_)
  intro w1 hx1
  have h01 := hJ w1 h0 hx1
  have hlen : Hid ((outIx s.es state).length = (outN s.es state).length) := by show _ = _; rw [outIx_outN, List.length_map]
  have hE1 := Lib.hid (REds.good.bel HE.out hx1)
  have hR1 := Lib.hid ((RSl.good RInt.good).bel HR.out hx1)
  have hS1 := Lib.hid (HS.out.bel hx1)
  have hG1 := Lib.hid ((Ext.kp (S := fun _ => True) hx1).block g (Array.getElem?_eq_some_iff.1 HG.out).1 trivial |>.trans HG.out)
  have hb1 : w1.cell? ⟨Bs, 0, none⟩ = some (.pointer (some ⟨g, 0, none⟩)) := Ext.keep hx1 hBs
  clear hx1 hBs hBst g3 hlx HLK HG HS HE HR h0 hJ
  gi_wp2
  gi_loopw [13] (fun i wr => ∃ k : Nat, k ≤ (outIx s.es state).length ∧ i = .int .i64 k ∧ J ((outN s.es state).take k) wr ∧ Kp Z w1 wr) (fun i _ => (outIx s.es state).length - (intOf i).toNat)
  case atStart => exact ⟨0, Nat.zero_le _, rfl, by simpa using h01, Kp.refl _ _⟩
  case round =>
    obtain ⟨k, hk, rfl, hJs, hK⟩ := hrel
    by_cases hlt : k < (outIx s.es state).length
    · have hlt2 : k < (outN s.es state).length := by have := hlen.out; omega
      obtain ⟨b, off, cs, rfl, hb, hZb, hl, hr, hcell⟩ := ((RSl.good RInt.good).move hR1.out hK).get k hlt
      obtain rfl := hr.1
      have hix : (outIx s.es state)[k] = (((outN s.es state)[k].1 : Nat) : Int) := by simp only [outIx_outN, List.getElem_map]
      have g0 : wr.cell? ⟨b, off + k, none⟩ = some (.int .i64 (((outN s.es state)[k].1 : Nat) : Int)) := by rw [← hix]; simpa using hcell.get 0 _
      obtain ⟨⟨xi, hxl⟩, hx⟩ : ∃ x, x = (outN s.es state)[k] := ⟨_, rfl⟩
      rw [← hx] at g0
      replace g0 : wr.cell? ⟨b, off + k, none⟩ = some (.int .i64 (xi : Int)) := g0
      obtain ⟨b2, off2, cs2, rfl, hb2, hZ2, hl2, hr2, hcell2⟩ := (REds.good.move hE1.out hK).get xi hxl
      obtain ⟨i1, i2, i3, rfl⟩ := id hr2
      have q0 : wr.cell? ⟨b2, off2 + xi * 3, none⟩ = some (.int .i64 s.es[xi].f) := by simpa using hcell2.get 0 _
      have q1 := hcell2.get 1 _
      have q2 := hcell2.get 2 _
      have hgw := hK.block g (Array.getElem?_eq_some_iff.1 hG1.out).1 hZg |>.trans hG1.out
      have p2 : wr.cell? ⟨g, 2, none⟩ = some (.slice (some ⟨b2, off2, none⟩) s.es.length c') := cell_of_row wr _ 2 _ _ _ hgw
      have pb : wr.cell? ⟨Bs, 0, none⟩ = some (.pointer (some ⟨g, 0, none⟩)) := (World.cell?_of_block (a := ⟨Bs, 0, none⟩) (hK.block Bs (World.block_lt_of_cell? w1 _ hb1) hZ)).trans hb1
      obtain ⟨fn, tmps, assign, body, hy, hRd⟩ := HY.out _ ⟨xi, hxl⟩ wr hJs (by rw [List.length_take]; omega)
      unfold edArgs at hy
      simp only [Fin.getElem_fin] at hy
      have htk : (outN s.es state).take k ++ [⟨xi, hxl⟩] = (outN s.es state).take (k + 1) := by rw [hx]; exact (List.take_succ_eq_append_getElem hlt2).symm
      rw [htk] at hRd
      clear hcell hcell2 hr hr2 hl hl2 hgw hJs hix htk
      gi_wp2
      refine hRd.mono ?_
      rintro e W3 (⟨rfl, hJ3, hk3⟩ | ⟨rfl, hJx3⟩)
      · gi_wp2
        go_roundw
        case rel => exact ⟨k + 1, by omega, by go_num, hJ3, hK.trans hk3⟩
        case measure => simp [intOf]; omega
      · gi_wp2
        refine bodyPost_ret (results_none rfl _ _ _) rfl ?_
        exact ⟨⟨_, rfl⟩, .inr ⟨_, List.take_prefix _ _, hJx3⟩⟩
    · have hke : Hid (k = (outN s.es state).length) := by have := hlen.out; show _ = _; omega
      gi_wp2
      go_end0
      refine ⟨⟨_, rfl⟩, .inl ⟨_, rfl, ?_⟩⟩
      rwa [hke.out, List.take_length] at hJs

set_option maxHeartbeats 1000000 in
set_option maxRecDepth 100000 in
theorem steps_in (n : Nat) (p : Option Addr) (state : Int) (w : World) :
    CallsIn Fence.wide n Tryz.prog 175 #[.pointer p, .int .i64 state] w fun e w' => e = .returned (.func (.func 234) #[] #[.pointer (some ⟨w.heap.size, 0, none⟩), .pointer (some ⟨w.heap.size + 1, 0, none⟩)]) ∧
      w' = (w.alloc (.cells #[.pointer p] 111)).alloc (.cells #[.int .i64 state] 3) := by
  refine callsIn_wide.2 ?_
  go_enter Tryz.func175, Tryz.ntmps175
  go_wp2_with fail
  go_ret
  exact ⟨rfl, rfl⟩

/-- The iterator's contract; Z: what a round keeps. -/
theorem steps_stops (n : Nat) (hn : 1 ≤ n) (Z : Nat → Prop) (s : Sy) (g Bs Bst : Nat) (state : Int) (hZ : Z Bs) (w : World) (hS : IsSys Z w g s) (hBs : w.cell? ⟨Bs, 0, none⟩ = some (.pointer (some ⟨g, 0, none⟩))) (hBst : w.cell? ⟨Bst, 0, none⟩ = some (.int .i64 state)) :
    SeqStopsK Fence.wide n Tryz.prog 234 #[.pointer (some ⟨Bs, 0, none⟩), .pointer (some ⟨Bst, 0, none⟩)] (edArgs s.es) (Kp Z) (fun ys => ys = outN s.es state) (fun pre => pre <+: outN s.es state) (outN s.es state).length w := fun l J Jx W hW hJ hJx hY h0 =>
  steps1_in n hn Z s g Bs Bst l state hZ J Jx hY W (fun W' h he => hJ [] W W' none h ⟨he.os, he.tape, he.output, he.size, fun k hk _ => (Ext.kp (S := fun _ => True) he).block k hk trivial⟩ (fun r e => by cases e)) (hS.bel hW) (Ext.keep hW hBs) (Ext.keep hW hBst) h0
theorem kp_t {Z : Nat → Prop} {A B C : World} (h : Kp Z A B) (k : Kp Z B C) : Kp Z A C := h.trans k
theorem kp_b {Z : Nat → Prop} {w : World} (hZ : ∀ k, Z k → k < w.heap.size) (W : World) (l : Nat) (o o' : Obj) (hl : w.heap.size ≤ l) (h : W.heap[l]? = some o) (_ : o.isCells = false) (_ : o.isWalk = false) : Kp Z W (W.putObj l o') :=
  ⟨by simp, fun k hk hz => World.putObj_heap_other (fun e => by have := hZ k hz; omega)⟩
end Go.Proofs.YtegenalcheooeaaGreat

/- A function that comes to a range over a function many times (in a loop): the marks among its deferred calls. -/
set_option linter.unusedSectionVars false
set_option linter.unusedSimpArgs false
set_option linter.unusedVariables false
namespace Go.Proofs.YtegenalcheooeaaGreat
open Go.RowKit
attribute [local go_sem] cell?_exto
open Go.Shelf

/-- The marks of the loops that are over: each at an empty block of its own, from base on. -/
structure Marks (base : Nat) (ds : List Deferred) (w : World) : Prop where
  all : ∀ d ∈ ds, ∃ r, d = { target := .collected r, args := #[] } ∧ base ≤ r ∧ w.heap[r]? = some (.deferred (some []))
  apart : ds.Nodup
theorem Marks.nil (base : Nat) (w : World) : Marks base [] w := ⟨by simp, List.nodup_nil⟩
/-- One more: it was laid since. -/
theorem Marks.cons {base : Nat} {ds : List Deferred} {w w' : World} (h : Marks base ds w) {D : Nat} (hD : w.heap.size ≤ D) (hb : base ≤ D) (hd : w'.heap[D]? = some (.deferred (some [])))
    (hk : ∀ r, r < w.heap.size → w.heap[r]? = some (.deferred (some [])) → w'.heap[r]? = some (.deferred (some []))) : Marks base ({ target := .collected D, args := #[] } :: ds) w' := {
  all d hm := by
    rcases List.mem_cons.1 hm with rfl | hm
    · exact ⟨D, rfl, hb, hd⟩
    · obtain ⟨r, e, h1, h2⟩ := h.all d hm
      exact ⟨r, e, h1, hk r (Array.getElem?_eq_some_iff.1 h2).1 h2⟩
  apart := by
    rw [List.nodup_cons]
    refine ⟨fun hm => ?_, h.apart⟩
    obtain ⟨r, e, h1, h2⟩ := h.all _ hm
    have : D = r := by simpa using e
    have := (Array.getElem?_eq_some_iff.1 h2).1
    omega }
theorem Marks.keep {base : Nat} {ds : List Deferred} {w w' : World} (h : Marks base ds w) (hk : ∀ r, base ≤ r → w.heap[r]? = some (.deferred (some [])) → w'.heap[r]? = some (.deferred (some []))) : Marks base ds w' :=
  ⟨fun d hm => by obtain ⟨r, e, h1, h2⟩ := h.all d hm; exact ⟨r, e, h1, hk r h1 h2⟩, h.apart⟩
/-- On the way out the marks are taken up. -/
theorem Marks.leave {F : Fence} {n : Nat} {P : Program} {fn : Func} {tmps : Array Value} {R : Ending → World → Prop} {u : FrameMode} (hu : u ≠ .run) {base : Nat} : ∀ {ds : List Deferred} {w : World}, Marks base ds w →
    (∀ w', Bt (fun k => base ≤ k ∧ w.heap[k]? = some (.deferred (some []))) w w' → LeavesIn F n P fn tmps R [] u w') → LeavesInM F n P fn tmps R ds u w
  | [], w, _, h => h w (Bt.refl _ _)
  | d :: ds, w, hM, h => by
    obtain ⟨r, rfl, hb, hr⟩ := hM.all d (by simp)
    refine ⟨hu, .inl ⟨r, _, rfl, run_takeDeferred hr, ?_⟩⟩
    have hn := (List.nodup_cons.1 hM.apart).1
    have hM' : Marks base ds (w.putObj r (.deferred none)) := ⟨fun d' hm => by
      obtain ⟨r', e, h1, h2⟩ := hM.all d' (by simp [hm])
      have : r' ≠ r := fun e' => hn (by subst e'; rw [← e]; exact hm)
      exact ⟨r', e, h1, (World.putObj_heap_other (fun e => this (by omega))).trans h2⟩, (List.nodup_cons.1 hM.apart).2⟩
    have hput : Bt (fun k => base ≤ k ∧ w.heap[k]? = some (.deferred (some []))) w (w.putObj r (.deferred none)) := ⟨rfl, rfl, rfl, by simp, fun k _ hk => World.putObj_heap_other (fun e => hk (by subst e; exact ⟨hb, hr⟩))⟩
    refine Marks.leave hu hM' fun w' hw' => h w' (hput.trans (hw'.mono fun k _ hk => ?_))
    refine ⟨hk.1, ?_⟩
    by_cases e : k = r
    · rw [e]; exact hr
    · rw [← World.putObj_heap_other (w := w) (o := .deferred none) (r := r) (k := k) e]
      exact hk.2
end Go.Proofs.YtegenalcheooeaaGreat

/- suite.calm in plain words: what the worklist comes to. -/
set_option linter.unusedSectionVars false
set_option linter.unusedSimpArgs false
set_option linter.unusedVariables false
namespace Go.Proofs.YtegenalcheooeaaGreat
open Go.RowKit
attribute [local go_sem] cell?_exto

/-- The label of an edge (of a system that is one). -/
def gateOf (s : Sy) (l : Int) : Int := ((s.ls[l.toNat]?).map (·.g)).getD 0
/-- One edge of the worklist's state. -/
def calmAdd (s : Sy) (l : List Int) (e : Ed) : List Int := if gateOf s e.l = -1 ∧ e.t ∉ l then l ++ [e.t] else l
def calmRow (s : Sy) (is : List (Fin s.es.length)) (l : List Int) : List Int := is.foldl (fun l i => calmAdd s l s.es[i]) l
def calmGo (s : Sy) : Nat → Nat → List Int → List Int
  | 0, _, l => l
  | f + 1, i, l => if h : i < l.length then calmGo s f (i + 1) (calmRow s (outN s.es l[i]) l) else l
/-- How much can still come. -/
def calmPot (s : Sy) (l : List Int) : Nat := (s.es.filter fun e => decide (e.t ∉ l)).length
theorem filter_le_of {α : Type} (p q : α → Bool) (h : ∀ x, p x = true → q x = true) : ∀ l : List α, (l.filter p).length ≤ (l.filter q).length
  | [] => by simp
  | x :: l => by
    have := filter_le_of p q h l
    rw [List.filter_cons, List.filter_cons]
    by_cases hp : p x = true
    · rw [if_pos hp, if_pos (h x hp)]; simpa using this
    · rw [if_neg hp]
      split
      · simp only [List.length_cons]; omega
      · exact this
theorem filter_lt_of {α : Type} (p q : α → Bool) (h : ∀ x, p x = true → q x = true) : ∀ (l : List α) (y : α), y ∈ l → p y = false → q y = true → (l.filter p).length < (l.filter q).length
  | x :: l, y, hy, hp, hq => by
    rw [List.filter_cons, List.filter_cons]
    rcases List.mem_cons.1 hy with rfl | hy
    · rw [if_neg (by simp [hp]), if_pos hq, List.length_cons]
      exact Nat.lt_succ_of_le (filter_le_of p q h l)
    · have := filter_lt_of p q h l y hy hp hq
      by_cases hx : p x = true
      · rw [if_pos hx, if_pos (h x hx)]; simpa using this
      · rw [if_neg hx]
        split
        · simp only [List.length_cons]; omega
        · exact this
theorem calmAdd_pot (s : Sy) (l : List Int) (e : Ed) (he : e ∈ s.es) : (calmAdd s l e).length + calmPot s (calmAdd s l e) ≤ l.length + calmPot s l ∧ l.length ≤ (calmAdd s l e).length := by
  unfold calmAdd
  split
  · rename_i h
    have := filter_lt_of (fun x : Ed => decide (x.t ∉ l ++ [e.t])) (fun x : Ed => decide (x.t ∉ l)) (fun x hx => by
      simp only [List.mem_append, not_or, decide_eq_true_eq] at hx ⊢; exact hx.1) s.es e he (by simp) (by simpa using h.2)
    simp only [calmPot, List.length_append, List.length_cons, List.length_nil] at this ⊢
    omega
  · exact ⟨Nat.le_refl _, Nat.le_refl _⟩
theorem calmRow_pot (s : Sy) : ∀ (is : List (Fin s.es.length)) (l : List Int), (calmRow s is l).length + calmPot s (calmRow s is l) ≤ l.length + calmPot s l ∧ l.length ≤ (calmRow s is l).length
  | [], l => ⟨Nat.le_refl _, Nat.le_refl _⟩
  | i :: is, l => by
    have h1 := calmAdd_pot s l s.es[i] (List.getElem_mem _)
    have h2 := calmRow_pot s is (calmAdd s l s.es[i])
    exact ⟨Nat.le_trans h2.1 h1.1, Nat.le_trans h1.2 h2.2⟩
/-- More fuel changes nothing. -/
theorem calmGo_fuel (s : Sy) : ∀ (f f' i : Nat) (l : List Int), l.length + calmPot s l ≤ i + f → l.length + calmPot s l ≤ i + f' → calmGo s f i l = calmGo s f' i l
  | 0, 0, _, _, _, _ => rfl
  | 0, f' + 1, i, l, h, _ => by rw [calmGo, calmGo, dif_neg (by omega)]
  | f + 1, 0, i, l, _, h => by rw [calmGo, calmGo, dif_neg (by omega)]
  | f + 1, f' + 1, i, l, h, h' => by
    rw [calmGo, calmGo]
    split
    · have := (calmRow_pot s (outN s.es l[i]) l).1
      exact calmGo_fuel s f f' (i + 1) _ (by omega) (by omega)
    · rfl
/-- What calm comes to. -/
def calmL (s : Sy) (l : List Int) : List Int := sortI (calmGo s (l.length + s.es.length) 0 l)
theorem calmPot_le (s : Sy) (l : List Int) : calmPot s l ≤ s.es.length := List.length_filter_le _ _
end Go.Proofs.YtegenalcheooeaaGreat

/- Words for a round of a range over a function: a drawn region walked as outside; a row of whole numbers that it collects. -/
set_option linter.unusedSectionVars false
set_option linter.unusedSimpArgs false
set_option linter.unusedVariables false
namespace Go.Proofs.YtegenalcheooeaaGreat
open Go.RowKit
attribute [local go_sem] cell?_exto
open Go.Shelf

theorem opIn_round {P : Program} {o : Oper} {a : Act} {w : World} {K : Act → World → Prop} {Q : Exit → Act → World → Prop} (l n : Nat) (hd : ∀ c, o.op ≠ .defer c) (h : Oper.wp P o a w K Q) : Oper.wpIn (Fence.wide.inRound l) n P o a w K Q := by
  unfold Oper.wp at h
  unfold Oper.wpIn
  refine ⟨fun _ _ => trivial, ?_⟩
  rw [Oper.semAt_eq _ _ _ hd]
  generalize (execOp a.eval o).run P w = r at h
  cases r with
  | ok x w' =>
    cases x with
    | value v => exact h
    | skip => exact h
    | defer d => exact h
    | enter f args => exact ⟨fun e => by simp [Fence.wide] at e, CallsIn.inRound l (callsIn_wide.2 h)⟩
    | row row args => exact ⟨fun e => by simp [Fence.wide] at e, fun c cs _ => by obtain ⟨v, w'', r, s⟩ := h c cs; exact ⟨v, w'', r, stepsIn_wide.2 s⟩⟩
    | _ => exact h.elim
  | halt e w' =>
    cases e <;> first | exact h | exact h.elim

def noDefer (ops : Array Oper) : Bool := ops.all fun o => match o.op with
  | .defer _ => false
  | _ => true
theorem noDefer_spec {ops : Array Oper} (h : noDefer ops = true) {i : Nat} {o : Oper} (hi : ops[i]? = some o) : ∀ c, o.op ≠ .defer c := by
  intro c hc
  obtain ⟨hlt, he⟩ := Array.getElem?_eq_some_iff.1 hi
  have := Array.all_eq_true.1 h i hlt
  rw [he, hc] at this
  cases this
theorem anyIn_round {P : Program} {md : Region.Mode} {ops : Array Oper} {C : World → Prop} {Q : Act → Prop} {Q' : Exit → Act → World → Prop} (l n : Nat) (hd : noDefer ops = true) (hQ : ∀ a w, C w → Q a → Q' .normal a w) : ∀ (fuel : Nat) (listed : Array Bool) (a : Act) (w : World), C w →
    wpAnyQ P md ops C Q fuel listed a → wpAnyIn (Fence.wide.inRound l) n P md ops Q' fuel listed a w
  | 0, _, _, _, hw, h => ⟨h.1, hQ _ _ hw h.2⟩
  | fuel + 1, _, a, w, hw, h => ⟨fun h0 => hQ _ _ hw (h.1 h0), fun i hi => by
    have hh := h.2 i hi
    unfold qOp at hh
    unfold wpOpIn
    cases ho : ops[i]? with
    | none =>
      simp only [ho] at hh ⊢
      exact anyIn_round l n hd hQ fuel _ a w hw hh
    | some o =>
      simp only [ho] at hh ⊢
      split
      · rename_i hw'
        simp only [hw', if_true] at hh
        exact opIn_round l n (noDefer_spec hd ho) (Oper.wp_of_quiet hw (fun a' w' hw' => anyIn_round l n hd hQ fuel _ a' w' hw') hh)
      · rename_i hw'
        simp only [hw'] at hh
        exact ⟨fun _ _ => trivial, anyIn_round l n hd hQ fuel _ _ w hw hh⟩⟩
theorem wpIn_region_ext {P : Program} {l n : Nat} {id : Nat} {Q : Exit → Act → World → Prop} {a : Act} {w : World} {ls : List Oper} (hm : P.follows .mixedOrders = true) (hd : noDefer ls.toArray = true) (hB : Region.lexB .any ls.toArray = true)
    (h : wpQuiet P ls.toArray (fun w' => ∃ x, w' = exto w x) (fun a' => ∀ w', Ext w w' → Q .normal a' w') ls a) : (Code.region id ls.toArray true).wpIn (Fence.wide.inRound l) n P Q a w := by
  simp only [Region.lexB, Bool.and_eq_true] at hB
  refine wpIn_region_any hm (anyIn_round (C := fun w' => ∃ x, w' = exto w x) (Q := fun a' => ∀ w', Ext w w' → Q .normal a' w') l n hd (fun a' w' hw' h => by obtain ⟨x, rfl⟩ := hw'; exact h _ (exto_ext w x)) _ _ _ _ ⟨_, (exto_of (Ext.refl w).drew).symm⟩ ?_)
  have := wpAnyQ_lex (C := fun w' => ∃ x, w' = exto w x) (md := .any) hB.1 ls 0 (Array.replicate ls.toArray.size false) a (by simp) (by simpa using hB.2) h
  simpa using this
theorem ROwn.int {base : Nat} {e : TypeId} {T T' : Nat → Prop} {w : World} {xs : List Int} {v : Value} (h : ROwn RInt 1 e base T w xs v) : ROwn RInt 1 e base T' w xs v := by
  obtain ⟨news, h1, h2⟩ := h
  exact ⟨news, h1, h2.imp fun x _ cs h => h⟩
theorem ROwn.i64 {base : Nat} {e : TypeId} {T : Nat → Prop} {w : World} {xs : List Int} {v : Value} (h : ROwn RInt 1 e base T w xs v) : ∀ x ∈ xs, I64 x := by
  obtain ⟨news, h1, h2⟩ := h
  exact h2.ints.2
theorem ROwn.bt {α : Type} {R : Rdr α} {k base : Nat} {e : TypeId} {T : Nat → Prop} {w w' : World} {xs : List α} {v : Value} (h : ROwn R k e base T w xs v) (hR : Good R k) {Z : Nat → Prop} (hb : Bt Z w w')
    (hZ : ∀ b, b < w.heap.size → Z b → ¬ T b ∧ v.ownBlock ≠ some b) : ROwn R k e base T w' xs v := by
  obtain ⟨news, h1, h2⟩ := h
  refine ⟨news, ?_, h2.imp fun x _ cs hx => hR.move hx ⟨hb.size, fun b hb1 hb2 => hb.block b hb1 fun hz => (hZ b hb1 hz).1 hb2.1⟩⟩
  refine ⟨h1.1, h1.2.imp id ?_⟩
  rintro ⟨g, cap, cur, rfl, hg, hh, h⟩
  have hlt := (Array.getElem?_eq_some_iff.1 hh).1
  exact ⟨g, cap, cur, rfl, hg, (hb.block g hlt fun hz => (hZ g hlt hz).2 rfl).trans hh, h⟩

theorem ROwn.base {α : Type} {R : Rdr α} {k base base' : Nat} {e : TypeId} {T : Nat → Prop} {w : World} {xs : List α} {v : Value} (h : ROwn R k e base T w xs v) (hb : base' ≤ base) : ROwn R k e base' T w xs v := by
  obtain ⟨news, h1, h2⟩ := h
  refine ⟨news, ⟨h1.1, h1.2.imp id ?_⟩, h2⟩
  rintro ⟨g, cap, cur, rfl, hg, h⟩
  exact ⟨g, cap, cur, rfl, Nat.le_trans hb hg, h⟩
/-- An own row's block holds cells. -/
theorem ROwn.not_def {α : Type} {R : Rdr α} {k base : Nat} {e : TypeId} {T : Nat → Prop} {w : World} {xs : List α} {v : Value} (h : ROwn R k e base T w xs v) {r : Nat} {o : Option (List Deferred)} (hr : w.heap[r]? = some (.deferred o)) : v.ownBlock ≠ some r := by
  obtain ⟨news, h1, h2⟩ := h
  intro he
  rcases h1.2 with ⟨rfl, _⟩ | ⟨g, cap, cur, rfl, hg, hh, _⟩
  · simp [Value.ownBlock] at he
  · have : g = r := by simpa [Value.ownBlock] using he
    subst this
    rw [hr] at hh
    cases hh

theorem IsSys.mono {S S' : Nat → Prop} {W : World} {g : Nat} {s : Sy} (h : IsSys S W g s) (hs : ∀ b, b < W.heap.size → S b → S' b) : IsSys S' W g s := by
  obtain ⟨v, u, m, f, h1, h2, h3, h4, h5, h6, h7, h8⟩ := h.ex
  exact ⟨v, u, m, f, h1, RLbs.good.mono h2 hs, REds.good.mono h3 hs, hs g (Array.getElem?_eq_some_iff.1 h1).1 h4, hs m h6.lt h5, h6, h7, fun n x hx => (RSl.good RInt.good).mono (h8 n x hx) hs⟩

theorem grown_of_ext {A B : World} (h : Ext A B) : A.grownBy B none := ⟨h.os, h.tape, h.output, h.size, fun k hk _ => (Ext.kp (S := fun _ => True) h).block k hk trivial⟩
theorem keepsFrom_ext {A B : World} (h : Ext A B) (n : Nat) : KeepsFrom n A B := ⟨h.size, fun k o _ hk _ => ((Ext.kp (S := fun _ => True) h).block k (Array.getElem?_eq_some_iff.1 hk).1 trivial).trans hk⟩

/-! ### append within a round -/
theorem wpListIn_append_at {F : Fence} {n : Nat} {P : Program} (w : World) {ops : Array Oper} {rest : List Oper} {o : Oper} {a : Act} {Q : Exit → Act → World → Prop}
    (hg : o.guard = none) (s x : Operand) (t : TypeId) (hop : o.op = Op.call { callee := Callee.builtin Builtin.append, args := #[s, x], argTypes := #[t, t] })
    (base : Nat) (e : TypeId) (i : TypeInfo) (z : Value) (size bytes : Nat) (h1 : P.underlying t = some (.slice e)) (h2 : P.info? e = some i) (h3 : i.zero = some z) (h4 : i.size = size) (h5 : i.bytes = bytes) (h6 : z.cells.size = size) (h7 : 0 < size)
    (v : Value) (k : Nat) (xs : List Value) (hs : a.eval s = v) (hown : w.ownsRow base e size v k xs) (ad : Addr) (m c : Nat) (news : List Value) (hx : a.eval x = .slice (some ad) m c) (hn : news.length = m * size)
    (hc : ∀ j u, news[j]? = some u → w.cell? (ad.add j) = some u) (h1c : ∀ u ∈ news, u.oneCell' = true) (b1 : k + m ≤ maxLen) (b2 : (k + m) * bytes ≤ 140737488355328) (b3 : base ≤ w.heap.size)
    (hK : ∀ v' w', w'.ownsRow base e size v' (k + m) (xs ++ news) → w.grownBy w' v.ownBlock → (v'.ownBlock = v.ownBlock ∨ v'.ownBlock = some w.heap.size) → wpListIn F n P ops Q rest (a.put o.dst v') w') :
    wpListIn F n P ops Q (o :: rest) a w := by
  refine wpListIn_plain hg fun K hK' => ?_
  obtain ⟨v', w', hrun, r1, r2, _, r4⟩ := run_append_own_at (P := P) w base t o.type e i z size bytes h1 h2 h3 h4 h5 h6 h7 v k xs hown ad m c news hn hc h1c b1 b2 b3
  unfold Oper.wpIn
  refine ⟨?_, ?_⟩
  · simp [Oper.about, hop, resolve, Target.leads, Sem.run_pure]
  · rw [Oper.semAt_plain F _ _ (by rw [hop]; intro c hc'; cases hc')]
    simp [execOp, hop, resolve, invoke, builtin, hs, hx, hrun, Result.andThen]
    exact hK' _ _ (hK v' w' r1 r2 r4)

/-- A whole number is appended to the row that a box holds. -/
theorem own_push {X w1 : World} {base nb : Nat} {xs : List Int} {t : Int} {vk v' : Value} (hi : ∀ x ∈ xs, I64 x) (ht : I64 t) (hb : Boxed X nb 53 vk) (hrow : X.ownsRow base 3 1 vk xs.length (xs.map (Value.int .i64)))
    (hown' : w1.ownsRow base 3 1 v' (xs.length + 1) (xs.map (Value.int .i64) ++ [.int .i64 t])) (hg : (X.alloc (.cells #[.int .i64 t] 3)).grownBy w1 vk.ownBlock) :
    Boxed w1 nb 53 vk ∧ Boxed (w1.setCell ⟨nb, 0, none⟩ v') nb 53 v' ∧ ROwn RInt 1 3 base (fun _ => False) (w1.setCell ⟨nb, 0, none⟩ v') (xs ++ [t]) v' ∧ Bt (fun b => b = nb ∨ vk.ownBlock = some b) X (w1.setCell ⟨nb, 0, none⟩ v') := by
  have b1 : Boxed w1 nb 53 vk := (hb.alloc _).kept hg (hb.not_row (by decide) hrow)
  refine ⟨b1, b1.set v', ⟨(xs ++ [t]).map (Value.int .i64), ?_, Flat.of_ints fun x hx => ?_⟩, ?_⟩
  · rw [List.length_append, List.map_append]
    exact hown'.kept (grownBy_setCell' w1 nb v') (.inr (b1.not_row (by decide) hown').symm)
  · rcases List.mem_append.1 hx with h | h
    · exact hi x h
    · rw [List.mem_singleton.1 h]; exact ht
  · exact ((Bt.alloc (Bt.refl _ _) _).trans ((Bt.of_grown hg).mono fun k _ h => .inr h.symm)).set (p := ⟨nb, 0, none⟩) (.inr (.inl rfl)) v'

theorem bt_own {β : Type} (Z : Nat → Prop) (W0 : World) : OwnFrom W0.heap.size (fun (_ : β) W => Bt Z W0 W) := by
  intro _ X Y r h hg hr
  exact ⟨hg.os.trans h.os, hg.tape.trans h.tape, hg.output.trans h.output, Nat.le_trans h.size hg.size, fun k hk hz => (hg.block k (Nat.lt_of_lt_of_le hk h.size) fun e => by have := (hr k e.symm).1; omega).trans (h.block k hk hz)⟩
theorem map_own {β κ : Type} [DecidableEq κ] {K : κ → Value} {m B : Nat} (hm : m < B) (f : β → κ → Option Value) : OwnFrom B (fun s W => IsMap K W m (f s)) := by
  intro s X Y r h hg hr
  exact h.move (hg.block m h.lt fun e => by have := (hr m e.symm).1; omega)

/-! ### What a loop keeps that collects whole numbers in a box -/
structure RngI {α : Type} (nb base : Nat) (vk0 : Value) (W0 : World) (row : List α → List Int) (pre : List α) (W : World) : Prop where
  bt : Bt (fun b => b = nb ∨ vk0.ownBlock = some b) W0 W
  row : ∃ vk, Boxed W nb 53 vk ∧ ROwn RInt 1 3 base (fun _ => False) W (row pre) vk ∧ (vk.ownBlock = vk0.ownBlock ∨ ∀ b, vk.ownBlock = some b → W0.heap.size ≤ b)
section
variable {α : Type} {nb base : Nat} {vk0 : Value} {W0 : World} {row : List α → List Int} {pre : List α} {W W' : World}
theorem RngI.start (hb : Boxed W0 nb 53 vk0) (hown : ROwn RInt 1 3 base (fun _ => False) W0 (row []) vk0) : RngI nb base vk0 W0 row [] W0 := ⟨Bt.refl _ _, vk0, hb, hown, .inl rfl⟩
theorem rngI_own (hnb : nb < W0.heap.size) : OwnFrom W0.heap.size (RngI nb base vk0 W0 row) := by
  intro pre X Y r h hg hr
  have hlow : ∀ q, q < X.heap.size → q < W0.heap.size → Y.heap[q]? = X.heap[q]? := fun q h1 h2 => hg.block q h1 fun e => by have := (hr q e.symm).1; omega
  have hcell : ∀ (q : Nat) (o : Obj), X.heap[q]? = some o → o.isCells = true → Y.heap[q]? = some o := fun q o h1 h2 => (hg.block q (Array.getElem?_eq_some_iff.1 h1).1 fun e => by
    obtain ⟨_, o', h3, h4⟩ := hr q e.symm
    rw [h1] at h3
    cases h3
    rw [h2] at h4
    cases h4).trans h1
  obtain ⟨vk, h1, ⟨news, h2, h3⟩, h4⟩ := h.row
  refine ⟨⟨hg.os.trans h.bt.os, hg.tape.trans h.bt.tape, hg.output.trans h.bt.output, Nat.le_trans h.bt.size hg.size, fun k hk hz => (hlow k (Nat.lt_of_lt_of_le hk h.bt.size) hk).trans (h.bt.block k hk hz)⟩, vk, hcell _ _ h1 rfl, ⟨news, ⟨h2.1, h2.2.imp id ?_⟩, h3.imp fun _ _ _ hx => hx⟩, h4⟩
  · rintro ⟨gg, cap, cur, rfl, hgg, hh, hrest⟩
    exact ⟨gg, cap, cur, rfl, hgg, hcell _ _ hh rfl, hrest⟩
theorem RngI.move (h : RngI nb base vk0 W0 row pre W) (he : Ext W W') : RngI nb base vk0 W0 row pre W' := by
  obtain ⟨vk, h1, h2, h3⟩ := h.row
  exact ⟨h.bt.ext he, vk, ((Ext.kp (S := fun _ => True) he).block _ h1.lt trivial).trans h1, h2.ext RInt.good he, h3⟩
/-- A round that turns nothing. -/
theorem RngI.same (h : RngI nb base vk0 W0 row pre W) (he : Ext W W') {x : α} (hr : row (pre ++ [x]) = row pre) : RngI nb base vk0 W0 row (pre ++ [x]) W' := by
  obtain ⟨vk, h1, h2, h3⟩ := h.row
  refine ⟨h.bt.ext he, vk, ((Ext.kp (S := fun _ => True) he).block _ h1.lt trivial).trans h1, ?_, h3⟩
  rw [hr]
  exact h2.ext RInt.good he
/-- A round that appends. -/
theorem RngI.push {vk v' : Value} {w1 : World} {t : Int} (h : RngI nb base vk0 W0 row pre W) (hb : Boxed W nb 53 vk) (hown : ROwn RInt 1 3 base (fun _ => False) W (row pre) vk) (hat0 : vk.ownBlock = vk0.ownBlock ∨ ∀ b, vk.ownBlock = some b → W0.heap.size ≤ b)
    (ht : I64 t) (hown' : w1.ownsRow base 3 1 v' ((row pre).length + 1) ((row pre).map (Value.int .i64) ++ [.int .i64 t])) (hg : (W.alloc (.cells #[.int .i64 t] 3)).grownBy w1 vk.ownBlock) (hat : v'.ownBlock = vk.ownBlock ∨ v'.ownBlock = some (W.heap.size + 1))
    {x : α} (hr : row (pre ++ [x]) = row pre ++ [t]) : RngI nb base vk0 W0 row (pre ++ [x]) (w1.setCell ⟨nb, 0, none⟩ v') := by
  obtain ⟨news, hrow, hF⟩ := hown
  obtain ⟨rfl, hi⟩ := hF.ints
  obtain ⟨p1, p2, p3, p4⟩ := own_push hi ht hb hrow hown' hg
  have hsz := h.bt.size
  refine ⟨⟨p4.os.trans h.bt.os, p4.tape.trans h.bt.tape, p4.output.trans h.bt.output, Nat.le_trans hsz p4.size, fun k hk hz => (p4.block k (Nat.lt_of_lt_of_le hk hsz) fun hz' => hz ?_).trans (h.bt.block k hk hz)⟩, v', p2, by rw [hr]; exact p3, ?_⟩
  · rcases hz' with e | e
    · exact .inl e
    · rcases hat0 with h0 | h0
      · exact .inr (h0 ▸ e)
      · exact absurd (h0 k e) (by omega)
  · rcases hat with e | e
    · rw [e]; exact hat0
    · refine .inr fun b hb' => ?_
      rw [e] at hb'
      cases hb'
      omega
/-- The round's own words of what it keeps. -/
theorem keepsFrom_bt {A B : World} {Z : Nat → Prop} (h : Bt Z A B) (n : Nat) (hz : ∀ k o, n ≤ k → Z k → A.heap[k]? = some o → o.isCells = true) : KeepsFrom n A B :=
  ⟨h.size, fun k o hn hk ho => (h.block k (Array.getElem?_eq_some_iff.1 hk).1 fun hz' => by rw [hz k o hn hz' hk] at ho; cases ho).trans hk⟩
theorem row_cells {base size n : Nat} {e : TypeId} {v : Value} {xs : List Value} (h : W.ownsRow base e size v n xs) {k : Nat} {o : Obj} (hk : v.ownBlock = some k) (ho : W.heap[k]? = some o) : o.isCells = true := by
  rcases h.2 with ⟨rfl, _⟩ | ⟨g, cap, cur, rfl, _, hh, _⟩
  · simp [Value.ownBlock] at hk
  · obtain rfl : g = k := by simpa [Value.ownBlock] using hk
    rw [hh] at ho
    cases ho
    rfl
theorem push_keeps {vk v' : Value} {w1 : World} {t : Int} {xs : List Int} (hb : Boxed W nb 53 vk) (hown : ROwn RInt 1 3 base (fun _ => False) W xs vk)
    (ht : I64 t) (hown' : w1.ownsRow base 3 1 v' (xs.length + 1) (xs.map (Value.int .i64) ++ [.int .i64 t])) (hg : (W.alloc (.cells #[.int .i64 t] 3)).grownBy w1 vk.ownBlock)
    (n : Nat) {Z : Nat → Prop} (hZ : ∀ k, k < W.heap.size → Z k → ¬ (k = nb ∨ vk.ownBlock = some k)) : KeepsFrom n W (w1.setCell ⟨nb, 0, none⟩ v') ∧ Kp Z W (w1.setCell ⟨nb, 0, none⟩ v') := by
  obtain ⟨news, hrow, hF⟩ := hown
  obtain ⟨rfl, hi⟩ := hF.ints
  obtain ⟨p1, p2, p3, p4⟩ := own_push hi ht hb hrow hown' hg
  refine ⟨keepsFrom_bt p4 n fun k o _ hk ho => ?_, p4.kp hZ⟩
  rcases hk with rfl | hk
  · rw [show W.heap[k]? = _ from hb] at ho
    cases ho
    rfl
  · exact row_cells hrow hk ho
end
end Go.Proofs.YtegenalcheooeaaGreat

/- suite.least: walked. -/
set_option linter.unusedSectionVars false
set_option linter.unusedSimpArgs false
set_option linter.unusedVariables false
namespace Go.Proofs.YtegenalcheooeaaGreat
open Go.RowKit
attribute [local go_sem] cell?_exto
open Go.Shelf

def leastOf (m : List (List Lb)) : List (List Lb) := m.filter fun a => !(m.any (smaller a))
def leastS (l : List (List Lb)) : List (List Lb) := leastOf (cmpctS (sortS l))
theorem cmpctS_len (l : List (List Lb)) : (cmpctS l).length ≤ l.length := compactB_len eqSets l
theorem sortS_len (l : List (List Lb)) : (sortS l).length = l.length := sortB_len l
/-- A row of lists of labels of one's own. -/
def SetsPost (P : Nat → Prop) (base : Nat) (r : List (List Lb)) (Z : Nat → Prop) (w : World) (e : Ending) (w' : World) : Prop :=
  ∃ A c, e = .returned (.slice A r.length c) ∧ ROwn RLbs 1 22 base P w' r (.slice A r.length c) ∧ Bt Z w w'
theorem ROwn.own_lt {α : Type} {R : Rdr α} {k base : Nat} {e : TypeId} {T : Nat → Prop} {w : World} {xs : List α} {v : Value} (h : ROwn R k e base T w xs v) {b : Nat} (hb : v.ownBlock = some b) : base ≤ b ∧ b < w.heap.size := by
  obtain ⟨news, h1, _⟩ := h
  exact own_row_base h1 b hb
theorem bt_boxed {Z : Nat → Prop} {a b : World} {B : Nat} {t : TypeId} {v : Value} (h : Bt Z a b) (hb : Boxed a B t v) (hz : ¬ Z B) : Boxed b B t v := (h.block B hb.lt hz).trans hb
set_option maxHeartbeats 1000000 in
set_option maxRecDepth 100000 in
theorem least_c (P : Nat → Prop) (base : Nat) (hP : ∀ b, base ≤ b → P b) (l : List (List Lb)) (v : Value) (w : World) (hown : ROwn RLbs 1 22 base P w l v) (hbase : base ≤ w.heap.size) (hlen : l.length ≤ 1000000) (hel : ∀ x ∈ l, x.length ≤ 1000000) :
    Calls Tryz.prog 149 #[v] w (SetsPost P w.heap.size (leastS l) (fun b => v.ownBlock = some b) w) := by
  obtain ⟨A, c, rfl, hc, hc0⟩ := (hown.sl RLbs.good (by decide)).val
  have hob := fun b (hb : (Value.slice A l.length c).ownBlock = some b) => hown.own_lt hb
  have hX0 : Ext w (w.alloc (.cells #[.slice A l.length c] 30)) := (Ext.refl w).alloc _
  have hB0 := Boxed.new w 30 (.slice A l.length c)
  have hO0 := (hown.mono (T' := fun b => P b ∧ b < w.heap.size) RLbs.good fun b hb h => ⟨h, hb⟩).ext RLbs.good hX0
  have hs := sortS_own base _ l _ _ hO0 (by omega)
  have hls : (sortS l).length = l.length := sortS_len l
  have hlc : (cmpctS (sortS l)).length ≤ 1000000 := by have := cmpctS_len (sortS l); omega
  have HO0 := Lib.hid hO0
  clear hown hO0
  go_enter Tryz.func149, Tryz.ntmps149
  go_wp2_with fail
  refine hs.mono ?_
  rintro e w1 ⟨rfl, ho1, hb1⟩
  have hB1 := bt_boxed hb1 hB0 (fun e => by have := (hob _ e).2; omega)
  have hB1c := hB1.cell
  have hc1 := compactLbs_c base _ (sortS l) _ w1 ho1 (by omega)
  obtain ⟨m, hm⟩ : ∃ m, cmpctS (sortS l) = m := ⟨_, rfl⟩
  have hval : Hid (leastS l = leastOf m) := by show _ = _; rw [leastS, hm]
  have hmm : ∀ x ∈ m, x.length ≤ 1000000 := fun x hx => hel x ((sortB_mem l x).1 (compactB_mem eqSets _ x (by rw [← hm] at hx; exact hx)))
  rw [hm] at hc1 hlc
  clear hm
  go_wp2_with fail
  refine hc1.mono ?_
  rintro e w2 ⟨A2, c2, rfl, ho2, hb2⟩
  have hB2 := bt_boxed hb2 hB1 (fun e => by have := (hob _ e).2; omega)
  have hB2c := hB2.cell
  have hB2f := hB2.frozen
  have hz2 : w.heap.size + 1 ≤ w2.heap.size := by have h1 := hb1.size; have h2 := hb2.size; simp at h1; omega
  obtain ⟨W3, hW3⟩ : ∃ W3, w2.setCell ⟨w.heap.size, 0, none⟩ (.slice A2 m.length c2) = W3 := ⟨_, rfl⟩
  have hB3 : Boxed W3 w.heap.size 30 (.slice A2 m.length c2) := by rw [← hW3]; exact hB2.set _
  have hs3 : W3.heap.size = w2.heap.size := by rw [← hW3]; simp
  have hb3 : Bt (fun b => b = w.heap.size) w2 W3 := by rw [← hW3]; exact (Bt.refl (fun b => b = w.heap.size) w2).set (p := ⟨w.heap.size, 0, none⟩) (.inr rfl) _
  have hno2 : (Value.slice A2 m.length c2).ownBlock ≠ some w.heap.size := fun e => by
    obtain ⟨news, h1, _⟩ := ho2
    exact hB2.not_row (by decide) h1 e.symm
  have ho3 : ROwn RLbs 1 22 base (fun b => P b ∧ b < w.heap.size) W3 m (.slice A2 m.length c2) := ho2.bt RLbs.good hb3 fun b _ hz => by
    have hz' : b = w.heap.size := hz
    subst hz'
    exact ⟨fun h => Nat.lt_irrefl _ h.2, hno2⟩
  have hr3 : RSl RLbs 1 (fun b => P b ∧ b < W3.heap.size) W3 m [.slice A2 m.length c2] := (RSl.good RLbs.good).mono (ho3.sl RLbs.good (by decide)) fun b hb h => ⟨h.elim (fun h => h.1) (hP b), hb⟩
  have hcl := cloneLbs _ m _ W3 hr3 (by omega)
  have hB3c := hB3.cell
  clear ho2 hB1c hs hc1
  go_wp2_with fail
  clear hW3
  refine hcl.mono ?_
  rintro e w4 ⟨v4, rfl, ho4, hx4⟩
  obtain ⟨A4, c4, rfl, _, _⟩ := (ho4.sl RLbs.good (by decide)).val
  have ho4b := fun b hb => (ho4.own_lt (b := b) hb).1
  have hd := deleteLbs_c W3.heap.size _ (fun a => m.any (smaller a)) m (.slice A4 m.length c4) w.heap.size w4 ho4 (by omega) fun x hx u W hb hr => by
    have hk : Kp (fun b => b < W3.heap.size) W3 W := (Ext.kp hx4).trans (hb.kp fun b _ h e => by have := ho4b b e; omega)
    refine least1_c (fun _ => True) x m u (.slice A2 m.length c2) w.heap.size W hr ((RSl.good RLbs.good).mono ((RSl.good RLbs.good).move ((RSl.good RLbs.good).mono hr3 (S' := fun b => b < W3.heap.size) fun b hb _ => hb) hk) fun _ _ _ => trivial) (Nat.le_trans (hmm x hx) (by decide)) ?_
    exact (World.cell?_of_block (a := ⟨w.heap.size, 0, none⟩) (hk.block _ hB3.lt hB3.lt)).trans hB3.cell
  clear hcl
  go_wp2_with fail
  refine hd.mono ?_
  rintro e w5 ⟨A5, c5, rfl, ho5, hb5⟩
  have HO5 := Lib.hid ho5
  clear ho5 hd
  go_wp2_with fail
  go_ret
  have hXX : Bt (fun b => (Value.slice A l.length c).ownBlock = some b) w w5 := by
    have h0 : Bt (fun b => (Value.slice A l.length c).ownBlock = some b ∨ w.heap.size ≤ b) w w5 :=
      (((((hX0.bt.trans (hb1.mono fun b _ h => .inl h)).trans (hb2.mono fun b _ h => .inl h)).trans (hb3.mono fun b _ h => .inr (Nat.le_of_eq (Eq.symm h)))).trans hx4.bt).trans (hb5.mono fun b _ h => .inr (by have := ho4b b h; omega)))
    exact h0.mono fun b hb h => h.resolve_right (by omega)
  refine ⟨A5, c5, ?_, ?_, hXX⟩
  · rw [hval.out]; rfl
  · rw [hval.out]
    exact (HO5.out.mono RLbs.good fun _ _ h => h.1).base (by omega)
end Go.Proofs.YtegenalcheooeaaGreat

/- sort.Slice at no more than twelve whole numbers, the comparison a function that may lay blocks: walked. -/
set_option linter.unusedSectionVars false
set_option linter.unusedSimpArgs false
set_option linter.unusedVariables false
namespace Go.Proofs.YtegenalcheooeaaGreat
open Go.RowKit
attribute [local go_sem] cell?_exto
open Go.Shelf Go.Sort Go.Lib

abbrev ROrd (base : Nat) (W : World) (d : Array Int) (g n c : Nat) : Prop := ROwn RInt 1 3 base (fun _ => False) W d.toList (.slice (some ⟨g, 0, none⟩) n c)
theorem swp_list (d : Array Int) (i j : Nat) (hi : i < d.size) (hj : j < d.size) : (swp d i j).toList = (d.toList.set i d[j]!).set j d[i]! := by
  simp [swp, Array.toList_setIfInBounds]
theorem swp_all {p : Int → Prop} {d : Array Int} {i j : Nat} (h : ∀ x ∈ d.toList, p x) (hi : i < d.size) (hj : j < d.size) : ∀ x ∈ (swp d i j).toList, p x := fun x hx => by
  rw [swp_list d i j hi hj] at hx
  have mi : d[i]! ∈ d.toList := by rw [getElem!_pos d i hi]; exact Array.mem_toList_iff.2 (Array.getElem_mem hi)
  have mj : d[j]! ∈ d.toList := by rw [getElem!_pos d j hj]; exact Array.mem_toList_iff.2 (Array.getElem_mem hj)
  rcases List.mem_or_eq_of_mem_set hx with hx | rfl
  · rcases List.mem_or_eq_of_mem_set hx with hx | rfl
    · exact h x hx
    · exact h _ mj
  · exact h _ mi

/-- What is asked of the comparison. -/
def LessC (lf : Nat) (lb : Array Value) (lt : Int → Int → Bool) (p : Int → Prop) (base g n c : Nat) (W0 : World) : Prop := ∀ (W : World) (dk : Array Int), Bt (fun q => q = g) W0 W → ROrd base W dk g n c → dk.size = n → (∀ x ∈ dk.toList, p x) → ∀ i j : Nat, i < n → j < n →
  Calls Tryz.prog lf (#[.int .i64 i, .int .i64 j] ++ lb) W fun e w' => e = .returned (.bool (lt dk[i]! dk[j]!)) ∧ Ext W w'
/-- What is asked of the exchange. -/
def SwapC (sf : Nat) (sb : Array Value) (base g n c : Nat) : Prop := ∀ (W : World) (dk : Array Int), ROrd base W dk g n c → dk.size = n → ∀ i j : Nat, i < n → j < n → i ≠ j →
  (callFunc sf (#[.int .i64 i, .int .i64 j] ++ sb)).run Tryz.prog W = .ok (.value (.tuple #[])) ((W.setCell ⟨g, i, none⟩ (.int .i64 dk[j]!)).setCell ⟨g, j, none⟩ (.int .i64 dk[i]!))
theorem LessC.on {lf : Nat} {lb : Array Value} {lt : Int → Int → Bool} {p : Int → Prop} {base g n c : Nat} {W0 W1 : World} (h : LessC lf lb lt p base g n c W0) (hb : Bt (fun q => q = g) W0 W1) : LessC lf lb lt p base g n c W1 :=
  fun W dk h1 h2 h3 h4 => h W dk (hb.trans h1) h2 h3 h4
theorem ROrd.swap {base : Nat} {W : World} {dk : Array Int} {g n c : Nat} (h : ROrd base W dk g n c) (hn : dk.size = n) {i j : Nat} (hi : i < n) (hj : j < n) : ROrd base ((W.setCell ⟨g, i, none⟩ (.int .i64 dk[j]!)).setCell ⟨g, j, none⟩ (.int .i64 dk[i]!)) (swp dk i j) g n c ∧
    Bt (fun q => q = g) W ((W.setCell ⟨g, i, none⟩ (.int .i64 dk[j]!)).setCell ⟨g, j, none⟩ (.int .i64 dk[i]!)) := by
  have hI := h.i64
  have mi : I64 dk[i]! := hI _ (by rw [getElem!_pos dk i (by omega)]; exact Array.mem_toList_iff.2 (Array.getElem_mem _))
  have mj : I64 dk[j]! := hI _ (by rw [getElem!_pos dk j (by omega)]; exact Array.mem_toList_iff.2 (Array.getElem_mem _))
  have h1 := ROwn.put1 RInt.good h (by simpa using hn.symm) i (.int .i64 dk[j]!) dk[j]! (by simpa using (by omega : i < dk.size)) ⟨rfl, mj⟩
  have h2 := ROwn.put1 RInt.good h1 (by simpa using hn.symm) j (.int .i64 dk[i]!) dk[i]! (by simpa using (by omega : j < dk.size)) ⟨rfl, mi⟩
  rw [← swp_list dk i j (by omega) (by omega)] at h2
  exact ⟨h2, Bt.set (Z := fun q => q = g) (p := ⟨g, j, none⟩) (Bt.set (Z := fun q => q = g) (p := ⟨g, i, none⟩) (Bt.refl _ _) (.inr rfl) _) (.inr rfl) _⟩

set_option maxHeartbeats 1000000 in
set_option maxRecDepth 100000 in
theorem insertion_c (lf : Nat) (lb : Array Value) (sf : Nat) (sb : Array Value) (lt : Int → Int → Bool) (p : Int → Prop) (base g n c : Nat) (d : Array Int) (w : World) (el : ∀ args w, (callFunc lf args).run Tryz.prog w = .ok (.enter lf args) w)
    (hless : LessC lf lb lt p base g n c w) (hswap : SwapC sf sb base g n c) (hrow : ROrd base w d g n c) (hd : d.size = n) (hp : ∀ x ∈ d.toList, p x) (hn : n ≤ 1000) (hg : g < w.heap.size) :
    Calls Tryz.prog 298 #[.agg #[.func (.func lf) #[] lb, .func (.func sf) #[] sb], .int .i64 0, .int .i64 n] w fun e w' => e = .returned (.tuple #[]) ∧ (ROrd base w' (insertionSort lt d 0 n) g n c ∧ (∀ x ∈ (insertionSort lt d 0 n).toList, p x) ∧ (insertionSort lt d 0 n).size = n) ∧ Bt (fun q => q = g) w w' := by
  have HR := Lib.hid hrow
  have HP := Lib.hid hp
  clear hrow hp
  go_enter Tryz.func298, Tryz.ntmps298
  go_wp2_with fail
  obtain ⟨W1, hW1⟩ : ∃ W1, w.alloc (.cells #[.func (.func lf) #[] lb, .func (.func sf) #[] sb] 299) = W1 := ⟨_, rfl⟩
  have hX1 : Ext w W1 := by rw [← hW1]; exact (Ext.refl w).alloc _
  have b0 : W1.cell? ⟨w.heap.size, 0, none⟩ = some (.func (.func lf) #[] lb) := by rw [← hW1]; simp
  have b1 : W1.cell? ⟨w.heap.size, 1, none⟩ = some (.func (.func sf) #[] sb) := by rw [← hW1]; simp
  have HR1 := Lib.hid (HR.out.ext RInt.good hX1)
  have hl1 := hless.on hX1.bt
  rw [hW1]
  clear hW1 hless
  have hgw : ¬ (w.heap.size = g) := by omega
  go_loopw [6] (fun vi wr => ∃ (i : Nat) (dk : Array Int), vi = .int .i64 i ∧ 1 ≤ i ∧ i ≤ n + 1 ∧ dk.size = n ∧ Hid (ROrd base wr dk g n c) ∧ Hid (∀ x ∈ dk.toList, p x) ∧ Hid (Bt (fun q => q = g) W1 wr) ∧ Hid (insOuter lt 0 n i dk = insOuter lt 0 n 1 d)) (fun vi _ => n + 1 - (intOf vi).toNat)
  case atStart => exact ⟨1, d, rfl, Nat.le_refl _, by omega, hd, HR1.out, HP.out, Bt.refl _ _, rfl⟩
  case round =>
    obtain ⟨i, dk, rfl, hi1, hin, hsk, hrk, hpk, hbk, hok⟩ := hrel
    by_cases hlt : i < n
    · go_wp2_with fail
      go_loopw [7] (fun vj wr2 => ∃ (j : Nat) (dj : Array Int), vj = .int .i64 j ∧ j ≤ i ∧ dj.size = n ∧ Hid (ROrd base wr2 dj g n c) ∧ Hid (∀ x ∈ dj.toList, p x) ∧ Hid (Bt (fun q => q = g) W1 wr2) ∧ Hid (insInner lt 0 j dj = insInner lt 0 i dk)) (fun vj _ => (intOf vj).toNat)
      case atStart => exact ⟨i, dk, rfl, Nat.le_refl _, hsk, hrk, hpk, hbk, rfl⟩
      case round =>
        obtain ⟨j, dj, rfl, hji, hsj, hrj, hpj, hbj, hij⟩ := hrel
        have c0 := hbj.out.cell b0 hgw
        have c1 := hbj.out.cell b1 hgw
        have out : (j ≤ 0 ∨ lt dj[j]! dj[j - 1]! = false) → insOuter lt 0 n (i + 1) dj = insOuter lt 0 n 1 d := fun hs => by
          rw [← hok.out, insOuter_go _ _ _ _ _ hlt, ← hij.out, insInner_stop _ _ _ _ hs]
        by_cases hja : 0 < j
        · have hl := hl1 wr dj hbj.out hrj.out hsj hpj.out j (j - 1) (by omega) (by omega)
          rw [show (((j - 1 : Nat) : Int)) = (j : Int) - 1 by omega] at hl
          cases hlv : lt dj[j]! dj[j - 1]! with
          | true =>
            rw [hlv] at hl
            have HIJ : Hid (insInner lt 0 (j - 1) (swp dj j (j - 1)) = insInner lt 0 i dk) := by show _ = _; rw [← hij.out]; exact (insInner_go lt 0 j dj hja hlv).symm
            clear out hij
            have hs0 := fun w' (hx : Ext wr w') => hswap w' dj (hrj.out.ext RInt.good hx) hsj j (j - 1) (by omega) (by omega) (by omega)
            rw [show (((j - 1 : Nat) : Int)) = (j : Int) - 1 by omega] at hs0
            have HS0 := Lib.hid hs0
            clear hs0
            go_wp2_with (go_at_fn lf; refine hl.mono ?_; rintro e w' ⟨rfl, hx⟩; have c1' := Ext.keep hx c1)
            rw [HS0.out w' hx, Oper.upon_value]
            have hro := ROrd.swap (hrj.out.ext RInt.good hx) hsj (i := j) (j := j - 1) (by omega) (by omega)
            have HRO := Lib.hid hro
            have HPO := Lib.hid (swp_all hpj.out (i := j) (j := j - 1) (by omega) (by omega))
            clear hro
            go_wp2_with fail
            go_roundw
            case rel => exact ⟨j - 1, swp dj j (j - 1), by go_num, by omega, by rw [← hsj]; simp [swp], HRO.out.1, HPO.out, (hbj.out.ext hx).trans HRO.out.2, HIJ.out⟩
            case measure => simp [intOf]; omega
          | false =>
            rw [hlv] at hl
            have HO := Lib.hid (out (.inr hlv))
            clear out hij
            go_wp2_with (go_at_fn lf; refine hl.mono ?_; rintro e w' ⟨rfl, hx⟩)
            go_roundw
            case rel => exact ⟨i + 1, dj, by go_num, by omega, by omega, hsj, hrj.out.ext RInt.good hx, hpj, hbj.out.ext hx, HO.out⟩
            case measure => simp [intOf]; omega
        · have HO := Lib.hid (out (.inl (by omega)))
          clear out hij
          go_wp2_with fail
          go_roundw
          case rel => exact ⟨i + 1, dj, by go_num, by omega, by omega, hsj, hrj, hpj, hbj, HO.out⟩
          case measure => simp [intOf]; omega
    · have HF : Hid (insertionSort lt d 0 n = dk) := by
        show _ = _
        unfold Sort.insertionSort
        rw [← hok.out, insOuter_stop _ _ _ _ _ hlt]
      clear hok
      go_wp2_with fail
      go_end0
      rw [HF.out]
      exact ⟨rfl, ⟨hrk.out, hpk.out, hsk⟩, hX1.bt.trans hbk.out⟩
end Go.Proofs.YtegenalcheooeaaGreat

