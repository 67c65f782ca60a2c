/- Of the proof of a law of the suites: Accepts. -/
import Derived.Test.YtegenalcheooeaaGreatB15
set_option linter.unusedSectionVars false
set_option linter.unusedSimpArgs false
set_option linter.unusedVariables false
namespace Go.Proofs.YtegenalcheooeaaGreat
open Go.RowKit
attribute [local go_sem] cell?_exto
section
open Go.Shelf
attribute [local go_sem] Oper.semAt_some

/-! ### What it comes to -/
def edHas (s : Sy) (n : Int) (j : Fin s.es.length) : Bool := decide (s.es[j].l = n) && lbHas s s.es[j].l (fun y => visB y.g)
def metRow (s : Sy) (p : Int → Bool) (pre : List (Fin s.es.length)) (n : Int) : Bool := p n || pre.any (edHas s n)
def metGo (s : Sy) (sts : List Int) (n : Int) : Bool := sts.any fun st => (outN s.es st).any (edHas s n)
def accFrom (p : Int → Bool) : Nat → List Lb → List Lb
 | _, [] => []
 | i, x :: xs => if p i then x :: accFrom p (i + 1) xs else accFrom p (i + 1) xs
/-- The labels that a state accepts. -/
def accL (s : Sy) (st : Int) : List Lb := accFrom (metGo s (calmL s [st])) 0 s.ls
theorem accFrom_append (p : Int → Bool) : ∀ (xs ys : List Lb) (i : Nat), accFrom p i (xs ++ ys) = accFrom p i xs ++ accFrom p (i + xs.length) ys
 | [], ys, i => by simp [accFrom]
 | x :: xs, ys, i => by
  have h := accFrom_append p xs ys (i + 1)
  rw [List.cons_append, accFrom, accFrom, h, List.length_cons, show i + 1 + xs.length = i + (xs.length + 1) from by omega]
  split <;> rfl
theorem accFrom_take (p : Int → Bool) (xs : List Lb) (k : Nat) (h : k < xs.length) : accFrom p 0 (xs.take (k + 1)) = if p k then accFrom p 0 (xs.take k) ++ [xs[k]] else accFrom p 0 (xs.take k) := by
 rw [List.take_succ_eq_append_getElem h, accFrom_append, List.length_take, Nat.min_eq_left (by omega), Nat.zero_add, accFrom, accFrom]
 split <;> simp
theorem accFrom_len (p : Int → Bool) : ∀ (i : Nat) (xs : List Lb), (accFrom p i xs).length ≤ xs.length
 | _, [] => by simp [accFrom]
 | i, x :: xs => by
  have := accFrom_len p (i + 1) xs
  rw [accFrom]
  split <;> simp only [List.length_cons] <;> omega
theorem accL_len (s : Sy) (st : Int) : (accL s st).length ≤ s.ls.length := accFrom_len _ _ _
theorem metRow_snoc (s : Sy) (p : Int → Bool) (pre : List (Fin s.es.length)) (j : Fin s.es.length) (n : Int) : metRow s p (pre ++ [j]) n = (metRow s p pre n || edHas s n j) := by simp [metRow, Bool.or_assoc]
theorem metGo_snoc (s : Sy) (sts : List Int) (st : Int) (n : Int) : metGo s (sts ++ [st]) n = metRow s (metGo s sts) (outN s.es st) n := by simp [metGo, metRow]
/-- A set of whole numbers, as a map of truth values. -/
def fB (p : Int → Bool) (n : Int) : Option Value := if p n then some (.bool true) else none
theorem fB_get (p : Int → Bool) (n : Int) : (fB p n).getD (.bool false) = .bool (p n) := by
 unfold fB
 split
 ·rename_i h; rw [h]; rfl
 ·rename_i h; rw [eq_false_of_ne_true h]; rfl
theorem fB_same (s : Sy) (p : Int → Bool) (pre : List (Fin s.es.length)) (j : Fin s.es.length) (h : lbHas s s.es[j].l (fun y => visB y.g) = false) : fB (metRow s p (pre ++ [j])) = fB (metRow s p pre) := by
 funext n
 unfold fB
 rw [metRow_snoc, edHas, h, Bool.and_false, Bool.or_false]
theorem fB_add (s : Sy) (p : Int → Bool) (pre : List (Fin s.es.length)) (j : Fin s.es.length) (h : lbHas s s.es[j].l (fun y => visB y.g) = true) : fB (metRow s p (pre ++ [j])) = fun n => if n = s.es[j].l then some (.bool true) else fB (metRow s p pre) n := by
 funext n
 unfold fB
 rw [metRow_snoc, edHas, h, Bool.and_true]
 by_cases e : n = s.es[j].l
 ·simp [e]
 ·have e' : ¬ s.es[j].l = n := fun h => e h.symm
  rw [decide_eq_false e', Bool.or_false, if_neg e]

theorem cells_new (w : World) (cs : Array Value) (t : TypeId) : ∀ j u, cs.toList[j]? = some u → (w.alloc (.cells cs t)).cell? ((⟨w.heap.size, 0, none⟩ : Addr).add j) = some u := fun j u h => by
 rw [Addr.add_lit, Nat.zero_add]
 exact (cell_of_row _ _ j _ _ _ (World.alloc_heap_new w _)).trans (by simpa using h)
/-- What it hands back: a row of labels of one's own, whose values lie where T says. -/
def LbPost (T : Nat → Prop) (base : Nat) (r : List Lb) (w : World) (e : Ending) (w' : World) : Prop := ∃ A c, e = .returned (.slice A r.length c) ∧ ROwn RLb 2 61 base T w' r (.slice A r.length c) ∧ Ext w w'

set_option maxHeartbeats 1000000 in
set_option maxRecDepth 100000 in
theorem accepts_c (S : Nat → Prop) (s : Sy) (hok : okSyP s) (g : Nat) (st : Int) (w : World) (hst : I64 st) (hS : IsSys S w g s) :
  Calls Tryz.prog 141 #[.pointer (some ⟨g, 0, none⟩), .int .i64 st] w (LbPost (fun q => S q ∧ q < w.heap.size) w.heap.size (accL s st) w) := by
 have HS := Lib.hid hS
 clear hS
 have hmm := @run_makeMap Tryz.prog
 refine (callsIn_wide (n := 3)).1 ?_
 refine callsIn_of_wp_marks Tryz.func141 rfl trivial ?_ rfl
 simp only [Tryz.ntmps141, List.size_toArray, List.length_cons, List.length_nil, Nat.reduceAdd, Nat.reduceSub, Array.replicate_succ, Array.replicate_zero, List.push_toArray, List.append_toArray, List.nil_append, List.cons_append]
 gi_wp2_with fail
 obtain ⟨Wa, hWa⟩ : ∃ Wa, ((w.alloc (.cells #[.pointer (some ⟨g, 0, none⟩)] 111)).alloc (.map #[] 0)).alloc (.cells #[.map (some (w.heap.size + 1))] 240) = Wa := ⟨_, rfl⟩
 have hX1 : Ext w Wa := by rw [← hWa]; exact (((Ext.refl w).alloc _).alloc _).alloc _
 have bS1 : Boxed Wa w.heap.size 111 (.pointer (some ⟨g, 0, none⟩)) := by rw [← hWa]; exact ((Boxed.new w 111 _).alloc _).alloc _
 have hM1 : IsMap (Value.int .i64) Wa (w.heap.size + 1) (fB (metGo s [])) := by
  rw [← hWa]
  have h := IsMap.new (Value.int .i64) (w.alloc (.cells #[.pointer (some ⟨g, 0, none⟩)] 111))
  rw [World.size_alloc] at h
  have e : fB (metGo s []) = fun _ => none := by funext n; simp [fB, metGo]
  rw [e]
  exact h.move (Below.heap_alloc _ _ _ (by simp))
 have bM1 : Boxed Wa (w.heap.size + 2) 240 (.map (some (w.heap.size + 1))) := by
  rw [← hWa]
  have h := Boxed.new ((w.alloc (.cells #[.pointer (some ⟨g, 0, none⟩)] 111)).alloc (.map #[] 0)) 240 (.map (some (w.heap.size + 1)))
  rwa [World.size_alloc, World.size_alloc] at h
 have hszA : Wa.heap.size = w.heap.size + 3 := by rw [← hWa]; simp
 have hc2 := (calm_c (fun _ => True) s hok g [st] _ _ ((HS.out.mono fun _ _ _ => trivial).bel (hX1.trans' ((Ext.refl Wa).alloc _))) (rsl_one Wa st hst trivial) (by simp)).mono fun e w' h => RowPost.at h (b' := w.heap.size + 4) (by simp; omega)
 rw [hWa]
 rw [hszA] at hc2
 clear hWa
 refine ⟨trivial, ?_⟩
 gi_at_call 208
 refine (callsIn_wide.2 hc2).mono ?_
 rintro e w1 ⟨At, ct, rfl, ho1, hx1⟩
 obtain ⟨ts, hts⟩ : ∃ ts, calmL s [st] = ts := ⟨_, rfl⟩
 have hlt : ts.length ≤ 200000 := by rw [← hts]; have := calmL_len s [st]; have := calmPot_le s [st]; have := hok.2.2.2.1; simp only [List.length_cons, List.length_nil] at *; omega
 have hval : Hid (accL s st = accFrom (metGo s ts) 0 s.ls) := by show _ = _; rw [accL, hts]
 rw [hts] at ho1 ⊢
 clear hts hc2
 have hXa : Ext Wa w1 := ((Ext.refl Wa).alloc _).trans' hx1
 have hX2 : Ext w w1 := hX1.trans' hXa
 have hsz1 : w.heap.size + 4 ≤ w1.heap.size := by have := hx1.size; simp at this; omega
 have HB1 := Lib.hid ((Ext.kp (S := fun _ => True) hXa).block _ bS1.lt trivial |>.trans bS1 : Boxed w1 w.heap.size 111 _)
 have HB2 := Lib.hid (hM1.move ((Ext.kp (S := fun _ => True) hXa).block _ hM1.lt trivial))
 have HB3 := Lib.hid ((Ext.kp (S := fun _ => True) hXa).block _ bM1.lt trivial |>.trans bM1 : Boxed w1 (w.heap.size + 2) 240 _)
 have HTS := Lib.hid ho1
 clear ho1 bS1 hM1 bM1 hx1
 gi_wp2_with fail
 refine wpIn_loop (fun a' wr => ∃ u7 u19 u20 u21 u22 u23 u24 u25 u41 : Value, ∃ (ds : List Deferred), (∃ (k : Nat), u19 = Value.int .i64 (k : Int) ∧ k ≤ ts.length ∧ Boxed wr w.heap.size 111 (.pointer (some ⟨g, 0, none⟩)) ∧ Boxed wr (w.heap.size + 2) 240 (.map (some (w.heap.size + 1))) ∧ IsMap (Value.int .i64) wr (w.heap.size + 1) (fB (metGo s (ts.take k))) ∧ ROwn RInt 1 3 (w.heap.size + 4) (fun _ => False) wr ts (.slice At ts.length ct) ∧
   Marks (w.heap.size + 4) ds wr ∧ Ext w wr) ∧
   a' = { tmps := #[Value.pointer (some ⟨g, 0, none⟩), Value.int .i64 st, Value.pointer (some ⟨w.heap.size, 0, none⟩), undef, Value.slice none 0 0, Value.pointer (some ⟨w.heap.size + 2, 0, none⟩), undef, u7, undef, undef, undef, undef, undef, Value.map (some (w.heap.size + 1)), Value.pointer (some ⟨g, 0, none⟩), Value.int .i64 st, Value.slice (some ⟨w.heap.size + 3, 0, none⟩) 1 1, Value.slice At ts.length ct, Value.int .i64 (ts.length : Int), u19, u20, u21, u22, u23, u24, u25, undef, undef, undef, undef, undef, undef, undef, undef, undef, undef, undef, undef, undef, undef, undef, u41, undef, undef, undef, undef, undef, undef, undef, undef, undef, undef, undef, undef, undef, undef, undef, undef, undef, undef, undef, undef], defers := ds })
  (fun a' _ => ts.length - (intOf (a'.tmps.getD 19 undef)).toNat) ?_ ?_
 ·refine ⟨_, _, _, _, _, _, _, _, _, [], ⟨0, rfl, Nat.zero_le _, HB1.out, HB3.out, ?_, HTS.out, Marks.nil _ _, hX2⟩, rfl⟩
  exact HB2.out
 clear hX2 hsz1 HB1 HB2 HB3 HTS hXa
 rintro _ wr ⟨u7, u19, u20, u21, u22, u23, u24, u25, u41, ds, ⟨k, rfl, hk, q1, qm, hm, hts, hM, hX⟩, rfl⟩
 have e1 := q1.cell
 have em := qm.cell
 have hltm := qm.lt
 by_cases hlt2 : k < ts.length
 ·obtain ⟨b, off, cs, rfl, hb, hT, hl, hr, hcell⟩ := (hts.sl RInt.good (by decide)).get k hlt2
  obtain rfl := hr.1
  have g0 := (by simpa using hcell.get 0 _ : wr.cell? ⟨b, off + k, none⟩ = some (.int .i64 ts[k]))
  have HTS := Lib.hid hts
  have HM := Lib.hid hM
  have HMP := Lib.hid hm
  have hc175 := fun W => (callsIn_wide.1 (steps_in 3 (some ⟨g, 0, none⟩) ts[k] W))
  clear hts hM hm hcell hr hl hT
  gi_wp2_with fail
  refine ⟨trivial, ?_⟩
  gi_at_call 175
  refine (callsIn_wide.2 (hc175 _)).mono ?_
  rintro e w' ⟨rfl, rfl⟩
  gi_wp2_with fail
  obtain ⟨W0, hW0⟩ : ∃ W0, (wr.alloc (.cells #[.pointer (some ⟨g, 0, none⟩)] 111)).alloc (.cells #[.int .i64 ts[k]] 3) = W0 := ⟨_, rfl⟩
  have hsz0 : W0.heap.size = wr.heap.size + 2 := by rw [← hW0]; show (World.heap _).size = _; simp
  have hX0 : Ext wr W0 := by rw [← hW0]; exact ((Ext.refl wr).alloc _).alloc _
  have bs0 : Boxed W0 wr.heap.size 111 (.pointer (some ⟨g, 0, none⟩)) := by rw [← hW0]; exact ((Boxed.new wr 111 _).alloc _)
  have bt0 : Boxed W0 (wr.heap.size + 1) 3 (.int .i64 ts[k]) := by rw [← hW0]; have := Boxed.new (wr.alloc (.cells #[.pointer (some ⟨g, 0, none⟩)] 111)) 3 (.int .i64 ts[k]); rwa [World.size_alloc] at this
  rw [hW0]
  clear hW0
  obtain ⟨Z, hZ⟩ : ∃ Z : Nat → Prop, Z = fun q => (S q ∧ q < w.heap.size) ∨ q = wr.heap.size := ⟨_, rfl⟩
  have hS0 : IsSys Z W0 g s := (HS.out.mono (S' := Z) fun q h1 h2 => by rw [hZ]; exact .inl ⟨h2, h1⟩).bel (hX.trans' hX0)
  have hwr := hX.size
  have hZ' : ∀ q, Z q → q < W0.heap.size := fun q hq => by
   rw [hZ] at hq
   rcases hq with ⟨_, h⟩ | h <;> omega
  have hZn : ∀ q, Z q → q ≠ w.heap.size + 1 := fun q hq e => by
   rw [hZ] at hq
   rcases hq with ⟨_, h⟩ | h <;> omega
  have hm0 : IsMap (Value.int .i64) W0 (w.heap.size + 1) (fB (metGo s (ts.take k))) := HMP.out.move ((Ext.kp (S := fun _ => True) hX0).block _ HMP.out.lt trivial)
  have q10 : Boxed W0 w.heap.size 111 (.pointer (some ⟨g, 0, none⟩)) := (Ext.kp (S := fun _ => True) hX0).block _ q1.lt trivial |>.trans q1
  have qm0 : Boxed W0 (w.heap.size + 2) 240 (.map (some (w.heap.size + 1))) := (Ext.kp (S := fun _ => True) hX0).block _ qm.lt trivial |>.trans qm
  have hIown : OwnFrom W0.heap.size (fun (pre : List (Fin s.es.length)) W => Bt (fun q => q = w.heap.size + 1) W0 W ∧ IsMap (Value.int .i64) W (w.heap.size + 1) (fB (metRow s (metGo s (ts.take k)) pre))) := (bt_own _ W0).and (map_own (by omega) _)
  refine wpIn_rangeFunc_ownH rfl (by omega) (gf := 234) (lb := #[.pointer (some ⟨wr.heap.size, 0, none⟩), .pointer (some ⟨wr.heap.size + 1, 0, none⟩)]) rfl trivial (enters_of Tryz.func234 (by kernel_rfl) rfl)
   (steps_stops (3 - 1) (by omega) Z s g wr.heap.size (wr.heap.size + 1) ts[k] (by rw [hZ]; exact .inr rfl) W0 hS0 bs0.cell bt0.cell) kp_t (kp_b hZ') (Below.refl _ _) (fun _ => rfl)
   (fun pre W => Bt (fun q => q = w.heap.size + 1) W0 W ∧ IsMap (Value.int .i64) W (w.heap.size + 1) (fB (metRow s (metGo s (ts.take k)) pre))) (fun _ _ _ => False) hIown (fun _ _ _ _ _ hs _ _ => hs)
   ⟨Bt.refl _ _, by
    have e : metRow s (metGo s (ts.take k)) [] = metGo s (ts.take k) := by funext n; simp [metRow]
    rw [e]; exact hm0⟩
   (fun i a' W => ∃ Bx, W0.heap.size ≤ Bx ∧ W.heap[Bx]? = some (.cells #[.int .i64 s.es[i].f, .int .i64 s.es[i].l, .int .i64 s.es[i].t] 88) ∧ a' = { tmps := #[Value.pointer (some ⟨g, 0, none⟩), Value.int .i64 st, Value.pointer (some ⟨w.heap.size, 0, none⟩), undef, Value.slice none 0 0, Value.pointer (some ⟨w.heap.size + 2, 0, none⟩), undef, Value.int .i64 ts[k], undef, Value.pointer (some ⟨Bx, 0, none⟩), undef, undef, undef, Value.map (some (w.heap.size + 1)), Value.pointer (some ⟨g, 0, none⟩), Value.int .i64 st, Value.slice (some ⟨w.heap.size + 3, 0, none⟩) 1 1, Value.slice (some ⟨b, off, none⟩) ts.length ct, Value.int .i64 (ts.length : Int), Value.int .i64 (k : Int), Value.bool true, Value.pointer (some ⟨b, off + k, none⟩), Value.int .i64 ts[k], Value.pointer (some ⟨g, 0, none⟩), Value.int .i64 ts[k], Value.func (Fn.func 234) #[] #[Value.pointer (some ⟨wr.heap.size, 0, none⟩), Value.pointer (some ⟨wr.heap.size + 1, 0, none⟩)], Value.int .i64 (i.1 : Int), Value.agg #[.int .i64 s.es[i].f, .int .i64 s.es[i].l, .int .i64 s.es[i].t], undef, undef, undef, undef, undef, undef, undef, undef, undef, undef, undef, undef, undef, u41, undef, undef, undef, undef, undef, undef, undef, undef, undef, undef, undef, undef, undef, undef, undef, undef, undef, undef, undef, undef], defers := [] })
   (fun i a' _ X Y row hs hg hr => by
    obtain ⟨Bx, h1, h2, h3⟩ := hs
    exact ⟨Bx, h1, (hg.block Bx (Array.getElem?_eq_some_iff.1 h2).1 fun e => by
     obtain ⟨_, o', h4, h5⟩ := hr Bx e.symm
     rw [h2] at h4
     cases h4
     cases h5).trans h2, h3⟩)
   ?assign ?body ?done ?stop
  case assign =>
   rintro l2 pre i W K hI hK
   unfold edArgs
   gi_wp2
   refine hK _ _ ((KeepsOthers.alloc _ _).from _) ⟨by simp, fun q h1 _ => Below.heap_alloc _ _ _ h1⟩ (hIown.alloc _ hI) ⟨W.heap.size, hI.1.size, World.alloc_heap_new W _, rfl⟩
  case body =>
   rintro l2 pre i a' W hl2 _ ⟨hbt, hmW⟩ ⟨Bx, hBx, hbox, rfl⟩ hlen2
   obtain ⟨xi, hxl⟩ := i
   have hed := (hok.2.2.2.2.2 xi hxl).1
   have hlab : 0 ≤ s.es[xi].l ∧ s.es[xi].l < s.ls.length := by
    simp only [okEd, isB, Bool.and_eq_true, decide_eq_true_eq] at hed
    omega
   obtain ⟨li, hli⟩ : ∃ li : Nat, s.es[xi].l = (li : Int) := ⟨s.es[xi].l.toNat, by omega⟩
   have hli2 : li < s.ls.length := by omega
   have hkZ := hbt.kp fun q _ hq => hZn q hq
   obtain ⟨v', u', m, f, h1, h2, h3, h4, h5, h6, h7, h8⟩ := (hS0.move hkZ).ex
   obtain ⟨bl, ol, cl, csl, rfl, hbl, hSl, hll, hrl, hcl⟩ := h2.at li hli2
   obtain ⟨il, vl, rfl, hvl⟩ := id hrl
   have hvis := fun X => visible_c s.ls[li].g vl (exto W X)
   have g1 : W.cell? ⟨g, 1, none⟩ = some (.slice (some ⟨bl, ol, none⟩) s.ls.length cl) := cell_of_row W _ 1 _ _ _ h1
   have gl : W.cell? ⟨bl, ol + li * 2, none⟩ = some (.int .i64 s.ls[li].g) := by simpa using hcl.get 0 _
   have gl1 : W.cell? ⟨bl, ol + li * 2 + 1, none⟩ = some vl := hcl.get 1 _
   have x1 : W.cell? ⟨Bx, 1, none⟩ = some (.int .i64 (li : Int)) := by rw [← hli]; exact cell_of_row W _ 1 _ _ _ hbox
   have y1 : W.cell? ⟨w.heap.size, 0, none⟩ = some (.pointer (some ⟨g, 0, none⟩)) := hbt.cell q10.cell (by simp)
   have ym : W.cell? ⟨w.heap.size + 2, 0, none⟩ = some (.map (some (w.heap.size + 1))) := hbt.cell qm0.cell (by simp)
   have hhas := Lib.hid (lbHas_at s (fun y => visB y.g) hli hli2)
   have HMW := Lib.hid hmW
   have HBT := Lib.hid hbt
   clear hmW hbt h2 h3 h6 h7 h8 hrl hcl hvl hed h1 hbox
   by_cases hvb : visB s.ls[li].g = true
   ·have hv : ∀ X, Calls Tryz.prog 176 #[.agg #[.int .i64 s.ls[li].g, vl]] (exto W X) fun e w' => e = .returned (.bool true) ∧ Ext (exto W X) w' := fun X => by have := hvis X; rwa [hvb] at this
    have hadd := Lib.hid (fB_add s (metGo s (ts.take k)) pre ⟨xi, hxl⟩ (by show lbHas s s.es[xi].l _ = true; rw [hhas.out]; exact hvb))
    clear hvis hvb
    gi_wp2_with fail
    (refine wpIn_region_ext (by kernel_rfl) (by kernel_rfl) (by kernel_rfl) ?_; (repeat (first | go_big_quiet_step ((go_at_call 176; exact quiet_ext (hv _))) | quiet_step ((go_at_call 176; exact quiet_ext (hv _))))); refine wpQuiet_nil ?_)
    intro w4 hx4
    have x4 := Ext.keep hx4 x1
    have y4 := Ext.keep hx4 ym
    obtain ⟨w5, hr5, hm5, hg5⟩ := (HMW.out.move ((Ext.kp (S := fun _ => True) hx4).block _ HMW.out.lt trivial)).store (P := Tryz.prog) Tryz.underlying240 keyInt (li : Int) (.bool true)
    have HM5 := Lib.hid hm5
    have HG5 := Lib.hid hg5
    clear hm5 hg5 x1 ym y1 g1 gl gl1
    gi_wp2_with fail
    have hb5 : Bt (fun q => q = w.heap.size + 1) w4 w5 := (Bt.of_grown HG5.out).mono fun q _ e => by injection e
    have hbW := (hx4.bt (Z := fun q => q = w.heap.size + 1)).trans hb5
    refine ⟨keepsFrom_bt hbW _ fun q o hn hq _ => by omega, hbW.kp fun q _ hq => hZn q hq, HBT.out.trans hbW, ?_⟩
    rw [hadd.out]
    show IsMap _ _ _ (fun n => if n = s.es[xi].l then _ else _)
    rw [hli]
    exact HM5.out
   ·have hv : ∀ X, Calls Tryz.prog 176 #[.agg #[.int .i64 s.ls[li].g, vl]] (exto W X) fun e w' => e = .returned (.bool false) ∧ Ext (exto W X) w' := fun X => by have := hvis X; rwa [eq_false_of_ne_true hvb] at this
    have hsame := Lib.hid (fB_same s (metGo s (ts.take k)) pre ⟨xi, hxl⟩ (by show lbHas s s.es[xi].l _ = false; rw [hhas.out]; exact eq_false_of_ne_true hvb))
    clear hvis hvb
    gi_wp2_with fail
    (refine wpIn_region_ext (by kernel_rfl) (by kernel_rfl) (by kernel_rfl) ?_; (repeat (first | go_big_quiet_step ((go_at_call 176; exact quiet_ext (hv _))) | quiet_step ((go_at_call 176; exact quiet_ext (hv _))))); refine wpQuiet_nil ?_)
    intro w4 hx4
    gi_wp2
    refine ⟨keepsFrom_ext hx4 _, Ext.kp hx4, HBT.out.ext hx4, ?_⟩
    rw [hsame.out]
    exact HMW.out.move ((Ext.kp (S := fun _ => True) hx4).block _ HMW.out.lt trivial)
  case done =>
   rintro D ys W hD rfl ⟨hbt, hmW⟩ hD0
   have HD := Lib.hid hD0
   have HMW := Lib.hid hmW
   have HBT := Lib.hid hbt
   clear hD0 hmW hbt
   gi_wp2
   have hsW := HBT.out.size
   refine ⟨⟨_, _, _, _, _, _, _, _, _, _, ?calmP, rfl⟩, ?calmM⟩
   case calmP =>
    have hbx : Boxed W w.heap.size 111 (.pointer (some ⟨g, 0, none⟩)) := (HBT.out.block _ q10.lt (by omega)).trans q10
    have hbm : Boxed W (w.heap.size + 2) 240 (.map (some (w.heap.size + 1))) := (HBT.out.block _ qm0.lt (by omega)).trans qm0
    have hXX : Ext w W := Bt.new (hX.trans' hX0) HBT.out fun q _ hq => by omega
    refine ⟨k + 1, by go_num, by omega, hbx, hbm, ?_, ?_, HM.out.cons (by omega) (by omega) HD.out fun r h1 h2 => ?_, hXX⟩
    ·have e : metGo s (ts.take (k + 1)) = metRow s (metGo s (ts.take k)) (outN s.es ts[k]) := by funext n; rw [List.take_succ_eq_append_getElem hlt2, metGo_snoc]
     rw [e]
     exact HMW.out
    ·exact (HTS.out.ext RInt.good hX0).bt RInt.good HBT.out fun q _ hq => ⟨fun h => h, fun e => by
      obtain ⟨news, h1, _⟩ := HTS.out
      have := (own_row_base h1 q e).1
      have hq' : q = w.heap.size + 1 := hq
      omega⟩
    ·have h3 : W0.heap[r]? = some (.deferred (some [])) := ((Ext.kp (S := fun _ => True) hX0).block r h1 trivial).trans h2
     refine (HBT.out.block r (by omega) ?_).trans h3
     rintro rfl
     obtain ⟨es, clock, ks, h4, _⟩ := hm0
     rw [h4] at h3
     cases h3
   case calmM => simp [intOf]; omega
  case stop =>
   rintro D c pre W _ _ h _
   exact h.elim
 ·have hkk : ts.take k = ts := List.take_of_length_le (by omega)
  rw [hkk] at hm
  have HM := Lib.hid hM
  have HMP := Lib.hid hm
  obtain ⟨p, hp⟩ : ∃ p, metGo s ts = p := ⟨_, rfl⟩
  rw [hp] at HMP hval
  obtain ⟨v', u', m, f, h1, h2, h3, h4, h5, h6, h7, h8⟩ := HS.out.ex
  obtain ⟨Al, cl, rfl, hcl, hcl0⟩ := h2.val
  have g1 : wr.cell? ⟨g, 1, none⟩ = some (.slice Al s.ls.length cl) := Ext.keep hX (cell_of_row w _ 1 _ _ _ h1)
  have HLS := Lib.hid (RLbs.good.bel (RLbs.good.mono h2 (S' := fun q => S q ∧ q < w.heap.size) fun _ hb h => ⟨h, hb⟩) hX)
  have hls := hok.2.2.1
  have hwr4 : w.heap.size + 3 ≤ wr.heap.size := hltm
  have hlb := infoLba
  clear hts hM hm hkk hp h2 h3 h4 h5 h6 h7 h8 h1
  obtain ⟨we, rfl⟩ : ∃ we, we = wr := ⟨_, rfl⟩
  gi_wp2_with fail

  gi_loopw [10, 48] (fun vo vi wx => ∃ (k : Nat) (A : Option Addr) (c : Nat), k ≤ s.ls.length ∧ vi = .int .i64 k ∧ vo = .slice A (accFrom p 0 (s.ls.take k)).length c ∧ ROwn RLb 2 61 we.heap.size (fun q => S q ∧ q < w.heap.size) wx (accFrom p 0 (s.ls.take k)) (.slice A (accFrom p 0 (s.ls.take k)).length c) ∧ Ext we wx) (fun _ vi _ => s.ls.length - (intOf vi).toNat)
  case atStart => exact ⟨0, none, 0, Nat.zero_le _, rfl, rfl, ROwn.nil .., Ext.refl _⟩
  case round =>
   obtain ⟨j, A, c, hj, rfl, rfl, hown, hE⟩ := hrel
   by_cases hlt : j < s.ls.length
   ·obtain ⟨b, off, cs, rfl, hb, hT, hl, hr, hcell⟩ := (RLbs.good.bel HLS.out hE).get j hlt
    obtain ⟨hi, vl, rfl, hvl⟩ := id hr
    have a0 := hcell.get 0 _
    have a1 := hcell.get 1 _
    simp only [Nat.add_zero] at a0
    obtain ⟨Av, cv, rfl, _, _⟩ := hvl.val
    have em' := Ext.keep hE em
    have hltm2 : w.heap.size + 2 < wr.heap.size := Nat.lt_of_lt_of_le hltm hE.size
    obtain ⟨wb, hwb⟩ : ∃ wb, wb = wr.alloc (.cells #[.int .i64 s.ls[j].g, .slice Av s.ls[j].v.length cv] 61) := ⟨_, rfl⟩
    have hXb : Ext we wb := by rw [hwb]; exact hE.alloc _
    have hlk := (HMP.out.move ((Ext.kp (S := fun _ => True) hXb).block _ HMP.out.lt trivial)).lookup (P := Tryz.prog) Tryz.underlying240 keyInt (z := .bool false) (by kernel_rfl) (j : Int)
    rw [fB_get] at hlk
    have hst := Lib.hid (accFrom_take p s.ls j hlt)
    have hlen := accFrom_len p 0 (s.ls.take j)
    rw [List.length_take] at hlen
    by_cases hp : p (j : Int) = true
    ·rw [hp] at hlk
     have hst2 : Hid (accFrom p 0 (s.ls.take (j + 1)) = accFrom p 0 (s.ls.take j) ++ [s.ls[j]]) := by show _ = _; rw [hst.out, if_pos hp]
     obtain ⟨i3, hi3, hzz⟩ := Option.map_eq_some_iff.1 hlb
     simp only [Prod.mk.injEq] at hzz
     obtain ⟨hz0, hz1, hz2⟩ := hzz
     have ho2 : ROwn RLb 2 61 we.heap.size (fun q => S q ∧ q < w.heap.size) (wb.alloc (.cells #[.int .i64 s.ls[j].g, .slice Av s.ls[j].v.length cv] 61)) (accFrom p 0 (s.ls.take j)) (.slice A (accFrom p 0 (s.ls.take j)).length c) := hown.ext RLb.good (by rw [hwb]; exact ((Ext.refl _).alloc _).alloc _)
     have hr2 : RLb (fun q => (S q ∧ q < w.heap.size) ∧ (Value.slice A (accFrom p 0 (s.ls.take j)).length c).ownBlock ≠ some q) (wb.alloc (.cells #[.int .i64 s.ls[j].g, .slice Av s.ls[j].v.length cv] 61)) s.ls[j] [.int .i64 s.ls[j].g, .slice Av s.ls[j].v.length cv] :=
      RLb.good.bel (RLb.good.mono hr fun q _ hq => ⟨hq, fun e => by
       obtain ⟨news, h1, _⟩ := hown
       have := (own_row_base h1 q e).1
       omega⟩) (by rw [hwb]; exact ((Ext.refl _).alloc _).alloc _)
     obtain ⟨news, hrow, hF⟩ := ho2
     have HR2 := Lib.hid hr2
     have HF := Lib.hid hF
     have hszb : wb.heap.size = wr.heap.size + 1 := by rw [hwb]; simp
     have hszE := hE.size
     subst hwb
     have hcc := cells_new (wr.alloc (.cells #[.int .i64 s.ls[j].g, .slice Av s.ls[j].v.length cv] 61)) #[.int .i64 s.ls[j].g, .slice Av s.ls[j].v.length cv] 61
     rw [World.size_alloc] at hcc
     clear hr2 hF hr hvl hl hown hst hp hlb
     gi_wp2_with (gi_at_builtin; refine wpListIn_append_at _ rfl _ _ 22 rfl we.heap.size 61 i3 _ 2 32 Tryz.underlying22 hi3 hz0 hz1 hz2 rfl (by decide) _ _ _ rfl hrow ⟨wr.heap.size + 1, 0, none⟩ 1 1 [.int .i64 s.ls[j].g, .slice Av s.ls[j].v.length cv] rfl rfl hcc (by simp [Value.oneCell']) (by unfold maxLen; omega) (by omega) (by simp; omega) ?_; intro v5 w5 hown5 hgrow5 hat5; obtain ⟨g5, c5, rfl⟩ := ownsRow_succ hown5)
     have hp5 := Lib.hid (ROwn.push RLb.good HF.out (Flat.single HR2.out rfl) hown5 hgrow5 hat5)
     have hX5 : Ext we w5 := Below.grown ((hE.alloc _).alloc _) hgrow5 (by simp; omega) fun q hq => (own_row_base hrow q hq).1
     clear hown5 hgrow5 hat5 hrow hcc
     gi_wp2_with fail
     go_roundw
     case rel => exact ⟨j + 1, some ⟨g5, 0, none⟩, c5, by omega, by go_num, by rw [hst2.out, List.length_append]; rfl, by rw [hst2.out, List.length_append]; exact hp5.out, hX5⟩
     case measure => simp [intOf]; omega
    ·rw [eq_false_of_ne_true hp] at hlk
     have hst2 : Hid (accFrom p 0 (s.ls.take (j + 1)) = accFrom p 0 (s.ls.take j)) := by show _ = _; rw [hst.out, if_neg hp]
     have HO := Lib.hid hown
     subst hwb
     clear hr hvl hl hown hst hp hlb
     gi_wp2_with fail
     go_roundw
     case rel => exact ⟨j + 1, A, c, by omega, by go_num, by rw [hst2.out], by rw [hst2.out]; exact HO.out.ext RLb.good ((Ext.refl _).alloc _), hE.alloc _⟩
     case measure => simp [intOf]; omega
   ·have hkk : Hid (accL s st = accFrom p 0 (s.ls.take j)) := by show _ = _; rw [hval.out, List.take_of_length_le (by omega)]
    have HO := Lib.hid hown
    clear hown
    gi_wp2_with fail
    have hM2 : Marks (w.heap.size + 4) ds wr := HM.out.keep fun r hr h => ((Ext.kp (S := fun _ => True) hE).block r (Array.getElem?_eq_some_iff.1 h).1 trivial).trans h
    refine Marks.leave (by simp) hM2 fun w3 hb3 => ?_
    refine ⟨_, results_tmp rfl _ _ _, A, c, ?_, ?_, ?_⟩
    ·rw [hkk.out]; rfl
    ·rw [hkk.out]
     exact (HO.out.bt RLb.good hb3 fun b _ hz => ⟨fun h => by have := h.2; have := hz.1; omega, HO.out.not_def hz.2⟩).base (by omega)
    ·exact Bt.new (hX.trans' hE) hb3 fun i _ hi => by have := hi.1; omega
end
end Go.Proofs.YtegenalcheooeaaGreat
