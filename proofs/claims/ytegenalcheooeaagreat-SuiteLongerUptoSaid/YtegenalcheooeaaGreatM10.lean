/- Of the proof of a law of the suites: Accepts, RFacts, RLast. -/
import Derived.Test.YtegenalcheooeaaGreatM01
import Derived.Test.YtegenalcheooeaaGreatM09
/- suite.accepts: walked. -/
set_option linter.unusedSectionVars false
set_option linter.unusedSimpArgs false
set_option linter.unusedVariables false
namespace Go.Proofs.YtegenalcheooeaaGreat
open Go.RowKit
attribute [local go_sem] cell?_exto
open Go.Shelf
attribute [local go_sem] Oper.semAt_some

/-! ### What it comes to -/
def edHas (s : Sy) (n : Int) (j : Fin s.es.length) : Bool := decide (s.es[j].l = n) && lbHas s s.es[j].l (fun y => visB y.g)
def metRow (s : Sy) (p : Int → Bool) (pre : List (Fin s.es.length)) (n : Int) : Bool := p n || pre.any (edHas s n)
def metGo (s : Sy) (sts : List Int) (n : Int) : Bool := sts.any fun st => (outN s.es st).any (edHas s n)
def accFrom (p : Int → Bool) : Nat → List Lb → List Lb
  | _, [] => []
  | i, x :: xs => if p i then x :: accFrom p (i + 1) xs else accFrom p (i + 1) xs
/-- The labels that a state accepts. -/
def accL (s : Sy) (st : Int) : List Lb := accFrom (metGo s (calmL s [st])) 0 s.ls
theorem accFrom_append (p : Int → Bool) : ∀ (xs ys : List Lb) (i : Nat), accFrom p i (xs ++ ys) = accFrom p i xs ++ accFrom p (i + xs.length) ys
  | [], ys, i => by simp [accFrom]
  | x :: xs, ys, i => by
    have h := accFrom_append p xs ys (i + 1)
    rw [List.cons_append, accFrom, accFrom, h, List.length_cons, show i + 1 + xs.length = i + (xs.length + 1) from by omega]
    split <;> rfl
theorem accFrom_take (p : Int → Bool) (xs : List Lb) (k : Nat) (h : k < xs.length) : accFrom p 0 (xs.take (k + 1)) = if p k then accFrom p 0 (xs.take k) ++ [xs[k]] else accFrom p 0 (xs.take k) := by
  rw [List.take_succ_eq_append_getElem h, accFrom_append, List.length_take, Nat.min_eq_left (by omega), Nat.zero_add, accFrom, accFrom]
  split <;> simp
theorem accFrom_len (p : Int → Bool) : ∀ (i : Nat) (xs : List Lb), (accFrom p i xs).length ≤ xs.length
  | _, [] => by simp [accFrom]
  | i, x :: xs => by
    have := accFrom_len p (i + 1) xs
    rw [accFrom]
    split <;> simp only [List.length_cons] <;> omega
theorem accL_len (s : Sy) (st : Int) : (accL s st).length ≤ s.ls.length := accFrom_len _ _ _
theorem metRow_snoc (s : Sy) (p : Int → Bool) (pre : List (Fin s.es.length)) (j : Fin s.es.length) (n : Int) : metRow s p (pre ++ [j]) n = (metRow s p pre n || edHas s n j) := by simp [metRow, Bool.or_assoc]
theorem metGo_snoc (s : Sy) (sts : List Int) (st : Int) (n : Int) : metGo s (sts ++ [st]) n = metRow s (metGo s sts) (outN s.es st) n := by simp [metGo, metRow]
/-- A set of whole numbers, as a map of truth values. -/
def fB (p : Int → Bool) (n : Int) : Option Value := if p n then some (.bool true) else none
theorem fB_get (p : Int → Bool) (n : Int) : (fB p n).getD (.bool false) = .bool (p n) := by
  unfold fB
  split
  · rename_i h; rw [h]; rfl
  · rename_i h; rw [eq_false_of_ne_true h]; rfl
theorem fB_same (s : Sy) (p : Int → Bool) (pre : List (Fin s.es.length)) (j : Fin s.es.length) (h : lbHas s s.es[j].l (fun y => visB y.g) = false) : fB (metRow s p (pre ++ [j])) = fB (metRow s p pre) := by
  funext n
  unfold fB
  rw [metRow_snoc, edHas, h, Bool.and_false, Bool.or_false]
theorem fB_add (s : Sy) (p : Int → Bool) (pre : List (Fin s.es.length)) (j : Fin s.es.length) (h : lbHas s s.es[j].l (fun y => visB y.g) = true) : fB (metRow s p (pre ++ [j])) = fun n => if n = s.es[j].l then some (.bool true) else fB (metRow s p pre) n := by
  funext n
  unfold fB
  rw [metRow_snoc, edHas, h, Bool.and_true]
  by_cases e : n = s.es[j].l
  · simp [e]
  · have e' : ¬ s.es[j].l = n := fun h => e h.symm
    rw [decide_eq_false e', Bool.or_false, if_neg e]

theorem cells_new (w : World) (cs : Array Value) (t : TypeId) : ∀ j u, cs.toList[j]? = some u → (w.alloc (.cells cs t)).cell? ((⟨w.heap.size, 0, none⟩ : Addr).add j) = some u := fun j u h => by
  rw [Addr.add_lit, Nat.zero_add]
  exact (cell_of_row _ _ j _ _ _ (World.alloc_heap_new w _)).trans (by simpa using h)
/-- What it hands back: a row of labels of one's own, whose values lie where T says. -/
def LbPost (T : Nat → Prop) (base : Nat) (r : List Lb) (w : World) (e : Ending) (w' : World) : Prop := ∃ A c, e = .returned (.slice A r.length c) ∧ ROwn RLb 2 61 base T w' r (.slice A r.length c) ∧ Ext w w'

set_option maxHeartbeats 1000000 in
set_option maxRecDepth 100000 in
theorem accepts_c (S : Nat → Prop) (s : Sy) (hok : okSyP s) (g : Nat) (st : Int) (w : World) (hst : I64 st) (hS : IsSys S w g s) :
    Calls Tryz.prog 141 #[.pointer (some ⟨g, 0, none⟩), .int .i64 st] w (LbPost (fun q => S q ∧ q < w.heap.size) w.heap.size (accL s st) w) := by
  have HS := Lib.hid hS
  clear hS
  have hmm := @run_makeMap Tryz.prog
  refine (callsIn_wide (n := 3)).1 ?_
  refine callsIn_of_wp_marks Tryz.func141 rfl trivial ?_ rfl
  simp only [Tryz.ntmps141, List.size_toArray, List.length_cons, List.length_nil, Nat.reduceAdd, Nat.reduceSub, Array.replicate_succ, Array.replicate_zero, List.push_toArray, List.append_toArray, List.nil_append, List.cons_append]
  gi_wp2_with fail
  obtain ⟨Wa, hWa⟩ : ∃ Wa, ((w.alloc (.cells #[.pointer (some ⟨g, 0, none⟩)] 111)).alloc (.map #[] 0)).alloc (.cells #[.map (some (w.heap.size + 1))] 240) = Wa := ⟨_, rfl⟩
  have hX1 : Ext w Wa := by rw [← hWa]; exact (((Ext.refl w).alloc _).alloc _).alloc _
  have bS1 : Boxed Wa w.heap.size 111 (.pointer (some ⟨g, 0, none⟩)) := by rw [← hWa]; exact ((Boxed.new w 111 _).alloc _).alloc _
  have hM1 : IsMap (Value.int .i64) Wa (w.heap.size + 1) (fB (metGo s [])) := by
    rw [← hWa]
    have h := IsMap.new (Value.int .i64) (w.alloc (.cells #[.pointer (some ⟨g, 0, none⟩)] 111))
    rw [World.size_alloc] at h
    have e : fB (metGo s []) = fun _ => none := by funext n; simp [fB, metGo]
    rw [e]
    exact h.move (Below.heap_alloc _ _ _ (by simp))
  have bM1 : Boxed Wa (w.heap.size + 2) 240 (.map (some (w.heap.size + 1))) := by
    rw [← hWa]
    have h := Boxed.new ((w.alloc (.cells #[.pointer (some ⟨g, 0, none⟩)] 111)).alloc (.map #[] 0)) 240 (.map (some (w.heap.size + 1)))
    rwa [World.size_alloc, World.size_alloc] at h
  have hszA : Wa.heap.size = w.heap.size + 3 := by rw [← hWa]; simp
  have hc2 := (calm_c (fun _ => True) s hok g [st] _ _ ((HS.out.mono fun _ _ _ => trivial).bel (hX1.trans' ((Ext.refl Wa).alloc _))) (rsl_one Wa st hst trivial) (by simp)).mono fun e w' h => RowPost.at h (b' := w.heap.size + 4) (by simp; omega)
  rw [hWa]
  rw [hszA] at hc2
  clear hWa
  refine ⟨trivial, ?_⟩
  gi_at_call 208
  refine (callsIn_wide.2 hc2).mono ?_
  rintro e w1 ⟨At, ct, rfl, ho1, hx1⟩
  obtain ⟨ts, hts⟩ : ∃ ts, calmL s [st] = ts := ⟨_, rfl⟩
  have hlt : ts.length ≤ 200000 := by rw [← hts]; have := calmL_len s [st]; have := calmPot_le s [st]; have := hok.2.2.2.1; simp only [List.length_cons, List.length_nil] at *; omega
  have hval : Hid (accL s st = accFrom (metGo s ts) 0 s.ls) := by show _ = _; rw [accL, hts]
  rw [hts] at ho1 ⊢
  clear hts hc2
  have hXa : Ext Wa w1 := ((Ext.refl Wa).alloc _).trans' hx1
  have hX2 : Ext w w1 := hX1.trans' hXa
  have hsz1 : w.heap.size + 4 ≤ w1.heap.size := by have := hx1.size; simp at this; omega
  have HB1 := Lib.hid ((Ext.kp (S := fun _ => True) hXa).block _ bS1.lt trivial |>.trans bS1 : Boxed w1 w.heap.size 111 _)
  have HB2 := Lib.hid (hM1.move ((Ext.kp (S := fun _ => True) hXa).block _ hM1.lt trivial))
  have HB3 := Lib.hid ((Ext.kp (S := fun _ => True) hXa).block _ bM1.lt trivial |>.trans bM1 : Boxed w1 (w.heap.size + 2) 240 _)
  have HTS := Lib.hid ho1
  clear ho1 bS1 hM1 bM1 hx1
  gi_wp2_with fail
  refine wpIn_loop (fun a' wr => ∃ u7 u19 u20 u21 u22 u23 u24 u25 u41 : Value, ∃ (ds : List Deferred), (∃ (k : Nat), u19 = Value.int .i64 (k : Int) ∧ k ≤ ts.length ∧ Boxed wr w.heap.size 111 (.pointer (some ⟨g, 0, none⟩)) ∧ Boxed wr (w.heap.size + 2) 240 (.map (some (w.heap.size + 1))) ∧ IsMap (Value.int .i64) wr (w.heap.size + 1) (fB (metGo s (ts.take k))) ∧ ROwn RInt 1 3 (w.heap.size + 4) (fun _ => False) wr ts (.slice At ts.length ct) ∧
      Marks (w.heap.size + 4) ds wr ∧ Ext w wr) ∧
      a' = { tmps := #[Value.pointer (some ⟨g, 0, none⟩), Value.int .i64 st, Value.pointer (some ⟨w.heap.size, 0, none⟩), undef, Value.slice none 0 0, Value.pointer (some ⟨w.heap.size + 2, 0, none⟩), undef, u7, undef, undef, undef, undef, undef, Value.map (some (w.heap.size + 1)), Value.pointer (some ⟨g, 0, none⟩), Value.int .i64 st, Value.slice (some ⟨w.heap.size + 3, 0, none⟩) 1 1, Value.slice At ts.length ct, Value.int .i64 (ts.length : Int), u19, u20, u21, u22, u23, u24, u25, undef, undef, undef, undef, undef, undef, undef, undef, undef, undef, undef, undef, undef, undef, undef, u41, undef, undef, undef, undef, undef, undef, undef, undef, undef, undef, undef, undef, undef, undef, undef, undef, undef, undef, undef, undef], defers := ds })
    (fun a' _ => ts.length - (intOf (a'.tmps.getD 19 undef)).toNat) ?_ ?_
  · refine ⟨_, _, _, _, _, _, _, _, _, [], ⟨0, rfl, Nat.zero_le _, HB1.out, HB3.out, ?_, HTS.out, Marks.nil _ _, hX2⟩, rfl⟩
    exact HB2.out
  clear hX2 hsz1 HB1 HB2 HB3 HTS hXa
  rintro _ wr ⟨u7, u19, u20, u21, u22, u23, u24, u25, u41, ds, ⟨k, rfl, hk, q1, qm, hm, hts, hM, hX⟩, rfl⟩
  have e1 := q1.cell
  have em := qm.cell
  have hltm := qm.lt
  by_cases hlt2 : k < ts.length
  · obtain ⟨b, off, cs, rfl, hb, hT, hl, hr, hcell⟩ := (hts.sl RInt.good (by decide)).get k hlt2
    obtain rfl := hr.1
    have g0 := (by simpa using hcell.get 0 _ : wr.cell? ⟨b, off + k, none⟩ = some (.int .i64 ts[k]))
    have HTS := Lib.hid hts
    have HM := Lib.hid hM
    have HMP := Lib.hid hm
    have hc175 := fun W => (callsIn_wide.1 (steps_in 3 (some ⟨g, 0, none⟩) ts[k] W))
    clear hts hM hm hcell hr hl hT
    gi_wp2_with fail
    refine ⟨trivial, ?_⟩
    gi_at_call 175
    refine (callsIn_wide.2 (hc175 _)).mono ?_
    rintro e w' ⟨rfl, rfl⟩
    gi_wp2_with fail
    obtain ⟨W0, hW0⟩ : ∃ W0, (wr.alloc (.cells #[.pointer (some ⟨g, 0, none⟩)] 111)).alloc (.cells #[.int .i64 ts[k]] 3) = W0 := ⟨_, rfl⟩
    have hsz0 : W0.heap.size = wr.heap.size + 2 := by rw [← hW0]; show (World.heap _).size = _; simp
    have hX0 : Ext wr W0 := by rw [← hW0]; exact ((Ext.refl wr).alloc _).alloc _
    have bs0 : Boxed W0 wr.heap.size 111 (.pointer (some ⟨g, 0, none⟩)) := by rw [← hW0]; exact ((Boxed.new wr 111 _).alloc _)
    have bt0 : Boxed W0 (wr.heap.size + 1) 3 (.int .i64 ts[k]) := by rw [← hW0]; have := Boxed.new (wr.alloc (.cells #[.pointer (some ⟨g, 0, none⟩)] 111)) 3 (.int .i64 ts[k]); rwa [World.size_alloc] at this
    rw [hW0]
    clear hW0
    obtain ⟨Z, hZ⟩ : ∃ Z : Nat → Prop, Z = fun q => (S q ∧ q < w.heap.size) ∨ q = wr.heap.size := ⟨_, rfl⟩
    have hS0 : IsSys Z W0 g s := (HS.out.mono (S' := Z) fun q h1 h2 => by rw [hZ]; exact .inl ⟨h2, h1⟩).bel (hX.trans' hX0)
    have hwr := hX.size
    have hZ' : ∀ q, Z q → q < W0.heap.size := fun q hq => by
      rw [hZ] at hq
      rcases hq with ⟨_, h⟩ | h <;> omega
    have hZn : ∀ q, Z q → q ≠ w.heap.size + 1 := fun q hq e => by
      rw [hZ] at hq
      rcases hq with ⟨_, h⟩ | h <;> omega
    have hm0 : IsMap (Value.int .i64) W0 (w.heap.size + 1) (fB (metGo s (ts.take k))) := HMP.out.move ((Ext.kp (S := fun _ => True) hX0).block _ HMP.out.lt trivial)
    have q10 : Boxed W0 w.heap.size 111 (.pointer (some ⟨g, 0, none⟩)) := (Ext.kp (S := fun _ => True) hX0).block _ q1.lt trivial |>.trans q1
    have qm0 : Boxed W0 (w.heap.size + 2) 240 (.map (some (w.heap.size + 1))) := (Ext.kp (S := fun _ => True) hX0).block _ qm.lt trivial |>.trans qm
    have hIown : OwnFrom W0.heap.size (fun (pre : List (Fin s.es.length)) W => Bt (fun q => q = w.heap.size + 1) W0 W ∧ IsMap (Value.int .i64) W (w.heap.size + 1) (fB (metRow s (metGo s (ts.take k)) pre))) := (bt_own _ W0).and (map_own (by omega) _)
    refine wpIn_rangeFunc_ownH rfl (by omega) (gf := 234) (lb := #[.pointer (some ⟨wr.heap.size, 0, none⟩), .pointer (some ⟨wr.heap.size + 1, 0, none⟩)]) rfl trivial (enters_of Tryz.func234 (by kernel_rfl) rfl)
      (steps_stops (3 - 1) (by omega) Z s g wr.heap.size (wr.heap.size + 1) ts[k] (by rw [hZ]; exact .inr rfl) W0 hS0 bs0.cell bt0.cell) kp_t (kp_b hZ') (Below.refl _ _) (fun _ => rfl)
      (fun pre W => Bt (fun q => q = w.heap.size + 1) W0 W ∧ IsMap (Value.int .i64) W (w.heap.size + 1) (fB (metRow s (metGo s (ts.take k)) pre))) (fun _ _ _ => False) hIown (fun _ _ _ _ _ hs _ _ => hs)
      ⟨Bt.refl _ _, by
        have e : metRow s (metGo s (ts.take k)) [] = metGo s (ts.take k) := by funext n; simp [metRow]
        rw [e]; exact hm0⟩
      (fun i a' W => ∃ Bx, W0.heap.size ≤ Bx ∧ W.heap[Bx]? = some (.cells #[.int .i64 s.es[i].f, .int .i64 s.es[i].l, .int .i64 s.es[i].t] 88) ∧ a' = { tmps := #[Value.pointer (some ⟨g, 0, none⟩), Value.int .i64 st, Value.pointer (some ⟨w.heap.size, 0, none⟩), undef, Value.slice none 0 0, Value.pointer (some ⟨w.heap.size + 2, 0, none⟩), undef, Value.int .i64 ts[k], undef, Value.pointer (some ⟨Bx, 0, none⟩), undef, undef, undef, Value.map (some (w.heap.size + 1)), Value.pointer (some ⟨g, 0, none⟩), Value.int .i64 st, Value.slice (some ⟨w.heap.size + 3, 0, none⟩) 1 1, Value.slice (some ⟨b, off, none⟩) ts.length ct, Value.int .i64 (ts.length : Int), Value.int .i64 (k : Int), Value.bool true, Value.pointer (some ⟨b, off + k, none⟩), Value.int .i64 ts[k], Value.pointer (some ⟨g, 0, none⟩), Value.int .i64 ts[k], Value.func (Fn.func 234) #[] #[Value.pointer (some ⟨wr.heap.size, 0, none⟩), Value.pointer (some ⟨wr.heap.size + 1, 0, none⟩)], Value.int .i64 (i.1 : Int), Value.agg #[.int .i64 s.es[i].f, .int .i64 s.es[i].l, .int .i64 s.es[i].t], undef, undef, undef, undef, undef, undef, undef, undef, undef, undef, undef, undef, undef, u41, undef, undef, undef, undef, undef, undef, undef, undef, undef, undef, undef, undef, undef, undef, undef, undef, undef, undef, undef, undef], defers := [] })
      (fun i a' _ X Y row hs hg hr => by
        obtain ⟨Bx, h1, h2, h3⟩ := hs
        exact ⟨Bx, h1, (hg.block Bx (Array.getElem?_eq_some_iff.1 h2).1 fun e => by
          obtain ⟨_, o', h4, h5⟩ := hr Bx e.symm
          rw [h2] at h4
          cases h4
          cases h5).trans h2, h3⟩)
      ?assign ?body ?done ?stop
    case assign =>
      rintro l2 pre i W K hI hK
      unfold edArgs
      gi_wp2
      refine hK _ _ ((KeepsOthers.alloc _ _).from _) ⟨by simp, fun q h1 _ => Below.heap_alloc _ _ _ h1⟩ (hIown.alloc _ hI) ⟨W.heap.size, hI.1.size, World.alloc_heap_new W _, rfl⟩
    case body =>
      rintro l2 pre i a' W hl2 _ ⟨hbt, hmW⟩ ⟨Bx, hBx, hbox, rfl⟩ hlen2
      obtain ⟨xi, hxl⟩ := i
      have hed := (hok.2.2.2.2.2 xi hxl).1
      have hlab : 0 ≤ s.es[xi].l ∧ s.es[xi].l < s.ls.length := by
        simp only [okEd, isB, Bool.and_eq_true, decide_eq_true_eq] at hed
        omega
      obtain ⟨li, hli⟩ : ∃ li : Nat, s.es[xi].l = (li : Int) := ⟨s.es[xi].l.toNat, by omega⟩
      have hli2 : li < s.ls.length := by omega
      have hkZ := hbt.kp fun q _ hq => hZn q hq
      obtain ⟨v', u', m, f, h1, h2, h3, h4, h5, h6, h7, h8⟩ := (hS0.move hkZ).ex
      obtain ⟨bl, ol, cl, csl, rfl, hbl, hSl, hll, hrl, hcl⟩ := h2.at li hli2
      obtain ⟨il, vl, rfl, hvl⟩ := id hrl
      have hvis := fun X => visible_c s.ls[li].g vl (exto W X)
      have g1 : W.cell? ⟨g, 1, none⟩ = some (.slice (some ⟨bl, ol, none⟩) s.ls.length cl) := cell_of_row W _ 1 _ _ _ h1
      have gl : W.cell? ⟨bl, ol + li * 2, none⟩ = some (.int .i64 s.ls[li].g) := by simpa using hcl.get 0 _
      have gl1 : W.cell? ⟨bl, ol + li * 2 + 1, none⟩ = some vl := hcl.get 1 _
      have x1 : W.cell? ⟨Bx, 1, none⟩ = some (.int .i64 (li : Int)) := by rw [← hli]; exact cell_of_row W _ 1 _ _ _ hbox
      have y1 : W.cell? ⟨w.heap.size, 0, none⟩ = some (.pointer (some ⟨g, 0, none⟩)) := hbt.cell q10.cell (by simp)
      have ym : W.cell? ⟨w.heap.size + 2, 0, none⟩ = some (.map (some (w.heap.size + 1))) := hbt.cell qm0.cell (by simp)
      have hhas := Lib.hid (lbHas_at s (fun y => visB y.g) hli hli2)
      have HMW := Lib.hid hmW
      have HBT := Lib.hid hbt
      clear hmW hbt h2 h3 h6 h7 h8 hrl hcl hvl hed h1 hbox
      by_cases hvb : visB s.ls[li].g = true
      · have hv : ∀ X, Calls Tryz.prog 176 #[.agg #[.int .i64 s.ls[li].g, vl]] (exto W X) fun e w' => e = .returned (.bool true) ∧ Ext (exto W X) w' := fun X => by have := hvis X; rwa [hvb] at this
        have hadd := Lib.hid (fB_add s (metGo s (ts.take k)) pre ⟨xi, hxl⟩ (by show lbHas s s.es[xi].l _ = true; rw [hhas.out]; exact hvb))
        clear hvis hvb
        gi_wp2_with fail
        (refine wpIn_region_ext (by kernel_rfl) (by kernel_rfl) (by kernel_rfl) ?_; (repeat (first | go_big_quiet_step ((go_at_call 176; exact quiet_ext (hv _))) | quiet_step ((go_at_call 176; exact quiet_ext (hv _))))); refine wpQuiet_nil ?_)
        intro w4 hx4
        have x4 := Ext.keep hx4 x1
        have y4 := Ext.keep hx4 ym
        obtain ⟨w5, hr5, hm5, hg5⟩ := (HMW.out.move ((Ext.kp (S := fun _ => True) hx4).block _ HMW.out.lt trivial)).store (P := Tryz.prog) Tryz.underlying240 keyInt (li : Int) (.bool true)
        have HM5 := Lib.hid hm5
        have HG5 := Lib.hid hg5
        clear hm5 hg5 x1 ym y1 g1 gl gl1
        gi_wp2_with fail
        have hb5 : Bt (fun q => q = w.heap.size + 1) w4 w5 := (Bt.of_grown HG5.out).mono fun q _ e => by injection e
        have hbW := (hx4.bt (Z := fun q => q = w.heap.size + 1)).trans hb5
        refine ⟨keepsFrom_bt hbW _ fun q o hn hq _ => by omega, hbW.kp fun q _ hq => hZn q hq, HBT.out.trans hbW, ?_⟩
        rw [hadd.out]
        show IsMap _ _ _ (fun n => if n = s.es[xi].l then _ else _)
        rw [hli]
        exact HM5.out
      · have hv : ∀ X, Calls Tryz.prog 176 #[.agg #[.int .i64 s.ls[li].g, vl]] (exto W X) fun e w' => e = .returned (.bool false) ∧ Ext (exto W X) w' := fun X => by have := hvis X; rwa [eq_false_of_ne_true hvb] at this
        have hsame := Lib.hid (fB_same s (metGo s (ts.take k)) pre ⟨xi, hxl⟩ (by show lbHas s s.es[xi].l _ = false; rw [hhas.out]; exact eq_false_of_ne_true hvb))
        clear hvis hvb
        gi_wp2_with fail
        (refine wpIn_region_ext (by kernel_rfl) (by kernel_rfl) (by kernel_rfl) ?_; (repeat (first | go_big_quiet_step ((go_at_call 176; exact quiet_ext (hv _))) | quiet_step ((go_at_call 176; exact quiet_ext (hv _))))); refine wpQuiet_nil ?_)
        intro w4 hx4
        gi_wp2
        refine ⟨keepsFrom_ext hx4 _, Ext.kp hx4, HBT.out.ext hx4, ?_⟩
        rw [hsame.out]
        exact HMW.out.move ((Ext.kp (S := fun _ => True) hx4).block _ HMW.out.lt trivial)
    case done =>
      rintro D ys W hD rfl ⟨hbt, hmW⟩ hD0
      have HD := Lib.hid hD0
      have HMW := Lib.hid hmW
      have HBT := Lib.hid hbt
      clear hD0 hmW hbt
      gi_wp2
      have hsW := HBT.out.size
      refine ⟨⟨_, _, _, _, _, _, _, _, _, _, ?calmP, rfl⟩, ?calmM⟩
      case calmP =>
        have hbx : Boxed W w.heap.size 111 (.pointer (some ⟨g, 0, none⟩)) := (HBT.out.block _ q10.lt (by omega)).trans q10
        have hbm : Boxed W (w.heap.size + 2) 240 (.map (some (w.heap.size + 1))) := (HBT.out.block _ qm0.lt (by omega)).trans qm0
        have hXX : Ext w W := Bt.new (hX.trans' hX0) HBT.out fun q _ hq => by omega
        refine ⟨k + 1, by go_num, by omega, hbx, hbm, ?_, ?_, HM.out.cons (by omega) (by omega) HD.out fun r h1 h2 => ?_, hXX⟩
        · have e : metGo s (ts.take (k + 1)) = metRow s (metGo s (ts.take k)) (outN s.es ts[k]) := by funext n; rw [List.take_succ_eq_append_getElem hlt2, metGo_snoc]
          rw [e]
          exact HMW.out
        · exact (HTS.out.ext RInt.good hX0).bt RInt.good HBT.out fun q _ hq => ⟨fun h => h, fun e => by
            obtain ⟨news, h1, _⟩ := HTS.out
            have := (own_row_base h1 q e).1
            have hq' : q = w.heap.size + 1 := hq
            omega⟩
        · have h3 : W0.heap[r]? = some (.deferred (some [])) := ((Ext.kp (S := fun _ => True) hX0).block r h1 trivial).trans h2
          refine (HBT.out.block r (by omega) ?_).trans h3
          rintro rfl
          obtain ⟨es, clock, ks, h4, _⟩ := hm0
          rw [h4] at h3
          cases h3
      case calmM => simp [intOf]; omega
    case stop =>
      rintro D c pre W _ _ h _
      exact h.elim
  · have hkk : ts.take k = ts := List.take_of_length_le (by omega)
    rw [hkk] at hm
    have HM := Lib.hid hM
    have HMP := Lib.hid hm
    obtain ⟨p, hp⟩ : ∃ p, metGo s ts = p := ⟨_, rfl⟩
    rw [hp] at HMP hval
    obtain ⟨v', u', m, f, h1, h2, h3, h4, h5, h6, h7, h8⟩ := HS.out.ex
    obtain ⟨Al, cl, rfl, hcl, hcl0⟩ := h2.val
    have g1 : wr.cell? ⟨g, 1, none⟩ = some (.slice Al s.ls.length cl) := Ext.keep hX (cell_of_row w _ 1 _ _ _ h1)
    have HLS := Lib.hid (RLbs.good.bel (RLbs.good.mono h2 (S' := fun q => S q ∧ q < w.heap.size) fun _ hb h => ⟨h, hb⟩) hX)
    have hls := hok.2.2.1
    have hwr4 : w.heap.size + 3 ≤ wr.heap.size := hltm
    have hlb := infoLba
    clear hts hM hm hkk hp h2 h3 h4 h5 h6 h7 h8 h1
    obtain ⟨we, rfl⟩ : ∃ we, we = wr := ⟨_, rfl⟩
    gi_wp2_with fail

    gi_loopw [10, 48] (fun vo vi wx => ∃ (k : Nat) (A : Option Addr) (c : Nat), k ≤ s.ls.length ∧ vi = .int .i64 k ∧ vo = .slice A (accFrom p 0 (s.ls.take k)).length c ∧ ROwn RLb 2 61 we.heap.size (fun q => S q ∧ q < w.heap.size) wx (accFrom p 0 (s.ls.take k)) (.slice A (accFrom p 0 (s.ls.take k)).length c) ∧ Ext we wx) (fun _ vi _ => s.ls.length - (intOf vi).toNat)
    case atStart => exact ⟨0, none, 0, Nat.zero_le _, rfl, rfl, ROwn.nil .., Ext.refl _⟩
    case round =>
      obtain ⟨j, A, c, hj, rfl, rfl, hown, hE⟩ := hrel
      by_cases hlt : j < s.ls.length
      · obtain ⟨b, off, cs, rfl, hb, hT, hl, hr, hcell⟩ := (RLbs.good.bel HLS.out hE).get j hlt
        obtain ⟨hi, vl, rfl, hvl⟩ := id hr
        have a0 := hcell.get 0 _
        have a1 := hcell.get 1 _
        simp only [Nat.add_zero] at a0
        obtain ⟨Av, cv, rfl, _, _⟩ := hvl.val
        have em' := Ext.keep hE em
        have hltm2 : w.heap.size + 2 < wr.heap.size := Nat.lt_of_lt_of_le hltm hE.size
        obtain ⟨wb, hwb⟩ : ∃ wb, wb = wr.alloc (.cells #[.int .i64 s.ls[j].g, .slice Av s.ls[j].v.length cv] 61) := ⟨_, rfl⟩
        have hXb : Ext we wb := by rw [hwb]; exact hE.alloc _
        have hlk := (HMP.out.move ((Ext.kp (S := fun _ => True) hXb).block _ HMP.out.lt trivial)).lookup (P := Tryz.prog) Tryz.underlying240 keyInt (z := .bool false) (by kernel_rfl) (j : Int)
        rw [fB_get] at hlk
        have hst := Lib.hid (accFrom_take p s.ls j hlt)
        have hlen := accFrom_len p 0 (s.ls.take j)
        rw [List.length_take] at hlen
        by_cases hp : p (j : Int) = true
        · rw [hp] at hlk
          have hst2 : Hid (accFrom p 0 (s.ls.take (j + 1)) = accFrom p 0 (s.ls.take j) ++ [s.ls[j]]) := by show _ = _; rw [hst.out, if_pos hp]
          obtain ⟨i3, hi3, hzz⟩ := Option.map_eq_some_iff.1 hlb
          simp only [Prod.mk.injEq] at hzz
          obtain ⟨hz0, hz1, hz2⟩ := hzz
          have ho2 : ROwn RLb 2 61 we.heap.size (fun q => S q ∧ q < w.heap.size) (wb.alloc (.cells #[.int .i64 s.ls[j].g, .slice Av s.ls[j].v.length cv] 61)) (accFrom p 0 (s.ls.take j)) (.slice A (accFrom p 0 (s.ls.take j)).length c) := hown.ext RLb.good (by rw [hwb]; exact ((Ext.refl _).alloc _).alloc _)
          have hr2 : RLb (fun q => (S q ∧ q < w.heap.size) ∧ (Value.slice A (accFrom p 0 (s.ls.take j)).length c).ownBlock ≠ some q) (wb.alloc (.cells #[.int .i64 s.ls[j].g, .slice Av s.ls[j].v.length cv] 61)) s.ls[j] [.int .i64 s.ls[j].g, .slice Av s.ls[j].v.length cv] :=
            RLb.good.bel (RLb.good.mono hr fun q _ hq => ⟨hq, fun e => by
              obtain ⟨news, h1, _⟩ := hown
              have := (own_row_base h1 q e).1
              omega⟩) (by rw [hwb]; exact ((Ext.refl _).alloc _).alloc _)
          obtain ⟨news, hrow, hF⟩ := ho2
          have HR2 := Lib.hid hr2
          have HF := Lib.hid hF
          have hszb : wb.heap.size = wr.heap.size + 1 := by rw [hwb]; simp
          have hszE := hE.size
          subst hwb
          have hcc := cells_new (wr.alloc (.cells #[.int .i64 s.ls[j].g, .slice Av s.ls[j].v.length cv] 61)) #[.int .i64 s.ls[j].g, .slice Av s.ls[j].v.length cv] 61
          rw [World.size_alloc] at hcc
          clear hr2 hF hr hvl hl hown hst hp hlb
          gi_wp2_with (gi_at_builtin; refine wpListIn_append_at _ rfl _ _ 22 rfl we.heap.size 61 i3 _ 2 32 Tryz.underlying22 hi3 hz0 hz1 hz2 rfl (by decide) _ _ _ rfl hrow ⟨wr.heap.size + 1, 0, none⟩ 1 1 [.int .i64 s.ls[j].g, .slice Av s.ls[j].v.length cv] rfl rfl hcc (by simp [Value.oneCell']) (by unfold maxLen; omega) (by omega) (by simp; omega) ?_; intro v5 w5 hown5 hgrow5 hat5; obtain ⟨g5, c5, rfl⟩ := ownsRow_succ hown5)
          have hp5 := Lib.hid (ROwn.push RLb.good HF.out (Flat.single HR2.out rfl) hown5 hgrow5 hat5)
          have hX5 : Ext we w5 := Below.grown ((hE.alloc _).alloc _) hgrow5 (by simp; omega) fun q hq => (own_row_base hrow q hq).1
          clear hown5 hgrow5 hat5 hrow hcc
          gi_wp2_with fail
          go_roundw
          case rel => exact ⟨j + 1, some ⟨g5, 0, none⟩, c5, by omega, by go_num, by rw [hst2.out, List.length_append]; rfl, by rw [hst2.out, List.length_append]; exact hp5.out, hX5⟩
          case measure => simp [intOf]; omega
        · rw [eq_false_of_ne_true hp] at hlk
          have hst2 : Hid (accFrom p 0 (s.ls.take (j + 1)) = accFrom p 0 (s.ls.take j)) := by show _ = _; rw [hst.out, if_neg hp]
          have HO := Lib.hid hown
          subst hwb
          clear hr hvl hl hown hst hp hlb
          gi_wp2_with fail
          go_roundw
          case rel => exact ⟨j + 1, A, c, by omega, by go_num, by rw [hst2.out], by rw [hst2.out]; exact HO.out.ext RLb.good ((Ext.refl _).alloc _), hE.alloc _⟩
          case measure => simp [intOf]; omega
      · have hkk : Hid (accL s st = accFrom p 0 (s.ls.take j)) := by show _ = _; rw [hval.out, List.take_of_length_le (by omega)]
        have HO := Lib.hid hown
        clear hown
        gi_wp2_with fail
        have hM2 : Marks (w.heap.size + 4) ds wr := HM.out.keep fun r hr h => ((Ext.kp (S := fun _ => True) hE).block r (Array.getElem?_eq_some_iff.1 h).1 trivial).trans h
        refine Marks.leave (by simp) hM2 fun w3 hb3 => ?_
        refine ⟨_, results_tmp rfl _ _ _, A, c, ?_, ?_, ?_⟩
        · rw [hkk.out]; rfl
        · rw [hkk.out]
          exact (HO.out.bt RLb.good hb3 fun b _ hz => ⟨fun h => by have := h.2; have := hz.1; omega, HO.out.not_def hz.2⟩).base (by omega)
        · exact Bt.new (hX.trans' hE) hb3 fun i _ hi => by have := hi.1; omega
end Go.Proofs.YtegenalcheooeaaGreat

/- A region that draws its order and makes memory: each operation is told by a fact that nothing later turns; then one look at each operation serves every order. -/
set_option linter.unusedSectionVars false
set_option linter.unusedSimpArgs false
set_option linter.unusedVariables false
namespace Go.Proofs.YtegenalcheooeaaGreat
open Go.RowKit
attribute [local go_sem] cell?_exto

/-- The frame when each operation i has left vs i. -/
def finA : List Oper → Nat → (Nat → Value) → Act → Act
  | [], _, _, a => a
  | o :: l, k, vs, a => finA l (k + 1) vs (a.put o.dst (vs k))
def dstIx : List Oper → Nat → Tmp → Option Nat
  | [], _, _ => none
  | o :: l, k, t => match dstIx l (k + 1) t with
    | some j => some j
    | none => if o.dst = some t then some k else none
theorem put_size (a : Act) (d : Option Tmp) (v : Value) : (a.put d v).tmps.size = a.tmps.size := by cases d <;> simp [Act.put]
theorem put_defers (a : Act) (d : Option Tmp) (v : Value) : (a.put d v).defers = a.defers := by cases d <;> rfl
theorem put_at (a : Act) (d : Option Tmp) (v : Value) (t : Nat) (ht : t < a.tmps.size) : (a.put d v).tmps[t]? = if d = some t then some v else a.tmps[t]? := by
  cases d with
  | none => simp [Act.put]
  | some d =>
    by_cases e : d = t
    · subst e; simp [Act.put, ht]
    · simp [Act.put, Array.getElem?_setIfInBounds_ne e, e]
theorem finA_size : ∀ (l : List Oper) (k : Nat) (vs : Nat → Value) (a : Act), (finA l k vs a).tmps.size = a.tmps.size
  | [], _, _, _ => rfl
  | o :: l, k, vs, a => by rw [finA, finA_size l, put_size]
theorem finA_defers : ∀ (l : List Oper) (k : Nat) (vs : Nat → Value) (a : Act), (finA l k vs a).defers = a.defers
  | [], _, _, _ => rfl
  | o :: l, k, vs, a => by rw [finA, finA_defers l, put_defers]
theorem finA_at : ∀ (l : List Oper) (k : Nat) (vs : Nat → Value) (a : Act) (t : Nat), t < a.tmps.size → (finA l k vs a).tmps[t]? = match dstIx l k t with
    | some j => some (vs j)
    | none => a.tmps[t]?
  | [], _, _, _, _, _ => rfl
  | o :: l, k, vs, a, t, ht => by
    rw [finA, finA_at l (k + 1) vs _ t (by rw [put_size]; exact ht), dstIx]
    cases h : dstIx l (k + 1) t with
    | some j => rfl
    | none =>
      simp only
      rw [put_at _ _ _ _ ht]
      by_cases e : o.dst = some t
      · rw [if_pos e, if_pos e]
      · rw [if_neg e, if_neg e]
theorem dstIx_dst : ∀ (l : List Oper) (k t j : Nat), dstIx l k t = some j → k ≤ j ∧ ∃ o, l[j - k]? = some o ∧ o.dst = some t
  | [], _, _, _, h => by cases h
  | o :: l, k, t, j, h => by
    rw [dstIx] at h
    cases h2 : dstIx l (k + 1) t with
    | some i =>
      rw [h2] at h
      simp only [Option.some.injEq] at h
      subst h
      obtain ⟨h3, o', h4, h5⟩ := dstIx_dst l (k + 1) t i h2
      refine ⟨by omega, o', ?_, h5⟩
      rw [show i - k = (i - (k + 1)) + 1 from by omega]
      simpa using h4
    | none =>
      rw [h2] at h
      simp only at h
      split at h
      · rename_i e
        injection h with h
        subst h
        exact ⟨Nat.le_refl _, o, by simp, e⟩
      · cases h
theorem act_ext {a b : Act} (h : ∀ t, t < a.tmps.size → a.tmps[t]? = b.tmps[t]?) (hs : a.tmps.size = b.tmps.size) (hd : a.defers = b.defers) : a = b := by
  obtain ⟨x, d⟩ := a
  obtain ⟨y, d'⟩ := b
  simp only at h hs hd
  subst hd
  congr 1
  apply Array.ext_getElem?
  intro t
  by_cases ht : t < x.size
  · exact h t ht
  · rw [Array.getElem?_eq_none (by omega), Array.getElem?_eq_none (by omega)]

def depsL (o : Oper) : List Nat := (o.after.toList.filter (Region.binds .any)).map (·.on)
/-- What is asked of the region's text: each operation writes a slot of its own, and waits for earlier ones alone. -/
def factsB (l : List Oper) (n : Nat) : Bool := (List.range l.length).all fun i => match l[i]? with
  | none => true
  | some o => (match o.dst with
    | none => true
    | some d => decide (d < n) && dstIx l 0 d == some i) && (depsL o).all fun j => decide (j < i)
theorem factsB_spec {l : List Oper} {n : Nat} (h : factsB l n = true) {i : Nat} {o : Oper} (hi : l[i]? = some o) : (∀ d, o.dst = some d → d < n ∧ dstIx l 0 d = some i) ∧ ∀ e ∈ o.after, Region.binds .any e = true → e.on < i := by
  have hlt := (List.getElem?_eq_some_iff.1 hi).1
  have h1 := List.all_eq_true.1 h i (List.mem_range.2 hlt)
  rw [hi] at h1
  simp only [Bool.and_eq_true] at h1
  refine ⟨fun d hd => ?_, fun e he hb => ?_⟩
  · have h2 := h1.1
    rw [hd] at h2
    simpa using h2
  · have h2 := List.all_eq_true.1 h1.2 e.on (List.mem_map.2 ⟨e, List.mem_filter.2 ⟨by simpa using he, hb⟩, rfl⟩)
    simpa using h2
theorem finA_put {l : List Oper} {a : Act} (hB : factsB l a.tmps.size = true) {i : Nat} {o : Oper} (hi : l[i]? = some o) (vs : Nat → Value) (v : Value) : (finA l 0 vs a).put o.dst v = finA l 0 (fun j => if j = i then v else vs j) a := by
  have hs := factsB_spec hB hi
  refine act_ext (fun t ht => ?_) (by rw [put_size, finA_size, finA_size]) (by rw [put_defers, finA_defers, finA_defers])
  rw [put_size, finA_size] at ht
  rw [put_at _ _ _ _ (by rw [finA_size]; exact ht), finA_at _ _ _ _ _ ht, finA_at _ _ _ _ _ ht]
  by_cases e : o.dst = some t
  · rw [if_pos e, (hs.1 t e).2]
    simp
  · rw [if_neg e]
    cases hx : dstIx l 0 t with
    | none => rfl
    | some j =>
      obtain ⟨_, o', h4, h5⟩ := dstIx_dst l 0 t j hx
      have hji : j ≠ i := by
        rintro rfl
        rw [Nat.sub_zero, hi] at h4
        injection h4 with h4
        exact e (h4 ▸ h5)
      simp [hji]
theorem finA_self {l : List Oper} {a : Act} (hB : factsB l a.tmps.size = true) : ∃ vs, a = finA l 0 vs a := by
  refine ⟨fun i => match l[i]? with
    | some o => (match o.dst with
      | some d => a.tmps.getD d undef
      | none => undef)
    | none => undef, act_ext (fun t ht => ?_) (by rw [finA_size]) (by rw [finA_defers])⟩
  rw [finA_at _ _ _ _ _ ht]
  cases hx : dstIx l 0 t with
  | none => rfl
  | some j =>
    obtain ⟨_, o', h4, h5⟩ := dstIx_dst l 0 t j hx
    rw [Nat.sub_zero] at h4
    simp only [h4, h5]
    simp [ht]

/-- What an operand is. -/
def evF (l : List Oper) (a : Act) (vs : Nat → Value) : Operand → Value
  | .tmp t => match dstIx l 0 t with
    | some j => vs j
    | none => a.tmps.getD t undef
  | x => a.eval x
theorem finA_eval {l : List Oper} {a : Act} (hB : factsB l a.tmps.size = true) (vs : Nat → Value) : (finA l 0 vs a).eval = evF l a vs := by
  funext x
  cases x with
  | tmp t =>
    show (finA l 0 vs a).tmps.getD t undef = _
    rw [evF]
    by_cases ht : t < a.tmps.size
    · have h := finA_at l 0 vs a t ht
      simp only [Array.getD_eq_getD_getElem?, h]
      cases dstIx l 0 t <;> rfl
    · cases hx : dstIx l 0 t with
      | none => simp [finA_size, ht]
      | some j =>
        obtain ⟨_, o', h4, h5⟩ := dstIx_dst l 0 t j hx
        rw [Nat.sub_zero] at h4
        exact absurd ((factsB_spec hB h4).1 t h5).1 ht
  | _ => rfl

/-- One operation, by what it yields. -/
def vwp (P : Program) (o : Oper) (ev : Operand → Value) (w : World) (R : Value → World → Prop) : Prop :=
  match (execOp ev o).run P w with
  | .ok (.value v) w' => R v w'
  | .ok .skip w' => R undef w'
  | .ok (.enter f args) w' => Calls P f args w' fun e w'' => ∃ v, e = .returned v ∧ R v w''
  | _ => False
theorem vwp_wp {P : Program} {o : Oper} {a : Act} {w : World} {R : Value → World → Prop} {K : Act → World → Prop} {Q : Exit → Act → World → Prop} (h : vwp P o a.eval w R) (hK : ∀ v w', R v w' → K (a.put o.dst v) w') : o.wp P a w K Q := by
  unfold vwp at h
  unfold Oper.wp
  generalize (execOp a.eval o).run P w = r at *
  cases r with
  | ok n w' =>
    cases n <;> simp only at h <;> simp only [Oper.upon]
    case value u => exact hK _ _ h
    case skip => exact hK _ _ h
    case enter f args =>
      refine h.mono ?_
      rintro e w'' ⟨v, rfl, hv⟩
      exact hK _ _ hv
  | halt x w' => simp only at h

def asB : Value → Option Bool
  | .bool b => some b
  | _ => none
theorem yielded_fin {l : List Oper} {a : Act} (hB : factsB l a.tmps.size = true) (vs : Nat → Value) {g : Nat} {o : Oper} {d : Tmp} (hg : l[g]? = some o) (hd : o.dst = some d) : yielded l.toArray (finA l 0 vs a).tmps g = asB (vs g) := by
  have h := (factsB_spec hB hg).1 d hd
  have h2 := finA_at l 0 vs a d h.1
  rw [h.2] at h2
  unfold yielded
  simp only [List.getElem?_toArray, hg, Option.bind_some, hd, h2]
  cases vs g <;> rfl

/-- The fact of an operation. -/
def factAt (Fs : List (Value → World → Prop)) (i : Nat) (v : Value) (w : World) : Prop := match Fs[i]? with
  | some f => f v w
  | none => True
/-- What is to be shown of operation i. -/
def StepOK (P : Program) (l : List Oper) (a : Act) (w0 : World) (Fs : List (Value → World → Prop)) (i : Nat) (o : Oper) : Prop := ∀ (vs : Nat → Value) (w : World), Ext w0 w → (∀ j ∈ depsL o, factAt Fs j (vs j) w) →
  match o.guard with
  | none => vwp P o (evF l a vs) w fun v w' => Ext w w' ∧ factAt Fs i v w'
  | some (g, want) => (∃ o' d, l[g]? = some o' ∧ o'.dst = some d) ∧ (asB (vs g) = some want → vwp P o (evF l a vs) w fun v w' => Ext w w' ∧ factAt Fs i v w') ∧ (asB (vs g) ≠ some want → factAt Fs i undef w)
def StepsOK (P : Program) (l : List Oper) (a : Act) (w0 : World) (Fs : List (Value → World → Prop)) : List Oper → Nat → Prop
  | [], _ => True
  | o :: r, k => StepOK P l a w0 Fs k o ∧ StepsOK P l a w0 Fs r (k + 1)
theorem StepsOK.get {P : Program} {l : List Oper} {a : Act} {w0 : World} {Fs : List (Value → World → Prop)} : ∀ {r : List Oper} {k i : Nat} {o : Oper}, StepsOK P l a w0 Fs r k → r[i]? = some o → StepOK P l a w0 Fs (k + i) o
  | o :: r, k, 0, o', h, hi => by
    simp at hi
    subst hi
    exact h.1
  | o :: r, k, i + 1, o', h, hi => by
    have := StepsOK.get h.2 (i := i) (by simpa using hi)
    rwa [show k + 1 + i = k + (i + 1) from by omega] at this
  | [], _, _, _, _, hi => by simp at hi

theorem count_set : ∀ (L : List Bool) (i : Nat), L[i]? = some false → (L.set i true).count false + 1 = L.count false
  | b :: L, 0, h => by
    simp at h
    subst h
    simp
  | b :: L, i + 1, h => by
    have := count_set L i (by simpa using h)
    rw [List.set_cons_succ, List.count_cons, List.count_cons]
    omega
  | [], _, h => by simp at h
theorem count_zero {L : List Bool} (h : L.count false = 0) : ∀ i, i < L.length → L[i]? = some true := fun i hi => by
  rw [List.getElem?_eq_getElem hi]
  have : L[i] ≠ false := fun e => by
    have := List.count_eq_zero.1 h
    exact this (e ▸ List.getElem_mem hi)
  simpa using this

theorem wpAny_facts {P : Program} {l : List Oper} {Q : Exit → Act → World → Prop} {a0 : Act} {w0 : World} (Fs : List (Value → World → Prop)) (hB : factsB l a0.tmps.size = true) (hF : ∀ f ∈ Fs, ∀ v A B, f v A → Ext A B → f v B)
    (hst : StepsOK P l a0 w0 Fs l 0) (hend : ∀ vs w, Ext w0 w → (∀ i, i < l.length → factAt Fs i (vs i) w) → Q .normal (finA l 0 vs a0) w) : ∀ (fuel : Nat) (listed : Array Bool) (vs : Nat → Value) (w : World), listed.size = l.length → listed.toList.count false ≤ fuel →
    Ext w0 w → (∀ i, listed.getD i false = true → factAt Fs i (vs i) w) → wpAny P .any l.toArray Q fuel listed (finA l 0 vs a0) w
  | 0, listed, vs, w, hs, hc, hx, hf => by
    have hall := count_zero (Nat.le_zero.1 hc)
    have hg : ∀ i, i < l.length → listed.getD i false = true := fun i hi => by
      have := hall i (by simpa [hs] using hi)
      rw [Array.getElem?_toList] at this
      simp [this]
    refine ⟨?_, hend vs w hx fun i hi => hf i (hg i hi)⟩
    apply List.eq_nil_iff_forall_not_mem.2
    intro i hi
    obtain ⟨h1, o, h2, _⟩ := mem_ready.1 hi
    have hlt : i < l.length := by simpa using (Array.getElem?_eq_some_iff.1 h2).1
    have h3 := hg i hlt
    have hi' : i < listed.size := by omega
    simp [hi'] at h1 h3
    rw [h1] at h3
    cases h3
  | fuel + 1, listed, vs, w, hs, hc, hx, hf => by
    refine ⟨fun hr => ?_, fun i hi => ?_⟩
    · -- nothing may come up: all have come up
      have hg : ∀ i, i < l.length → listed.getD i false = true := fun i => by
        induction i using Nat.strongRecOn with
        | _ i ih =>
        intro hi
        apply Classical.byContradiction
        intro hn
        have hi' : i < listed.size := by omega
        have hmem : i ∈ Region.ready .any l.toArray listed := by
          refine mem_ready.2 ⟨?_, l[i], by simp [hi], fun e he hb => ?_⟩
          · simp [hi'] at hn ⊢
            exact hn
          · have hlt := (factsB_spec hB (List.getElem?_eq_getElem hi)).2 e he hb
            exact ih e.on hlt (by omega)
        rw [hr] at hmem
        cases hmem
      exact hend vs w hx fun i hi => hf i (hg i hi)
    · obtain ⟨h1, o, h2, h3⟩ := mem_ready.1 hi
      have hlo : l[i]? = some o := by simpa using h2
      have hlt : i < l.length := (List.getElem?_eq_some_iff.1 hlo).1
      have hi' : i < listed.size := by omega
      have hLi : listed.toList[i]? = some false := by
        rw [Array.getElem?_toList]
        simp [hi'] at h1 ⊢
        exact h1
      have hstep := hst.get hlo vs w hx fun j hj => by
        obtain ⟨e, he, rfl⟩ := List.mem_map.1 hj
        obtain ⟨he, hb⟩ := List.mem_filter.1 he
        exact hf _ (h3 e (by simpa using he) hb)
      rw [Nat.zero_add] at hstep
      have hgo : ∀ v w', Ext w w' → factAt Fs i v w' → wpAny P .any l.toArray Q fuel (listed.setIfInBounds i true) ((finA l 0 vs a0).put o.dst v) w' := fun v w' hx' hv => by
        rw [finA_put hB hlo]
        refine wpAny_facts Fs hB hF hst hend fuel _ _ w' (by simpa using hs) ?_ (hx.trans' hx') fun j hj => ?_
        · have := count_set listed.toList i hLi
          rw [Array.toList_setIfInBounds]
          omega
        · by_cases e : j = i
          · subst e
            simpa using hv
          · simp only [if_neg e]
            rw [getD_set_ne false (Ne.symm e)] at hj
            have h5 := hf j hj
            unfold factAt at h5 ⊢
            cases hq : Fs[j]? with
            | none => trivial
            | some f =>
              rw [hq] at h5
              exact hF f (List.mem_of_getElem? hq) _ _ _ h5 hx'
      unfold wpOp
      rw [h2]
      simp only
      rw [finA_eval hB vs |>.symm] at hstep
      cases hgd : o.guard with
      | none =>
        rw [hgd] at hstep
        have hw : Region.wanted o (yielded l.toArray (finA l 0 vs a0).tmps) = true := by simp [Region.wanted, hgd]
        rw [if_pos hw]
        exact .inl (vwp_wp hstep fun v w' (h : Ext w w' ∧ factAt Fs i v w') => hgo v w' h.1 h.2)
      | some gw =>
        obtain ⟨g, want⟩ := gw
        rw [hgd] at hstep
        obtain ⟨⟨o', d, hg1, hg2⟩, hs1, hs2⟩ := hstep
        have hy := yielded_fin hB vs hg1 hg2
        by_cases hv : asB (vs g) = some want
        · have hw : Region.wanted o (yielded l.toArray (finA l 0 vs a0).tmps) = true := by simp [Region.wanted, hgd, hy, hv]
          rw [if_pos hw]
          exact .inl (vwp_wp (hs1 hv) fun v w' (h : Ext w w' ∧ factAt Fs i v w') => hgo v w' h.1 h.2)
        · have hw : ¬ Region.wanted o (yielded l.toArray (finA l 0 vs a0).tmps) = true := by simp [Region.wanted, hgd, hy, hv]
          rw [if_neg hw]
          exact hgo undef w (Ext.refl w) (hs2 hv)

/-- The region. -/
theorem wp_region_facts {P : Program} {id : Nat} {l : List Oper} {Q : Exit → Act → World → Prop} {a : Act} {w : World} (Fs : List (Value → World → Prop)) (hm : P.follows .mixedOrders = true) (hB : factsB l a.tmps.size = true) (hF : ∀ f ∈ Fs, ∀ v A B, f v A → Ext A B → f v B)
    (hst : StepsOK P l a w.drew Fs l 0) (hend : ∀ vs w', Ext w w' → (∀ i, i < l.length → factAt Fs i (vs i) w') → Q .normal (finA l 0 vs a) w') : (Code.region id l.toArray true).wp P Q a w := by
  refine wp_region_any hm ?_
  obtain ⟨vs, hvs⟩ := finA_self hB
  have h := wpAny_facts (Q := Q) Fs hB hF hst (fun vs w' hx hf => hend vs w' (Ext.trans' (Ext.refl w).drew hx) hf) l.length (Array.replicate l.length false) vs w.drew (by simp) (by simp) (Ext.refl _) (fun i hi => by
    exfalso
    by_cases h : i < l.length
    · simp [h] at hi
    · simp [h] at hi)
  rw [← hvs] at h
  simpa using h
end Go.Proofs.YtegenalcheooeaaGreat

/- A region that draws its order and ends in an operation that waits for all others (a store): what is kept before it need not be kept behind it. -/
set_option linter.unusedSectionVars false
set_option linter.unusedSimpArgs false
set_option linter.unusedVariables false
namespace Go.Proofs.YtegenalcheooeaaGreat
open Go.RowKit
attribute [local go_sem] cell?_exto

def depsOf (l : List Oper) (i : Nat) : List Nat := match l[i]? with
  | some o => depsL o
  | none => []
def ancN (l : List Oper) : Nat → List Nat → List Nat
  | 0, S => S
  | n + 1, S => ancN l n (S ++ (S.flatMap (depsOf l)).filter (fun i => !S.contains i))
/-- All wait for earlier ones, none is guarded, and the last one waits for all. -/
def lastB (l : List Oper) (o : Oper) : Bool := l.all (fun o => o.guard.isNone) && o.guard.isNone && (List.range l.length).all (fun i => (ancN l l.length (depsL o)).contains i) && (List.range l.length).all (fun i => (depsOf l i).all fun j => decide (j < i)) && (depsL o).all (fun j => decide (j < l.length))
def Closed (l : List Oper) (listed : Array Bool) : Prop := ∀ i, listed.getD i false = true → ∀ j ∈ depsOf l i, listed.getD j false = true
theorem closed_anc {l : List Oper} {listed : Array Bool} (hc : Closed l listed) : ∀ (n : Nat) (S : List Nat), (∀ i ∈ S, listed.getD i false = true) → ∀ i ∈ ancN l n S, listed.getD i false = true
  | 0, _, h => h
  | n + 1, S, h => closed_anc hc n _ fun i hi => by
    rcases List.mem_append.1 hi with hi | hi
    · exact h i hi
    · obtain ⟨j, hj, hij⟩ := List.mem_flatMap.1 (List.mem_filter.1 hi).1
      exact hc j (h j hj) i hij
def atLast (P : Program) (o : Oper) (Q : Exit → Act → World → Prop) : Exit → Act → World → Prop
  | .normal, a, w => o.wp P a w (fun a' w' => Q .normal a' w') Q
  | e, a, w => Q e a w
theorem getD_push {listed : Array Bool} {i n : Nat} (hs : listed.size = n) (hi : i < n) (b d : Bool) : (listed.push b).getD i d = listed.getD i d := by
  have : i < listed.size := by omega
  simp [Array.getElem?_push, this, show ¬ i = listed.size by omega]
theorem deps_mem {l : List Oper} {i : Nat} {o : Oper} (h : l[i]? = some o) {e : Edge} (he : e ∈ o.after) (hb : Region.binds .any e = true) : e.on ∈ depsOf l i := by
  unfold depsOf
  rw [h]
  exact List.mem_map.2 ⟨e, List.mem_filter.2 ⟨by simpa using he, hb⟩, rfl⟩
theorem deps_of {l : List Oper} {i j : Nat} (h : j ∈ depsOf l i) : ∃ o e, l[i]? = some o ∧ e ∈ o.after ∧ Region.binds .any e = true ∧ e.on = j := by
  unfold depsOf at h
  cases hl : l[i]? with
  | none => rw [hl] at h; cases h
  | some o =>
    rw [hl] at h
    obtain ⟨e, he, rfl⟩ := List.mem_map.1 h
    obtain ⟨he, hb⟩ := List.mem_filter.1 he
    exact ⟨o, e, rfl, by simpa using he, hb, rfl⟩

theorem wpAny_last {P : Program} {l : List Oper} {o : Oper} {Q : Exit → Act → World → Prop} (hB : lastB l o = true) : ∀ (fuel : Nat) (listed : Array Bool) (a : Act) (w : World), listed.size = l.length → Closed l listed →
    wpAny P .any l.toArray (atLast P o Q) fuel listed a w → wpAny P .any (l ++ [o]).toArray Q (fuel + 1) (listed.push false) a w := by
  simp only [lastB, Bool.and_eq_true] at hB
  obtain ⟨⟨⟨⟨hg, hgo⟩, hanc⟩, hlow⟩, hlo⟩ := hB
  have hop : ∀ i, i < l.length → (l ++ [o]).toArray[i]? = l.toArray[i]? := fun i hi => by simp [List.getElem?_append_left hi]
  have hopn : (l ++ [o]).toArray[l.length]? = some o := by simp
  -- where all have come up the last one may
  have fin : ∀ (fuel : Nat) (listed : Array Bool) (a : Act) (w : World), listed.size = l.length → (∀ i, i < l.length → listed.getD i false = true) → atLast P o Q .normal a w → wpAny P .any (l ++ [o]).toArray Q (fuel + 1) (listed.push false) a w := fun fuel listed a w hs hall hq => by
    have hready : l.length ∈ Region.ready .any (l ++ [o]).toArray (listed.push false) := by
      refine mem_ready.2 ⟨by simp [← hs], o, hopn, fun e he hb => ?_⟩
      have hlt : e.on < l.length := by
        have := List.all_eq_true.1 hlo e.on (List.mem_map.2 ⟨e, List.mem_filter.2 ⟨by simpa using he, hb⟩, rfl⟩)
        simpa using this
      rw [getD_push hs hlt]
      exact hall _ hlt
    refine ⟨fun h0 => absurd h0 (by intro h0; rw [h0] at hready; cases hready), fun i hi => ?_⟩
    obtain ⟨h1, o', h2, h3⟩ := mem_ready.1 hi
    have hin : i = l.length := by
      apply Classical.byContradiction
      intro hne
      have hlt : i < l.length := by
        have := (Array.getElem?_eq_some_iff.1 h2).1
        simp at this
        omega
      rw [getD_push hs hlt] at h1
      have h4 := hall i hlt
      have : i < listed.size := by omega
      simp [this] at h1 h4
      rw [h1] at h4
      cases h4
    subst hin
    rw [hopn] at h2
    injection h2 with h2
    subst h2
    unfold wpOp
    rw [hopn]
    simp only
    have hw : Region.wanted o (yielded (l ++ [o]).toArray a.tmps) = true := by
      cases hgd : o.guard with
      | none => simp [Region.wanted, hgd]
      | some g => rw [hgd] at hgo; cases hgo
    rw [if_pos hw]
    refine .inl (Oper.wp_mono (fun a' w' hq' => ?_) hq)
    refine wpAny_done ?_ hq' _
    apply List.eq_nil_iff_forall_not_mem.2
    intro i hi
    obtain ⟨h1, o', h2, _⟩ := mem_ready.1 hi
    by_cases hne : i = l.length
    · subst hne
      simp [← hs] at h1
    · have hlt : i < l.length := by
        have := (Array.getElem?_eq_some_iff.1 h2).1
        simp at this
        omega
      rw [getD_set_ne true (Ne.symm hne), getD_push hs hlt] at h1
      have h4 := hall i hlt
      have : i < listed.size := by omega
      simp [this] at h1 h4
      rw [h1] at h4
      cases h4
  intro fuel
  induction fuel with
  | zero =>
    intro listed a w hs hc h
    refine fin 0 listed a w hs (fun i => ?_) h.2
    induction i using Nat.strongRecOn with
    | _ i ih =>
    intro hi
    apply Classical.byContradiction
    intro hn
    have hi' : i < listed.size := by omega
    have hmem : i ∈ Region.ready .any l.toArray listed := by
      refine mem_ready.2 ⟨by simp [hi'] at hn ⊢; exact hn, l[i], by simp [hi], fun e he hb => ?_⟩
      have hlt : e.on < i := by
        have h5 := List.all_eq_true.1 hlow i (List.mem_range.2 hi)
        have h6 := List.all_eq_true.1 h5 e.on (deps_mem (List.getElem?_eq_getElem hi) he hb)
        simpa using h6
      exact ih e.on hlt (by omega)
    rw [h.1] at hmem
    cases hmem
  | succ fuel ih =>
    intro listed a w hs hc h
    by_cases hr : Region.ready .any l.toArray listed = []
    · refine fin (fuel + 1) listed a w hs (fun i => ?_) (h.1 hr)
      induction i using Nat.strongRecOn with
      | _ i ih =>
      intro hi
      apply Classical.byContradiction
      intro hn
      have hi' : i < listed.size := by omega
      have hmem : i ∈ Region.ready .any l.toArray listed := by
        refine mem_ready.2 ⟨by simp [hi'] at hn ⊢; exact hn, l[i], by simp [hi], fun e he hb => ?_⟩
        have hlt : e.on < i := by
          have h5 := List.all_eq_true.1 hlow i (List.mem_range.2 hi)
          have h6 := List.all_eq_true.1 h5 e.on (deps_mem (List.getElem?_eq_getElem hi) he hb)
          simpa using h6
        exact ih e.on hlt (by omega)
      rw [hr] at hmem
      cases hmem
    · obtain ⟨k, hk⟩ := List.exists_mem_of_ne_nil _ hr
      obtain ⟨hk1, ok, hk2, hk3⟩ := mem_ready.1 hk
      have hkl : k < l.length := by simpa using (Array.getElem?_eq_some_iff.1 hk2).1
      have hin : ∀ i ∈ Region.ready .any (l ++ [o]).toArray (listed.push false), i < l.length ∧ i ∈ Region.ready .any l.toArray listed := fun i hi => by
        obtain ⟨h1, o', h2, h3⟩ := mem_ready.1 hi
        have hlt : i < l.length := by
          apply Classical.byContradiction
          intro hge
          have hin : i = l.length := by
            have := (Array.getElem?_eq_some_iff.1 h2).1
            simp at this
            omega
          subst hin
          rw [hopn] at h2
          injection h2 with h2
          subst h2
          have h6 := closed_anc hc l.length (depsL o) (fun j hj => by
            obtain ⟨e, he, rfl⟩ := List.mem_map.1 hj
            obtain ⟨he, hb⟩ := List.mem_filter.1 he
            have h7 := h3 e (by simpa using he) hb
            have hjl : e.on < l.length := by simpa using List.all_eq_true.1 hlo e.on hj
            rwa [getD_push hs hjl] at h7) k (by simpa using List.all_eq_true.1 hanc k (List.mem_range.2 hkl))
          have hk' : k < listed.size := by omega
          simp [hk'] at hk1 h6
          rw [hk1] at h6
          cases h6
        refine ⟨hlt, mem_ready.2 ⟨by rwa [getD_push hs hlt] at h1, o', by rwa [hop i hlt] at h2, fun e he hb => ?_⟩⟩
        have h7 := h3 e he hb
        have hl2 : l[i]? = some o' := by rw [hop i hlt] at h2; simpa using h2
        have hjl : e.on < l.length := by
          have h5 := List.all_eq_true.1 hlow i (List.mem_range.2 hlt)
          have h6 := List.all_eq_true.1 h5 e.on (deps_mem hl2 he hb)
          have : e.on < i := by simpa using h6
          omega
        rwa [getD_push hs hjl] at h7
      refine ⟨fun h0 => ?_, fun i hi => ?_⟩
      · exfalso
        have : k ∈ Region.ready .any (l ++ [o]).toArray (listed.push false) := by
          refine mem_ready.2 ⟨by rw [getD_push hs hkl]; exact hk1, ok, by rw [hop k hkl]; exact hk2, fun e he hb => ?_⟩
          have h7 := hk3 e he hb
          have hl2 : l[k]? = some ok := by simpa using hk2
          have hjl : e.on < l.length := by
            have h5 := List.all_eq_true.1 hlow k (List.mem_range.2 hkl)
            have h6 := List.all_eq_true.1 h5 e.on (deps_mem hl2 he hb)
            have : e.on < k := by simpa using h6
            omega
          rw [getD_push hs hjl]
          exact h7
        rw [h0] at this
        cases this
      · obtain ⟨hlt, hir⟩ := hin i hi
        have h8 := h.2 i hir
        obtain ⟨h1, o', h2, h3⟩ := mem_ready.1 hir
        have hl2 : l[i]? = some o' := by simpa using h2
        have hgi : o'.guard = none := by
          have := List.all_eq_true.1 hg o' (List.mem_of_getElem? hl2)
          cases hq : o'.guard with
          | none => rfl
          | some g => rw [hq] at this; cases this
        unfold wpOp at h8 ⊢
        rw [h2] at h8
        rw [hop i hlt, h2]
        simp only [Region.wanted, hgi, if_true] at h8 ⊢
        have hK : ∀ a' w', wpAny P .any l.toArray (atLast P o Q) fuel (listed.setIfInBounds i true) a' w' → wpAny P .any (l ++ [o]).toArray Q (fuel + 1) ((listed.push false).setIfInBounds i true) a' w' := fun a' w' hh => by
          have he : (listed.push false).setIfInBounds i true = (listed.setIfInBounds i true).push false := by
            apply Array.ext_getElem?
            intro t
            rw [Array.getElem?_setIfInBounds, Array.getElem?_push, Array.getElem?_push, Array.getElem?_setIfInBounds]
            simp only [Array.size_push, Array.size_setIfInBounds]
            split <;> rename_i h9
            · subst h9
              have : i < listed.size := by omega
              simp only [this, if_true, show i < listed.size + 1 from by omega, show ¬ i = listed.size from by omega, if_false]
            · rfl
          rw [he]
          refine ih _ a' w' (by simpa using hs) (fun j hj q hq => ?_) hh
          by_cases hji : j = i
          · subst hji
            obtain ⟨o2, e, h4, h5, h6, rfl⟩ := deps_of hq
            rw [hl2] at h4
            injection h4 with h4
            subst h4
            exact getD_set_true (h3 e h5 h6)
          · rw [getD_set_ne false (Ne.symm hji)] at hj
            exact getD_set_true (hc j hj q hq)
        rcases h8 with h8 | h8
        · refine .inl ?_
          have h9 := Oper.wp_mono hK h8
          unfold Oper.wp at h9 ⊢
          generalize (execOp a.eval o').run P w = r at *
          cases r with
          | ok n w' => cases n <;> exact h9
          | halt x w' => cases x <;> exact h9
        · exact .inr h8

theorem wp_region_last {P : Program} {id : Nat} {ops l : List Oper} {o : Oper} {Q : Exit → Act → World → Prop} {a : Act} {w : World} (hops : ops = l ++ [o]) (S : World → Prop) (hm : P.follows .mixedOrders = true) (hB : lastB l o = true) (hS : S w.drew)
    (h : S w.drew → wpAnyH P .any l.toArray (atLast P o Q) S l.toArray.size (Array.replicate l.toArray.size false) a w.drew) : (Code.region id ops.toArray true).wp P Q a w := by
  subst hops
  refine wp_region_any hm ?_
  have h1 := wpAny_last (Q := Q) hB l.length (Array.replicate l.length false) a w.drew (by simp) (fun i hi => by
    exfalso
    by_cases h : i < l.length
    · simp [h] at hi
    · simp [h] at hi) (wpAny_of_held _ _ _ _ (by simpa using h hS))
  have he : (Array.replicate l.length false).push false = Array.replicate (l ++ [o]).toArray.size false := by rw [List.size_toArray, List.length_append, List.length_singleton, Array.replicate_succ]
  rw [he] at h1
  have hs : (l ++ [o]).toArray.size = l.length + 1 := by simp
  rw [hs] at h1 ⊢
  exact h1
theorem wp_region_lastS {P : Program} {id : Nat} {ops : List Oper} {Q : Exit → Act → World → Prop} {a : Act} {w : World} (S : World → Prop) (hm : P.follows .mixedOrders = true) (hne : ops.isEmpty = false) (hB : lastB ops.dropLast (ops.getLastD default) = true) (hS : S w.drew)
    (h : S w.drew → wpAnyH P .any ops.dropLast.toArray (atLast P (ops.getLastD default) Q) S ops.dropLast.toArray.size (Array.replicate ops.dropLast.toArray.size false) a w.drew) : (Code.region id ops.toArray true).wp P Q a w := by
  refine wp_region_last ?_ S hm hB hS h
  cases ops with
  | nil => cases hne
  | cons x xs =>
    have h1 : (x :: xs).getLastD default = (x :: xs).getLast (by simp) := by
      cases xs with
      | nil => rfl
      | cons y ys => simp [List.getLastD, List.getLast?_eq_some_getLast]
    rw [h1, List.dropLast_concat_getLast]
end Go.Proofs.YtegenalcheooeaaGreat

