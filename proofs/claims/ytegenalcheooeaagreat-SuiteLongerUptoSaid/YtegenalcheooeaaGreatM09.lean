/- Of the proof of a law of the suites: Behind, RangeG, Walk. -/
import Derived.Test.YtegenalcheooeaaGreatM05
import Derived.Test.YtegenalcheooeaaGreatM07
import Derived.Test.YtegenalcheooeaaGreatM08
/- suite.behind: walked. -/
set_option linter.unusedSectionVars false
set_option linter.unusedSimpArgs false
set_option linter.unusedVariables false
namespace Go.Proofs.YtegenalcheooeaaGreat
open Go.RowKit
attribute [local go_sem] cell?_exto
open Go.Shelf
attribute [local go_sem] Oper.semAt_some

/-! ### What it comes to -/
def lbHas (s : Sy) (l : Int) (p : Lb → Bool) : Bool := ((s.ls[l.toNat]?).map p).getD false
theorem lbHas_at (s : Sy) {l : Int} {i : Nat} (p : Lb → Bool) (h : l = (i : Int)) (hi : i < s.ls.length) : lbHas s l p = p s.ls[i] := by
  subst h
  simp [lbHas, hi]
def behAdd (s : Sy) (x : Lb) (l : List Int) (e : Ed) : List Int := if lbHas s e.l (fun y => visB y.g && decide (cmpLb y x = 0)) = true ∧ e.t ∉ l then l ++ [e.t] else l
def behRow (s : Sy) (x : Lb) (is : List (Fin s.es.length)) (l : List Int) : List Int := is.foldl (fun l i => behAdd s x l s.es[i]) l
def behGo (s : Sy) (x : Lb) (sts : List Int) : List Int := sts.foldl (fun l st => behRow s x (outN s.es st) l) []
/-- What behind comes to. -/
def behL (s : Sy) (x : Lb) (sts : List Int) : List Int := calmL s (behGo s x sts)
theorem behRow_snoc (s : Sy) (x : Lb) (pre : List (Fin s.es.length)) (i : Fin s.es.length) (l : List Int) : behRow s x (pre ++ [i]) l = behAdd s x (behRow s x pre l) s.es[i] := by simp [behRow]
theorem behGo_snoc (s : Sy) (x : Lb) (sts : List Int) (st : Int) : behGo s x (sts ++ [st]) = behRow s x (outN s.es st) (behGo s x sts) := by simp [behGo]
theorem behAdd_pot (s : Sy) (x : Lb) (l : List Int) (e : Ed) (he : e ∈ s.es) : (behAdd s x l e).length + calmPot s (behAdd s x l e) ≤ l.length + calmPot s l := by
  unfold behAdd
  split
  · rename_i h
    have := filter_lt_of (fun x : Ed => decide (x.t ∉ l ++ [e.t])) (fun x : Ed => decide (x.t ∉ l)) (fun x hx => by
      simp only [List.mem_append, not_or, decide_eq_true_eq] at hx ⊢; exact hx.1) s.es e he (by simp) (by simpa using h.2)
    simp only [calmPot, List.length_append, List.length_cons, List.length_nil] at this ⊢
    omega
  · exact Nat.le_refl _
theorem behRow_pot (s : Sy) (x : Lb) : ∀ (is : List (Fin s.es.length)) (l : List Int), (behRow s x is l).length + calmPot s (behRow s x is l) ≤ l.length + calmPot s l
  | [], l => Nat.le_refl _
  | i :: is, l => Nat.le_trans (behRow_pot s x is (behAdd s x l s.es[i])) (behAdd_pot s x l s.es[i] (List.getElem_mem _))
theorem behGo_pot (s : Sy) (x : Lb) (sts : List Int) : (behGo s x sts).length + calmPot s (behGo s x sts) ≤ s.es.length := by
  have : ∀ (sts l : List Int), l.length + calmPot s l ≤ s.es.length → (sts.foldl (fun l st => behRow s x (outN s.es st) l) l).length + calmPot s (sts.foldl (fun l st => behRow s x (outN s.es st) l) l) ≤ s.es.length := by
    intro sts
    induction sts with
    | nil => exact fun l h => h
    | cons st sts ih => exact fun l h => ih _ (Nat.le_trans (behRow_pot s x _ l) h)
  exact this sts [] (by simpa using calmPot_le s [])

set_option maxHeartbeats 1000000 in
set_option maxRecDepth 100000 in
theorem behind_c (S : Nat → Prop) (s : Sy) (hok : okSyP s) (g : Nat) (l : List Int) (x : Lb) (v vx : Value) (w : World) (hS : IsSys S w g s) (hl : RSl RInt 1 S w l [v]) (hx : RLb S w x [.int .i64 x.g, vx]) (hlen : l.length ≤ 4611686018427387903) :
    Calls Tryz.prog 221 #[.pointer (some ⟨g, 0, none⟩), v, .agg #[.int .i64 x.g, vx]] w (RowPost w.heap.size (behL s x l) w) := by
  have HS := Lib.hid hS
  have HL := Lib.hid hl
  have HX := Lib.hid hx
  have ho := hl.oneCell
  obtain ⟨_, vx', hvx', hvx⟩ := id hx
  simp only [List.cons.injEq, true_and, and_true] at hvx'
  obtain rfl := hvx'
  obtain ⟨Ax, cx, rfl, hcx, hcx0⟩ := hvx.val
  clear hS hl hx hvx
  refine (callsIn_wide (n := 3)).1 ?_
  refine callsIn_of_wp_marks Tryz.func221 rfl trivial ?_ rfl
  simp only [Tryz.ntmps221, List.size_toArray, List.length_cons, List.length_nil, Nat.reduceAdd, Nat.reduceSub, Array.replicate_succ, Array.replicate_zero, List.push_toArray, List.append_toArray, List.nil_append, List.cons_append]
  obtain ⟨A0, c0, rfl, hc0, hc00⟩ := HL.out.val
  gi_wp2_with fail
  obtain ⟨vx, hvx⟩ : ∃ vx, Value.slice Ax x.v.length cx = vx := ⟨_, rfl⟩
  rw [hvx] at HX ⊢
  clear hvx hcx hcx0
  obtain ⟨W1, hW1⟩ : ∃ W1, ((w.alloc (.cells #[.pointer (some ⟨g, 0, none⟩)] 111)).alloc (.cells #[.int .i64 x.g, vx] 61)).alloc (.cells #[.slice none 0 0] 53) = W1 := ⟨_, rfl⟩
  have hX1 : Ext w W1 := by rw [← hW1]; exact (((Ext.refl w).alloc _).alloc _).alloc _
  have bS1 : Boxed W1 w.heap.size 111 (.pointer (some ⟨g, 0, none⟩)) := by rw [← hW1]; exact ((Boxed.new w 111 _).alloc _).alloc _
  have bX1 : W1.heap[w.heap.size + 1]? = some (.cells #[.int .i64 x.g, vx] 61 (0, 0)) := by
    rw [← hW1]
    have h := World.alloc_heap_new (w.alloc (.cells #[.pointer (some ⟨g, 0, none⟩)] 111)) (.cells #[.int .i64 x.g, vx] 61)
    rw [World.size_alloc] at h
    exact (Below.heap_alloc _ _ _ (by simp)).trans h
  have bN1 : Boxed W1 (w.heap.size + 2) 53 (.slice none 0 0) := by
    rw [← hW1]
    have h := Boxed.new ((w.alloc (.cells #[.pointer (some ⟨g, 0, none⟩)] 111)).alloc (.cells #[.int .i64 x.g, vx] 61)) 53 (.slice none 0 0)
    rwa [World.size_alloc, World.size_alloc] at h
  rw [hW1]
  clear hW1
  have HB1 := Lib.hid bS1
  have HB2 := Lib.hid bX1
  have HB3 := Lib.hid bN1
  refine wpIn_loop (fun a' wr => ∃ u9 u14 u15 u16 u17 u18 u19 u20 u59 : Value, ∃ (ds : List Deferred), (∃ (k : Nat) (vk : Value), u14 = Value.int .i64 (k : Int) ∧ k ≤ l.length ∧ Boxed wr w.heap.size 111 (.pointer (some ⟨g, 0, none⟩)) ∧ wr.heap[w.heap.size + 1]? = some (.cells #[.int .i64 x.g, vx] 61 (0, 0)) ∧ Boxed wr (w.heap.size + 2) 53 vk ∧ ROwn RInt 1 3 (w.heap.size + 3) (fun _ => False) wr (behGo s x (l.take k)) vk ∧
      Marks (w.heap.size + 3) ds wr ∧ Ext w wr) ∧
      a' = { tmps := #[Value.pointer (some ⟨g, 0, none⟩), Value.slice A0 l.length c0, Value.agg #[.int .i64 x.g, vx], Value.pointer (some ⟨w.heap.size, 0, none⟩), undef, Value.pointer (some ⟨w.heap.size + 1, 0, none⟩), Value.slice none 0 0, Value.pointer (some ⟨w.heap.size + 2, 0, none⟩), undef, u9, undef, undef, Value.slice A0 l.length c0, Value.int .i64 (l.length : Int), u14, u15, u16, u17, u18, u19, u20, undef, undef, undef, undef, undef, undef, undef, undef, undef, undef, undef, undef, undef, undef, undef, undef, undef, undef, undef, undef, undef, undef, undef, undef, undef, undef, undef, undef, undef, undef, undef, undef, undef, undef, undef, undef, undef, undef, u59, undef, undef, undef], defers := ds })
    (fun a' _ => l.length - (intOf (a'.tmps.getD 14 undef)).toNat) ?_ ?_
  · refine ⟨_, _, _, _, _, _, _, _, _, [], ⟨0, _, rfl, Nat.zero_le _, HB1.out, HB2.out, HB3.out, ?_, Marks.nil _ _, hX1⟩, rfl⟩
    simp only [List.take_zero]
    exact ROwn.nil ..
  rintro _ wr ⟨u9, u14, u15, u16, u17, u18, u19, u20, u59, ds, ⟨k, vk, rfl, hk, q1, qx, q2, hown, hM, hX⟩, rfl⟩
  have e1 := q1.cell
  have e2 := q2.cell
  by_cases hlt : k < l.length
  · obtain ⟨b, off, cs, rfl, hb, hT, hl, hr, hcell⟩ := ((RSl.good RInt.good).bel HL.out hX).get k hlt
    obtain rfl := hr.1
    have g0 := (by simpa using hcell.get 0 _ : wr.cell? ⟨b, off + k, none⟩ = some (.int .i64 l[k]))
    have HO := Lib.hid hown
    have HM := Lib.hid hM
    have hc175 := fun W => (callsIn_wide.1 (steps_in 3 (some ⟨g, 0, none⟩) l[k] W))
    clear hown hM hcell hr hl hT
    gi_wp2_with fail
    refine ⟨trivial, ?_⟩
    gi_at_call 175
    refine (callsIn_wide.2 (hc175 _)).mono ?_
    rintro e w' ⟨rfl, rfl⟩
    gi_wp2_with fail
    obtain ⟨W0, hW0⟩ : ∃ W0, (wr.alloc (.cells #[.pointer (some ⟨g, 0, none⟩)] 111)).alloc (.cells #[.int .i64 l[k]] 3) = W0 := ⟨_, rfl⟩
    have hsz0 : W0.heap.size = wr.heap.size + 2 := by rw [← hW0]; show (World.heap _).size = _; simp
    have hX0 : Ext wr W0 := by rw [← hW0]; exact ((Ext.refl wr).alloc _).alloc _
    have bs0 : Boxed W0 wr.heap.size 111 (.pointer (some ⟨g, 0, none⟩)) := by rw [← hW0]; exact ((Boxed.new wr 111 _).alloc _)
    have bt0 : Boxed W0 (wr.heap.size + 1) 3 (.int .i64 l[k]) := by rw [← hW0]; have := Boxed.new (wr.alloc (.cells #[.pointer (some ⟨g, 0, none⟩)] 111)) 3 (.int .i64 l[k]); rwa [World.size_alloc] at this
    rw [hW0]
    clear hW0
    obtain ⟨Z, hZ⟩ : ∃ Z : Nat → Prop, Z = fun q => (S q ∧ q < w.heap.size) ∨ q = wr.heap.size := ⟨_, rfl⟩
    have hS0 : IsSys Z W0 g s := (HS.out.mono (S' := Z) fun q h1 h2 => by rw [hZ]; exact .inl ⟨h2, h1⟩).bel (hX.trans' hX0)
    have hx0 : RLb Z W0 x [.int .i64 x.g, vx] := RLb.good.bel (RLb.good.mono HX.out (S' := Z) fun q h1 h2 => by rw [hZ]; exact .inl ⟨h2, h1⟩) (hX.trans' hX0)
    have hZ' : ∀ q, Z q → q < W0.heap.size := fun q hq => by
      rw [hZ] at hq
      have := hX.size
      rcases hq with ⟨_, h⟩ | h <;> omega
    have hr0 : ROwn RInt 1 3 (w.heap.size + 3) (fun _ => False) W0 (behGo s x (l.take k)) vk := HO.out.ext RInt.good hX0
    have q20 : Boxed W0 (w.heap.size + 2) 53 vk := (Ext.kp (S := fun _ => True) hX0).block _ q2.lt trivial |>.trans q2
    have q10 : Boxed W0 w.heap.size 111 (.pointer (some ⟨g, 0, none⟩)) := (Ext.kp (S := fun _ => True) hX0).block _ q1.lt trivial |>.trans q1
    have hltx : w.heap.size + 1 < wr.heap.size := (Array.getElem?_eq_some_iff.1 qx).1
    have qx0 : W0.heap[w.heap.size + 1]? = some (.cells #[.int .i64 x.g, vx] 61 (0, 0)) := (Ext.kp (S := fun _ => True) hX0).block _ hltx trivial |>.trans qx
    have hown0 : ∀ q, vk.ownBlock = some q → w.heap.size + 3 ≤ q ∧ q < wr.heap.size := fun q hq => by obtain ⟨news, h1, _⟩ := HO.out; exact own_row_base h1 q hq
    have hlt1 := q1.lt
    have hlt2 := q2.lt
    have hwr := hX.size
    have hZn : ∀ q, Z q → ¬ (q = w.heap.size + 2 ∨ vk.ownBlock = some q) := fun q hq e => by
      rw [hZ] at hq
      rcases e with rfl | e
      · rcases hq with ⟨_, h⟩ | h <;> omega
      · have := hown0 q e
        rcases hq with ⟨_, h⟩ | h <;> omega
    have hIown := rngI_own (base := w.heap.size + 3) (vk0 := vk) (row := fun pre => behRow s x pre (behGo s x (l.take k))) q20.lt
    refine wpIn_rangeFunc_ownH rfl (by omega) (gf := 234) (lb := #[.pointer (some ⟨wr.heap.size, 0, none⟩), .pointer (some ⟨wr.heap.size + 1, 0, none⟩)]) rfl trivial (enters_of Tryz.func234 (by kernel_rfl) rfl)
      (steps_stops (3 - 1) (by omega) Z s g wr.heap.size (wr.heap.size + 1) l[k] (by rw [hZ]; exact .inr rfl) W0 hS0 bs0.cell bt0.cell) kp_t (kp_b hZ') (Below.refl _ _) (fun _ => rfl)
      (RngI (w.heap.size + 2) (w.heap.size + 3) vk W0 (fun pre => behRow s x pre (behGo s x (l.take k)))) (fun _ _ _ => False) hIown (fun _ _ _ _ _ hs _ _ => hs)
      (RngI.start q20 hr0)
      (fun i a' W => ∃ Bx, W0.heap.size ≤ Bx ∧ W.heap[Bx]? = some (.cells #[.int .i64 s.es[i].f, .int .i64 s.es[i].l, .int .i64 s.es[i].t] 88) ∧ a' = { tmps := #[Value.pointer (some ⟨g, 0, none⟩), Value.slice (some ⟨b, off, none⟩) l.length c0, Value.agg #[.int .i64 x.g, vx], Value.pointer (some ⟨w.heap.size, 0, none⟩), undef, Value.pointer (some ⟨w.heap.size + 1, 0, none⟩), Value.slice none 0 0, Value.pointer (some ⟨w.heap.size + 2, 0, none⟩), undef, Value.int .i64 l[k], undef, Value.pointer (some ⟨Bx, 0, none⟩), Value.slice (some ⟨b, off, none⟩) l.length c0, Value.int .i64 (l.length : Int), Value.int .i64 (k : Int), Value.bool true, Value.pointer (some ⟨b, off + k, none⟩), Value.int .i64 l[k], Value.pointer (some ⟨g, 0, none⟩), Value.int .i64 l[k], Value.func (Fn.func 234) #[] #[Value.pointer (some ⟨wr.heap.size, 0, none⟩), Value.pointer (some ⟨wr.heap.size + 1, 0, none⟩)], Value.int .i64 (i.1 : Int), Value.agg #[.int .i64 s.es[i].f, .int .i64 s.es[i].l, .int .i64 s.es[i].t], undef, undef, undef, undef, undef, undef, undef, undef, undef, undef, undef, undef, undef, undef, undef, undef, undef, undef, undef, undef, undef, undef, undef, undef, undef, undef, undef, undef, undef, undef, undef, undef, undef, undef, undef, undef, u59, undef, undef, undef], defers := [] })
      (fun i a' _ X Y row hs hg hr => by
        obtain ⟨Bx, h1, h2, h3⟩ := hs
        exact ⟨Bx, h1, (hg.block Bx (Array.getElem?_eq_some_iff.1 h2).1 fun e => by
          obtain ⟨_, o', h4, h5⟩ := hr Bx e.symm
          rw [h2] at h4
          cases h4
          cases h5).trans h2, h3⟩)
      ?assign ?body ?done ?stop
    case assign =>
      rintro l2 pre i W K hI hK
      unfold edArgs
      gi_wp2
      refine hK _ _ ((KeepsOthers.alloc _ _).from _) ⟨by simp, fun q h1 _ => Below.heap_alloc _ _ _ h1⟩ (hIown.alloc _ hI) ⟨W.heap.size, hI.bt.size, World.alloc_heap_new W _, rfl⟩
    case body =>
      rintro l2 pre i a' W hl2 _ hI ⟨Bx, hBx, hbox, rfl⟩ hlen2
      obtain ⟨xi, hxl⟩ := i
      have hed := (hok.2.2.2.2.2 xi hxl).1
      have hlab : 0 ≤ s.es[xi].l ∧ s.es[xi].l < s.ls.length := by
        simp only [okEd, isB, Bool.and_eq_true, decide_eq_true_eq] at hed
        omega
      have hto : I64 s.es[xi].t := by
        simp only [okEd, isB, Bool.and_eq_true, decide_eq_true_eq] at hed
        have := hok.2.1
        exact ⟨by omega, by omega⟩
      obtain ⟨li, hli⟩ : ∃ li : Nat, s.es[xi].l = (li : Int) := ⟨s.es[xi].l.toNat, by omega⟩
      have hli2 : li < s.ls.length := by omega
      obtain ⟨vk2, q3, hown3, hat3⟩ := hI.row
      have hlen3 : (behRow s x pre (behGo s x (l.take k))).length ≤ 100000 := by have := behRow_pot s x pre (behGo s x (l.take k)); have := behGo_pot s x (l.take k); have := hok.2.2.2.1; omega
      have hbt := hI.bt
      obtain ⟨A3, c3, rfl, hc3, hc30⟩ := (hown3.sl RInt.good (by decide)).val
      have hkZ := hbt.kp fun q _ hq => hZn q hq
      obtain ⟨v', u', m, f, h1, h2, h3, h4, h5, h6, h7, h8⟩ := (hS0.move hkZ).ex
      obtain ⟨bl, ol, cl, csl, rfl, hbl, hSl, hll, hrl, hcl⟩ := h2.at li hli2
      have hxW := RLb.good.move hx0 hkZ
      obtain ⟨il, vl, rfl, hvl⟩ := id hrl
      have hcmp := fun X => compare_c Z s.ls[li] x _ _ (exto W X) (RLb.good.bel hrl (exto_ext W X)) (RLb.good.bel hxW (exto_ext W X))
      have hvis := fun X => visible_c s.ls[li].g vl (exto W X)
      have g1 : W.cell? ⟨g, 1, none⟩ = some (.slice (some ⟨bl, ol, none⟩) s.ls.length cl) := cell_of_row W _ 1 _ _ _ h1
      have gl : W.cell? ⟨bl, ol + li * 2, none⟩ = some (.int .i64 s.ls[li].g) := by simpa using hcl.get 0 _
      have gl1 : W.cell? ⟨bl, ol + li * 2 + 1, none⟩ = some vl := hcl.get 1 _
      have x1 : W.cell? ⟨Bx, 1, none⟩ = some (.int .i64 (li : Int)) := by rw [← hli]; exact cell_of_row W _ 1 _ _ _ hbox
      have x2 : W.cell? ⟨Bx, 2, none⟩ = some (.int .i64 s.es[xi].t) := cell_of_row W _ 2 _ _ _ hbox
      have y1 : W.cell? ⟨w.heap.size, 0, none⟩ = some (.pointer (some ⟨g, 0, none⟩)) := hbt.cell q10.cell (by
        rintro (e | e)
        · exact absurd e (by simp)
        · have := (hown0 _ e).1; simp at this; omega)
      have hxb : W.heap[w.heap.size + 1]? = some (.cells #[.int .i64 x.g, vx] 61 (0, 0)) := (hbt.block _ (by omega) (by
        rintro (e | e)
        · omega
        · have := (hown0 _ e).1; omega)).trans qx0
      have z0 : W.cell? ⟨w.heap.size + 1, 0, none⟩ = some (.int .i64 x.g) := cell_of_row W _ 0 _ _ _ hxb
      have z1 : W.cell? ⟨w.heap.size + 1, 1, none⟩ = some vx := cell_of_row W _ 1 _ _ _ hxb
      have y2 := q3.cell
      have HI := Lib.hid hI
      have HR3 := Lib.hid hown3
      have HQ3 := Lib.hid q3
      have HA3 := Lib.hid hat3
      have hsnoc := Lib.hid (behRow_snoc s x pre ⟨xi, hxl⟩ (behGo s x (l.take k)))
      have hhas := Lib.hid (lbHas_at s (fun y => visB y.g && decide (cmpLb y x = 0)) hli hli2)
      have hcon0 := fun X => containsInt _ (behRow s x pre (behGo s x (l.take k))) s.es[xi].t _ (exto W X) ((RSl.good RInt.good).bel (hown3.sl RInt.good (by decide)) (exto_ext W X))
      have hsame0 : ¬ (visB s.ls[li].g = true ∧ cmpLb s.ls[li] x = 0 ∧ s.es[xi].t ∉ behRow s x pre (behGo s x (l.take k))) → Hid (behRow s x (pre ++ [⟨xi, hxl⟩]) (behGo s x (l.take k)) = behRow s x pre (behGo s x (l.take k))) := fun hn => by
        show _ = _
        rw [hsnoc.out, behAdd, if_neg]
        rintro ⟨h, h'⟩
        rw [show s.es[(⟨xi, hxl⟩ : Fin s.es.length)] = s.es[xi] from rfl, hhas.out] at h
        simp only [Bool.and_eq_true, decide_eq_true_eq] at h
        exact hn ⟨h.1, h.2, h'⟩
      clear hI hown3 q3 h2 h3 h6 h7 h8 hrl hcl hvl hed h1 hbt hat3 hxb hxW hbox
      by_cases hvb : visB s.ls[li].g = true
      case neg =>
        have hv : ∀ X, Calls Tryz.prog 176 #[.agg #[.int .i64 s.ls[li].g, vl]] (exto W X) fun e w' => e = .returned (.bool false) ∧ Ext (exto W X) w' := fun X => by have := hvis X; rwa [eq_false_of_ne_true hvb] at this
        have hsame := hsame0 (fun h => hvb h.1)
        clear hcon0 hvis hcmp hvb hsame0
        gi_wp2_with fail
        (refine wpIn_region_ext (by kernel_rfl) (by kernel_rfl) (by kernel_rfl) ?_; (repeat (first | go_big_quiet_step ((go_at_call 176; exact quiet_ext (hv _))) | quiet_step ((go_at_call 176; exact quiet_ext (hv _))))); refine wpQuiet_nil ?_)
        intro w4 hx4
        gi_wp2
        exact ⟨keepsFrom_ext hx4 _, Ext.kp hx4, HI.out.same hx4 hsame.out⟩
      have hv : ∀ X, Calls Tryz.prog 176 #[.agg #[.int .i64 s.ls[li].g, vl]] (exto W X) fun e w' => e = .returned (.bool true) ∧ Ext (exto W X) w' := fun X => by have := hvis X; rwa [hvb] at this
      by_cases hcz : cmpLb s.ls[li] x = 0
      case neg =>
        have hsame := hsame0 (fun h => hcz h.2.1)
        have hb1 : (cmpLb s.ls[li] x == 0) = false := beq_eq_false_iff_ne.2 hcz
        clear hcon0 hvis hsame0 hcz
        gi_wp2_with fail
        (refine wpIn_region_ext (by kernel_rfl) (by kernel_rfl) (by kernel_rfl) ?_; (repeat (first | go_big_quiet_step ((first | (go_at_call 176; exact quiet_ext (hv _)) | (go_at_call 166; exact quiet_extD (hcmp _)))) | quiet_step ((first | (go_at_call 176; exact quiet_ext (hv _)) | (go_at_call 166; exact quiet_extD (hcmp _)))))); refine wpQuiet_nil ?_)
        intro w4 hx4
        gi_wp2
        exact ⟨keepsFrom_ext hx4 _, Ext.kp hx4, HI.out.same hx4 hsame.out⟩
      have hb1 : (cmpLb s.ls[li] x == 0) = true := beq_iff_eq.2 hcz
      by_cases hmem : s.es[xi].t ∈ behRow s x pre (behGo s x (l.take k))
      · have hcon : ∀ X, Calls Tryz.prog 32 #[.slice A3 (behRow s x pre (behGo s x (l.take k))).length c3, .int .i64 s.es[xi].t] (exto W X) fun e w' => e = .returned (.bool true) ∧ w' = exto W X := fun X => by have := hcon0 X; rwa [decide_eq_true hmem] at this
        have hsame := hsame0 (fun h => h.2.2 hmem)
        clear hcon0 hvis hsame0 hcz hmem
        gi_wp2_with fail
        (refine wpIn_region_ext (by kernel_rfl) (by kernel_rfl) (by kernel_rfl) ?_; (repeat (first | go_big_quiet_step ((first | (go_at_call 176; exact quiet_ext (hv _)) | (go_at_call 166; exact quiet_extD (hcmp _)) | (go_at_call 32; exact quiet_same (hcon _)))) | quiet_step ((first | (go_at_call 176; exact quiet_ext (hv _)) | (go_at_call 166; exact quiet_extD (hcmp _)) | (go_at_call 32; exact quiet_same (hcon _)))))); refine wpQuiet_nil ?_)
        intro w4 hx4
        gi_wp2
        exact ⟨keepsFrom_ext hx4 _, Ext.kp hx4, HI.out.same hx4 hsame.out⟩
      · have hcon : ∀ X, Calls Tryz.prog 32 #[.slice A3 (behRow s x pre (behGo s x (l.take k))).length c3, .int .i64 s.es[xi].t] (exto W X) fun e w' => e = .returned (.bool false) ∧ w' = exto W X := fun X => by have := hcon0 X; rwa [decide_eq_false hmem] at this
        have hadd : Hid (behRow s x (pre ++ [⟨xi, hxl⟩]) (behGo s x (l.take k)) = behRow s x pre (behGo s x (l.take k)) ++ [s.es[xi].t]) := by
          show _ = _
          rw [hsnoc.out, behAdd, if_pos ⟨by rw [show s.es[(⟨xi, hxl⟩ : Fin s.es.length)] = s.es[xi] from rfl, hhas.out]; simp [hvb, hcz], hmem⟩]
          rfl
        clear hcon0 hvis hsame0 hcz hmem
        gi_wp2_with fail
        (refine wpIn_region_ext (by kernel_rfl) (by kernel_rfl) (by kernel_rfl) ?_; (repeat (first | go_big_quiet_step ((first | (go_at_call 176; exact quiet_ext (hv _)) | (go_at_call 166; exact quiet_extD (hcmp _)) | (go_at_call 32; exact quiet_same (hcon _)))) | quiet_step ((first | (go_at_call 176; exact quiet_ext (hv _)) | (go_at_call 166; exact quiet_extD (hcmp _)) | (go_at_call 32; exact quiet_same (hcon _)))))); refine wpQuiet_nil ?_)
        intro w4 hx4
        obtain ⟨i3, hi3, hz0, hz1, hz2⟩ := info3
        have q4 : Boxed w4 (w.heap.size + 2) 53 _ := ((Ext.kp (S := fun _ => True) hx4).block _ HQ3.out.lt trivial).trans HQ3.out
        have r4 := HR3.out.ext RInt.good hx4
        have HR4 := Lib.hid r4
        obtain ⟨news, hrow4, hF4⟩ := r4
        obtain ⟨rfl, hi4⟩ := hF4.ints
        have y4 := q4.cell
        have x4 := Ext.keep hx4 x2
        have hsz4 := hx4.size
        have hszW := HI.out.bt.size
        have HQ4 := Lib.hid q4
        clear hF4 q4 y1 y2 x1 x2 g1 gl gl1 z0 z1 hcon hcmp hv
        gi_wp2_with (gi_at_builtin; refine wpListIn_append_at _ rfl _ _ 53 rfl (w.heap.size + 3) 3 i3 (.int .i64 0) 1 8 Tryz.underlying53 hi3 hz0 hz1 hz2 rfl (by decide) _ _ _ rfl (hrow4.alloc _) ⟨w4.heap.size, 0, none⟩ 1 1 [.int .i64 s.es[xi].t] rfl rfl (cell_one_new _ _ _) (by simp [Value.oneCell']) (by unfold maxLen; omega) (by omega) (by simp; omega) ?_; intro v5 w5 hown5 hgrow5 hat5; obtain ⟨g5, c5, rfl⟩ := ownsRow_succ hown5; have p5 := (own_push hi4 hto HQ4.out hrow4 hown5 hgrow5).1; have p5c := p5.cell; have p5f := p5.frozen)
        rw [World.size_alloc] at hat5
        have hI4 : RngI (w.heap.size + 2) (w.heap.size + 3) vk W0 (fun pre => behRow s x pre (behGo s x (l.take k))) pre w4 := HI.out.move hx4
        obtain ⟨hk5, hp5⟩ := push_keeps HQ4.out HR4.out hto hown5 hgrow5 W0.heap.size (Z := Z) (fun q _ hq e => by
          rcases e with e | e
          · exact hZn q hq (.inl e)
          · rcases HA3.out with h0 | h0
            · exact hZn q hq (.inr (h0 ▸ e))
            · have := h0 q e; have := hZ' q hq; omega)
        exact ⟨(keepsFrom_ext hx4 _).trans hk5, (Ext.kp hx4).trans hp5, hI4.push HQ4.out HR4.out HA3.out hto hown5 hgrow5 hat5 hadd.out⟩
    case done =>
      rintro D ys W hD rfl hI hD0
      obtain ⟨vk2, q3, hown3, hat3⟩ := hI.row
      have HD := Lib.hid hD0
      have HQ := Lib.hid q3
      have HW := Lib.hid hown3
      have HI := Lib.hid hI
      clear hD0 q3 hown3 hI
      gi_wp2
      have hsW := HI.out.bt.size
      refine ⟨⟨_, _, _, _, _, _, _, _, _, _, ?calmP, rfl⟩, ?calmM⟩
      case calmP =>
        have hbx : Boxed W w.heap.size 111 (.pointer (some ⟨g, 0, none⟩)) := (HI.out.bt.block _ q10.lt (by
          rintro (e | e)
          · exact absurd e (by omega)
          · have := (hown0 _ e).1; omega)).trans q10
        have hxb : W.heap[w.heap.size + 1]? = some (.cells #[.int .i64 x.g, vx] 61 (0, 0)) := (HI.out.bt.block _ (by omega) (by
          rintro (e | e)
          · omega
          · have := (hown0 _ e).1; omega)).trans qx0
        have hXX : Ext w W := Bt.new (hX.trans' hX0) HI.out.bt fun q _ hq => by
          rcases hq with rfl | hq
          · omega
          · have := (hown0 q hq).1; omega
        refine ⟨k + 1, vk2, by go_num, by omega, hbx, hxb, HQ.out, ?_, HM.out.cons (by omega) (by omega) HD.out fun r h1 h2 => ?_, hXX⟩
        · rw [List.take_succ_eq_append_getElem hlt, behGo_snoc]
          exact HW.out
        · have h3 : W0.heap[r]? = some (.deferred (some [])) := ((Ext.kp (S := fun _ => True) hX0).block r h1 trivial).trans h2
          refine (HI.out.bt.block r (by omega) ?_).trans h3
          rintro (e | e)
          · subst e
            rw [show W0.heap[w.heap.size + 2]? = _ from q20] at h3
            cases h3
          · exact hr0.not_def h3 e
      case calmM => simp [intOf]; omega
    case stop =>
      rintro D c pre W _ _ h _
      exact h.elim
  · have hkk : k = l.length := by omega
    have hlb := behGo_pot s x (l.take k)
    have hlb2 : (behGo s x (l.take k)).length ≤ 200000 := by have := hok.2.2.2.1; omega
    have hval : behL s x l = calmL s (behGo s x (l.take k)) := by rw [behL, hkk, List.take_length]
    have HV := Lib.hid hval
    have HO := Lib.hid hown
    have HM := Lib.hid hM
    obtain ⟨Ak, ck, rfl, hck, hck0⟩ := (hown.sl RInt.good (by decide)).val
    have hw3 : w.heap.size + 3 ≤ wr.heap.size := q2.lt
    clear hown hM hval hlb hkk
    gi_wp2_with fail
    refine ⟨trivial, ?_⟩
    gi_at_call 208
    refine (callsIn_wide.2 (calm_c (fun _ => True) s hok g _ _ wr ((HS.out.mono fun _ _ _ => trivial).bel hX) ((RSl.good RInt.good).mono (HO.out.sl RInt.good (by decide)) fun _ _ _ => trivial) hlb2)).mono ?_
    rintro e w2 ⟨v2, rfl, ho2, hb2⟩
    have HO2 := Lib.hid ho2
    obtain ⟨A2, c2, rfl, hc2, hc20⟩ := (ho2.sl RInt.good (by decide)).val
    clear ho2
    gi_wp2_with fail
    have hM2 : Marks (w.heap.size + 3) ds w2 := HM.out.keep fun r hr h => ((Ext.kp (S := fun _ => True) hb2).block r (Array.getElem?_eq_some_iff.1 h).1 trivial).trans h
    refine Marks.leave (by simp) hM2 fun w3 hb3 => ?_
    refine ⟨_, results_tmp rfl _ _ _, _, rfl, ?_, ?_⟩
    · rw [HV.out]
      exact (HO2.out.bt RInt.good hb3 fun b _ hz => ⟨fun h => h, HO2.out.not_def hz.2⟩).base (by omega)
    · exact Bt.new (hX.trans' hb2) hb3 fun i _ hi => by have := hi.1; omega
end Go.Proofs.YtegenalcheooeaaGreat

/- A range over an iterator that tells the round something of what it hands over (a slice that it has made: that it can be read there and then). -/
set_option linter.unusedSectionVars false
set_option linter.unusedSimpArgs false
set_option linter.unusedVariables false
namespace Go.Proofs.YtegenalcheooeaaGreat
open Go.RowKit
attribute [local go_sem] cell?_exto
open Go.Shelf

/-- The iterator's contract. G: what holds of the element x in the world in which it is handed over, behind the elements pre; K: what the round keeps. -/
def SeqG {α : Type} (n : Nat) (P : Program) (g : Nat) (lb : Array Value) (encs : α → Array Value) (K : World → World → Prop) (G : List α → α → World → Prop) (S Sp : List α → Prop) (w : World) : Prop :=
  ∀ (l : Nat) (J Jx : List α → World → Prop) (W : World), Ext w W → (∀ pre A B, J pre A → Ext A B → J pre B) → (∀ pre A B, Jx pre A → Ext A B → Jx pre B) →
    (∀ pre x A, J pre A → G pre x A → YieldAt Fence.wide (n - 1) P l (encs x) A fun e B =>
      (e = .returned (.bool true) ∧ J (pre ++ [x]) B ∧ K A B) ∨ (e = .returned (.bool false) ∧ Jx (pre ++ [x]) B)) →
    J [] W →
    CallsIn Fence.wide n P g (#[.func (.yield l) #[] #[]] ++ lb) W fun e B => (∃ v, e = .returned v) ∧ ((∃ ys, S ys ∧ J ys B) ∨ (∃ pre, Sp pre ∧ Jx pre B))

theorem ownFrom_ext {β : Type} {B : Nat} {I : β → World → Prop} (h : OwnFrom B I) {s : β} {X Y : World} (hs : I s X) (he : Ext X Y) : I s Y := h s X Y none hs (grown_of_ext he) fun r e => by cases e

set_option maxHeartbeats 1000000 in
set_option maxRecDepth 100000 in
theorem wpIn_range_G {α : Type} {n : Nat} {P : Program} {g : Operand} {ps : Array Tmp} {assign body : Code} {Q : Exit → Act → World → Prop} {a : Act} {w : World}
    {gf : Nat} {lb : Array Value} (h1 : 1 ≤ n) (hg : a.eval g = .func (.func gf) #[] lb) (eg : ∀ args w, (callFunc gf args).run P w = .ok (.enter gf args) w)
    {encs : α → Array Value} {K : World → World → Prop} {G : List α → α → World → Prop} {S Sp : List α → Prop} (hseq : SeqG (n - 1) P gf lb encs K G S Sp w) (hps : ∀ x, (encs x).size = ps.size)
    (hKt : ∀ {A B C : World}, K A B → K B C → K A C) (hKb : ∀ (W : World) (l : Nat) (o o' : Obj), w.heap.size ≤ l → W.heap[l]? = some o → o.isCells = false → K W (W.putObj l o'))
    (I : List α → World → Prop) (Ix : Code → List α → World → Prop) (hI : OwnFrom w.heap.size I) (hIx : ∀ c, OwnFrom w.heap.size (Ix c)) (h0 : I [] w) (Ax : List α → α → Act → World → Prop) (hAx : ∀ pre x a', OwnFrom w.heap.size (fun (_ : Unit) W => Ax pre x a' W))
    (hassign : ∀ (l : Nat) (pre : List α) (x : α) (W : World) (Kc : Act → World → Prop), I pre W → G pre x W → (∀ a' W', KeepsFrom w.heap.size W W' → K W W' → I pre W' → Ax pre x a' W' → Kc a' W') →
      assign.wpIn (Fence.wide.inRound l) (n - 1 - 1) P (Exit.then Kc (fun _ _ _ => False)) { tmps := (ps.zip (encs x)).foldl (fun t (p, v) => t.setIfInBounds p v) a.tmps, defers := [] } W)
    (hbody : ∀ (l : Nat) (pre : List α) (x : α) (a' : Act) (W : World), w.heap.size ≤ l → (∃ r, W.heap[l]? = some (.loop r)) → I pre W → Ax pre x a' W → body.wpIn (Fence.wide.inRound l) (n - 1 - 1) P (ownPostG w.heap.size K I Ix (pre ++ [x]) W) a' W)
    (hdone : ∀ (D : Nat) (xs : List α) (W : World), w.heap.size ≤ D → S xs → I xs W → W.heap[D]? = some (.deferred (some [])) → Q .normal { a with defers := { target := .collected D, args := #[] } :: a.defers } W)
    (hstop : ∀ (D : Nat) (c : Code) (pre : List α) (W : World), w.heap.size ≤ D → Sp pre → Ix c pre W → W.heap[D]? = some (.deferred (some [])) → c.wpIn Fence.wide n P Q { a with defers := { target := .collected D, args := #[] } :: a.defers } W) :
    (Code.rangeFunc g ps assign body).wpIn Fence.wide n P Q a w := by
  refine wpIn_rangeFunc fun fn hfn => ?_
  rw [show Fence.wide.round = none from rfl]
  -- the loop's record lies at L, the block for deferred calls at D
  obtain ⟨D, hD⟩ : ∃ D, D = w.heap.size := ⟨_, rfl⟩
  obtain ⟨L, hL⟩ : ∃ L, L = D + 1 := ⟨_, rfl⟩
  obtain ⟨R, hR⟩ : ∃ R : LoopState → Option Code → Loop, R = fun st pe => { state := st, pending := pe, fn, tmps := a.tmps, params := ps, assign, body, defers := D } := ⟨_, rfl⟩
  obtain ⟨V, hV⟩ : ∃ V, V = (w.alloc (.deferred (some []))).alloc (.loop (R .ready none)) := ⟨_, rfl⟩
  have hext : Ext w V := by rw [hV]; exact ((Ext.refl w).alloc _).alloc _
  have hVL : V.heap[L]? = some (.loop (R .ready none)) := by
    have h := World.alloc_heap_new (w.alloc (.deferred (some []))) (.loop (R .ready none))
    rw [World.size_alloc, ← hD, ← hL] at h
    rw [hV]
    exact h
  have hVD : V.heap[D]? = some (.deferred (some [])) := by
    rw [hV, hD]
    exact (Below.heap_alloc _ _ _ (by simp)).trans (World.alloc_heap_new w _)
  -- what the caller keeps, with both blocks
  have both : ∀ {X Y : World} {o1 o2 : Obj}, X.heap[L]? = some o1 → X.heap[D]? = some o2 → KeepsFrom w.heap.size X Y → o1.isCells = false → o2.isCells = false → Y.heap[L]? = some o1 ∧ Y.heap[D]? = some o2 :=
    fun h2 h3 hk c1 c2 => ⟨hk.same _ _ (by omega) h2 c1, hk.same _ _ (by omega) h3 c2⟩
  have turn : ∀ {X : World} {o1 o2 : Obj} (o3 : Obj), X.heap[L]? = some o1 → X.heap[D]? = some o2 → (X.putObj L o3).heap[L]? = some o3 ∧ (X.putObj L o3).heap[D]? = some o2 :=
    fun o3 h2 h3 => ⟨World.putObj_heap_same (Array.getElem?_eq_some_iff.1 h2).1, (World.putObj_heap_other (by omega)).trans h3⟩
  have extk : ∀ {X Y : World}, Ext X Y → KeepsFrom w.heap.size X Y := fun h => keepsFrom_ext h _
  refine ⟨L, [{ target := .collected D, args := #[] }], V, { target := .fn (.func gf) lb, args := #[.func (.yield L) #[] #[]] }, V, gf, #[.func (.yield L) #[] #[]] ++ lb, V, ?_, ?_, fun _ _ => trivial, ?_, fun _ => h1, ?_⟩
  · have h := run_enterLoop_outer (P := P) (w := w) fn a.tmps ps assign body
    rw [hL, hV, hR, hD]
    exact h
  · simp only [resolve, hg]
    simp [go_sem]
  · simp [invoke, go_sem, eg]
  have hcall := hseq L (fun pre W => I pre W ∧ W.heap[L]? = some (.loop (R .ready none)) ∧ W.heap[D]? = some (.deferred (some [])))
    (fun pre W => ∃ c, Ix c pre W ∧ W.heap[L]? = some (.loop (R .done (some c))) ∧ W.heap[D]? = some (.deferred (some []))) V hext
    (fun pre A B h he => ⟨ownFrom_ext hI h.1 he, both h.2.1 h.2.2 (extk he) rfl rfl⟩)
    (fun pre A B h he => by obtain ⟨c, h2, h3, h4⟩ := h; exact ⟨c, ownFrom_ext (hIx c) h2 he, both h3 h4 (extk he) rfl rfl⟩)
    (fun pre x A hJ hGx => ?_) ⟨ownFrom_ext hI h0 hext, hVL, hVD⟩
  · -- behind the iterator
    refine hcall.mono ?_
    rintro e W ⟨⟨v, rfl⟩, ⟨ys, hS, hi, h2, h3⟩ | ⟨pre, hSp, c, hi, h2, h3⟩⟩
    · refine ⟨none, W.putObj L (.loop { R .ready none with state := .exhausted }), ?_, ?_⟩
      · have h := run_endLoop (P := P) h2 (by rw [hR]; simp)
        rw [hR] at h ⊢
        exact h
      · exact hdone D ys _ (by omega) hS (hI.putObj _ hi (by omega) h2 rfl) (turn _ h2 h3).2
    · refine ⟨some c, W.putObj L (.loop { R .done (some c) with state := .exhausted }), ?_, ?_⟩
      · have h := run_endLoop (P := P) h2 (by rw [hR]; simp)
        rw [hR] at h ⊢
        exact h
      · exact hstop D c pre _ (by omega) hSp ((hIx c).putObj _ hi (by omega) h2 rfl) (turn _ h2 h3).2
  · -- a round
    obtain ⟨hi, h2, h3⟩ := hJ
    have hy := run_yield (P := P) (args := encs x) h2 (by rw [hR]; exact hps x)
    rw [hR] at hy
    refine ⟨fn, _, assign, body, hy, roundIn_of_wpIn hfn (hassign L pre x A _ hi hGx fun a1 B hkf hkk hi1 hax => ?_)⟩
    clear hy
    obtain ⟨h4, h5⟩ := both h2 h3 hkf rfl rfl
    obtain ⟨C, hC⟩ : ∃ C, C = B.putObj L (.loop { R .ready none with state := .busy }) := ⟨_, rfl⟩
    have h67 := turn (.loop { R .ready none with state := .busy }) h4 h5
    have hiC := hI.putObj (.loop { R .ready none with state := .busy }) hi1 (by omega) h4 rfl
    have haC := (hAx pre x a1).putObj (s := ()) (.loop { R .ready none with state := .busy }) hax (by omega) h4 rfl
    have hkC := hKb B L _ (.loop { R .ready none with state := .busy }) (by omega) h4 rfl
    rw [← hC] at h67 hiC haC hkC
    refine ⟨C, ?_, wpIn_mono (hbody L pre x a1 C (by omega) ⟨_, h67.1⟩ hiC haC) ?_⟩
    · have h := run_beginRound (P := P) h4 (by rw [hR])
      rw [hC]
      rw [hR] at h ⊢
      exact h
    -- what the end of the round does
    have close : ∀ (jump : Option Code) (E : World), KeepsFrom w.heap.size C E → ∃ o, (Instr.endRound L jump).run P E = .ok (.bool jump.isNone) (E.putObj L (.loop (R (if jump.isNone then .ready else .done) jump))) ∧ E.heap[L]? = some o ∧ o.isCells = false ∧
        (E.putObj L (.loop (R (if jump.isNone then .ready else .done) jump))).heap[L]? = some (.loop (R (if jump.isNone then .ready else .done) jump)) ∧ (E.putObj L (.loop (R (if jump.isNone then .ready else .done) jump))).heap[D]? = some (.deferred (some [])) := fun jump E hk => by
      obtain ⟨h8, h9⟩ := both h67.1 h67.2 hk rfl rfl
      have h := run_endRound (P := P) jump h8
      refine ⟨_, ?_, h8, rfl, turn _ h8 h9⟩
      rw [hR] at h ⊢
      exact h
    have leave : ∀ (c : Code) (E : World), KeepsFrom w.heap.size C E → Ix c (pre ++ [x]) E → ∃ r E', (Instr.endRound L (some c)).run P E = .ok r E' ∧ ((Ending.returned r = .returned (.bool true) ∧ (I (pre ++ [x]) E' ∧ E'.heap[L]? = some (.loop (R .ready none)) ∧ E'.heap[D]? = some (.deferred (some []))) ∧ K A E') ∨
        (Ending.returned r = .returned (.bool false) ∧ ∃ c, Ix c (pre ++ [x]) E' ∧ E'.heap[L]? = some (.loop (R .done (some c))) ∧ E'.heap[D]? = some (.deferred (some [])))) := fun c E hk hx => by
      obtain ⟨o, r1, r2, r3, r4⟩ := close (some c) E hk
      exact ⟨_, _, r1, .inr ⟨rfl, c, (hIx c).putObj _ hx (by omega) r2 r3, r4⟩⟩
    rintro e a3 E hp
    cases e with
    | normal =>
      obtain ⟨hk, hkk3, hi3⟩ := hp
      obtain ⟨o, r1, r2, r3, r4⟩ := close none E hk
      exact ⟨_, _, r1, .inl ⟨rfl, ⟨hI.putObj _ hi3 (by omega) r2 r3, r4⟩, hKt hkk (hKt (hKt hkC hkk3) (hKb E L _ _ (by omega) r2 r3))⟩⟩
    | ret => exact leave .ret E hp.1 hp.2
    | exit id => exact leave (.exit id) E hp.1 hp.2
    | goto t => exact leave (.goto t) E hp.1 hp.2
    | panic ch => exact hp.elim
    | outgrown => exact hp.elim
end Go.Proofs.YtegenalcheooeaaGreat

/- suite.walk and suite.after: walked. -/
set_option linter.unusedSectionVars false
set_option linter.unusedSimpArgs false
set_option linter.unusedVariables false
namespace Go.Proofs.YtegenalcheooeaaGreat
open Go.RowKit
attribute [local go_sem] cell?_exto
open Go.Shelf
attribute [local go_sem] Oper.semAt_some

/-- What after comes to. -/
def afterL (s : Sy) (tr : List Lb) : List Int := tr.foldl (fun l x => behL s x l) (calmL s [0])
theorem afterL_snoc (s : Sy) (tr : List Lb) (x : Lb) : afterL s (tr ++ [x]) = behL s x (afterL s tr) := by simp [afterL]
theorem afterL_take (s : Sy) (tr : List Lb) (k : Nat) (h : k < tr.length) : afterL s (tr.take (k + 1)) = behL s tr[k] (afterL s (tr.take k)) := by rw [List.take_succ_eq_append_getElem h, afterL_snoc]
theorem calmRow_mem (s : Sy) (hok : okSyP s) : ∀ (is : List (Fin s.es.length)) (l : List Int), l.length ≤ 200000 → (calmRow s is l).length ≤ 300000 := fun is l h => by
  have := (calmRow_pot s is l).1
  have := calmPot_le s l
  have := hok.2.2.2.1
  omega
theorem calmGo_len (s : Sy) : ∀ (f i : Nat) (l : List Int), (calmGo s f i l).length + calmPot s (calmGo s f i l) ≤ l.length + calmPot s l
  | 0, _, _ => by rw [calmGo]; exact Nat.le_refl _
  | f + 1, i, l => by
    rw [calmGo]
    split
    · exact Nat.le_trans (calmGo_len s f (i + 1) _) (calmRow_pot s _ l).1
    · exact Nat.le_refl _
theorem calmL_len (s : Sy) (l : List Int) : (calmL s l).length ≤ l.length + calmPot s l := by
  rw [calmL, sortI_len]
  have := calmGo_len s (l.length + s.es.length) 0 l
  omega
theorem behL_len (s : Sy) (x : Lb) (l : List Int) : (behL s x l).length ≤ s.es.length := Nat.le_trans (calmL_len s _) (behGo_pot s x l)
theorem afterL_len (s : Sy) (tr : List Lb) : (afterL s tr).length ≤ s.es.length + 1 := by
  rcases List.eq_nil_or_concat tr with rfl | ⟨tr', x, rfl⟩
  · have h1 := calmL_len s [0]
    have := calmPot_le s [0]
    simp only [List.length_cons, List.length_nil] at h1
    show (calmL s [0]).length ≤ _
    omega
  · have := behL_len s x (afterL s tr')
    rw [List.concat_eq_append, afterL_snoc]
    omega

/-- Cells, and what lay ahead of n0, stay as they are (but for Zb). -/
def Kc (Zb : Nat → Prop) (n0 : Nat) (A B : World) : Prop := A.heap.size ≤ B.heap.size ∧ ∀ k o, A.heap[k]? = some o → ¬ Zb k → (o.isCells = true ∨ k < n0) → B.heap[k]? = some o
theorem kc_t {Zb : Nat → Prop} {n0 : Nat} {A B C : World} (h : Kc Zb n0 A B) (k : Kc Zb n0 B C) : Kc Zb n0 A C := ⟨Nat.le_trans h.1 k.1, fun i o hi hz hc => k.2 i o (h.2 i o hi hz hc) hz hc⟩
theorem kc_b {Zb : Nat → Prop} {n0 : Nat} (W : World) (l : Nat) (o o' : Obj) (hl : n0 ≤ l) (h : W.heap[l]? = some o) (hc : o.isCells = false) : Kc Zb n0 W (W.putObj l o') :=
  ⟨by simp, fun k u hk _ hc' => (World.putObj_heap_other (fun e => by
    subst e
    rw [h] at hk
    cases hk
    rcases hc' with hc' | hc'
    · rw [hc] at hc'; cases hc'
    · omega)).trans hk⟩
theorem Kc.of_bt {Zb : Nat → Prop} {n0 : Nat} {A B : World} (h : Bt Zb A B) : Kc Zb n0 A B := ⟨h.size, fun k _ hk hz _ => (h.block k (Array.getElem?_eq_some_iff.1 hk).1 hz).trans hk⟩
theorem Kc.kp {Zb S : Nat → Prop} {n0 : Nat} {A B : World} (h : Kc Zb n0 A B) (hS : ∀ k, S k → k < n0 ∧ ¬ Zb k) : Kp S A B :=
  ⟨h.1, fun k hk hs => by
    obtain ⟨o, ho⟩ : ∃ o, A.heap[k]? = some o := ⟨_, Array.getElem?_eq_getElem hk⟩
    rw [ho]
    exact h.2 k o ho (hS k hs).2 (.inr (hS k hs).1)⟩
theorem Kc.rown {Zb : Nat → Prop} {n0 : Nat} {A B : World} {xs : List Int} {v : Value} (h : Kc Zb n0 A B) (hZ : ∀ k, Zb k → k < n0) (hr : ROwn RInt 1 3 n0 (fun _ => False) A xs v) : ROwn RInt 1 3 n0 (fun _ => False) B xs v := by
  obtain ⟨news, ⟨h1, h2⟩, h3⟩ := hr
  refine ⟨news, ⟨h1, h2.imp id ?_⟩, h3.imp fun x _ cs h => h⟩
  rintro ⟨g, cap, cur, rfl, hg, hh, hrest⟩
  exact ⟨g, cap, cur, rfl, hg, h.2 g _ hh (fun hz => by have := hZ g hz; omega) (.inl rfl), hrest⟩
theorem rown_own {base B : Nat} {xs : List Int} {v : Value} {β : Type} : OwnFrom B (fun (_ : β) W => ROwn RInt 1 3 base (fun _ => False) W xs v) := by
  intro _ X Y r h hg hr
  obtain ⟨news, h2, h3⟩ := h
  refine ⟨news, ⟨h2.1, h2.2.imp id ?_⟩, h3.imp fun _ _ _ hx => hx⟩
  rintro ⟨gg, cap, cur, rfl, hgg, hh, hrest⟩
  refine ⟨gg, cap, cur, rfl, hgg, (hg.block gg (Array.getElem?_eq_some_iff.1 hh).1 fun e => ?_).trans hh, hrest⟩
  obtain ⟨_, o', h4, h5⟩ := hr gg e.symm
  rw [hh] at h4
  cases h4
  cases h5

theorem rsl_one {S : Nat → Prop} (w : World) (x : Int) (hx : I64 x) (hS : S w.heap.size) : RSl RInt 1 S (w.alloc (.cells #[.int .i64 x] 3)) [x] [.slice (some ⟨w.heap.size, 0, none⟩) 1 1] :=
  ⟨_, 1, rfl, by simp, by decide, .inr ⟨w.heap.size, 0, rfl, by simp, hS, ⟨[.int .i64 x], rfl, ⟨rfl, hx⟩, fun i v h => by have := cell_one_new w (.int .i64 x) 3 i v h; rwa [Addr.add_lit] at this⟩, trivial⟩⟩

/-- What a round is handed, and what holds of it. -/
def wkArgs (x : Nat × Value) : Array Value := #[.int .i64 (x.1 : Int), x.2]
def walkG (s : Sy) (tr : List Lb) (n0 : Nat) (pre : List (Nat × Value)) (x : Nat × Value) (A : World) : Prop := x.1 = pre.length ∧ pre.length ≤ tr.length ∧ ROwn RInt 1 3 n0 (fun _ => False) A (afterL s (tr.take pre.length)) x.2

set_option maxHeartbeats 1000000 in
set_option maxRecDepth 100000 in
theorem walk1_in (n : Nat) (hn : 1 ≤ n) (Zb S : Nat → Prop) (n0 : Nat) (s : Sy) (hok : okSyP s) (g : Nat) (tr : List Lb) (v : Value) (Bs Bt l : Nat) (hSZ : ∀ k, S k → k < n0 ∧ ¬ Zb k) (hZb : ∀ k, Zb k → k < n0) (J Jx : List (Nat × Value) → World → Prop) (W : World) (hn0 : n0 ≤ W.heap.size)
    (hJ : ∀ pre A B, J pre A → Ext A B → J pre B)
    (hY : ∀ pre x A, J pre A → walkG s tr n0 pre x A → YieldAt Fence.wide (n - 1) Tryz.prog l (wkArgs x) A fun e B =>
      (e = .returned (.bool true) ∧ J (pre ++ [x]) B ∧ Kc Zb n0 A B) ∨ (e = .returned (.bool false) ∧ Jx (pre ++ [x]) B))
    (hS : IsSys S W g s) (ht : RLbs S W tr [v]) (hBs : S Bs) (hBt : S Bt) (hcs : W.cell? ⟨Bs, 0, none⟩ = some (.pointer (some ⟨g, 0, none⟩))) (hct : W.cell? ⟨Bt, 0, none⟩ = some v) (htr : tr.length ≤ 4611686018427387903) (h0 : J [] W) :
    CallsIn Fence.wide n Tryz.prog 220 #[.func (.yield l) #[] #[], .pointer (some ⟨Bs, 0, none⟩), .pointer (some ⟨Bt, 0, none⟩)] W fun e W' => (∃ v, e = .returned v) ∧
      ((∃ ys, ys.length = tr.length + 1 ∧ J ys W') ∨ (∃ pre, pre.length ≤ tr.length + 1 ∧ Jx pre W')) := by
  obtain ⟨At, ct, rfl, hct1, hct0⟩ := ht.val
  have hcalm := fun W1 (hW : Ext W W1) => calm_c (fun _ => True) s hok g [0] _ _ ((hS.mono fun _ _ _ => trivial).bel (hW.trans' ((Ext.refl W1).alloc _))) (rsl_one W1 0 ⟨by decide, by decide⟩ trivial) (by decide)
  have HY := Lib.hid hY
  have HS := Lib.hid hS
  have HT := Lib.hid ht
  have HJ := Lib.hid hJ
  have HSZ := Lib.hid hSZ
  have HZB := Lib.hid hZb
  have H0 := Lib.hid h0
  clear hY hS ht hJ hSZ hZb h0
  refine callsIn_of_wp Tryz.func220 rfl trivial ?_ rfl
  simp only [Tryz.ntmps220, List.size_toArray, List.length_cons, List.length_nil, Nat.reduceAdd, Nat.reduceSub, Array.replicate_succ, Array.replicate_zero, List.push_toArray, List.append_toArray, List.nil_append, List.cons_append]
  gi_wp2_with fail
  refine ⟨trivial, ?_⟩
  gi_at_call 208
  refine (callsIn_wide.2 (hcalm W (Ext.refl _))).mono ?_
  rintro e w1 ⟨v1, rfl, ho1, hx1⟩
  have hX1 : Ext W w1 := ((Ext.refl W).alloc _).trans' hx1
  have hO1 := Lib.hid (ho1.base (base' := n0) (by simp; omega))
  obtain ⟨A1, c1, rfl, hc1, hc10⟩ := (ho1.sl RInt.good (by decide)).val
  have hJ1 := Lib.hid (HJ.out _ _ _ H0.out hX1)
  clear ho1 hx1 hcalm
  gi_wp2_with fail
  gi_loopw [4, 5] (fun vl i wr => ∃ (k : Nat) (A : Option Addr) (c : Nat) (pre : List (Nat × Value)), k ≤ tr.length ∧ i = .int .i64 k ∧ pre.length = k ∧ vl = .slice A (afterL s (tr.take k)).length c ∧ ROwn RInt 1 3 n0 (fun _ => False) wr (afterL s (tr.take k)) (.slice A (afterL s (tr.take k)).length c) ∧ J pre wr ∧ Kc Zb n0 W wr) (fun _ i _ => tr.length - (intOf i).toNat)
  case atStart => exact ⟨0, A1, c1, [], Nat.zero_le _, rfl, rfl, rfl, hO1.out, hJ1.out, Kc.of_bt hX1.bt⟩
  case round =>
    obtain ⟨k, A, c, pre, hk, rfl, hpl, rfl, hown, hJs, hK⟩ := hrel
    obtain ⟨fn, tmps, assign, body, hy, hRd⟩ := HY.out pre (k, .slice A (afterL s (tr.take k)).length c) wr hJs ⟨hpl.symm, by omega, by rw [hpl]; exact hown⟩
    unfold wkArgs at hy
    simp only at hy
    have HO := Lib.hid hown
    have HP := Lib.hid hpl
    clear hown hJs hpl
    gi_wp2
    refine hRd.mono ?_
    rintro e W3 (⟨rfl, hJ3, hk3⟩ | ⟨rfl, hJx3⟩)
    · have hK3 := kc_t hK hk3
      have hkp := hK3.kp HSZ.out
      have b1 : W3.cell? ⟨Bs, 0, none⟩ = some (.pointer (some ⟨g, 0, none⟩)) := (World.cell?_of_block (a := ⟨Bs, 0, none⟩) (hkp.block Bs (World.block_lt_of_cell? W _ hcs) hBs)).trans hcs
      have b2 : W3.cell? ⟨Bt, 0, none⟩ = some (.slice At tr.length ct) := (World.cell?_of_block (a := ⟨Bt, 0, none⟩) (hkp.block Bt (World.block_lt_of_cell? W _ hct) hBt)).trans hct
      have HS3 := Lib.hid (HS.out.move hkp)
      have HT3 := Lib.hid (RLbs.good.move HT.out hkp)
      have HO3 := Lib.hid (hk3.rown HZB.out HO.out)
      have HJ3 := Lib.hid hJ3
      have HK3 := Lib.hid hK3
      clear hJ3 hK3 hkp hk3 hK
      by_cases hlt : k < tr.length
      · obtain ⟨b, off, cs, hA, hb, hT, hl, hr, hcell⟩ := HT3.out.get k hlt
        obtain rfl := hA
        obtain ⟨ig, vx, rfl, hvx⟩ := id hr
        have t0 := hcell.get 0 _
        have t1 := hcell.get 1 _
        simp only [Nat.add_zero] at t0
        have hbeh := fun X (hX : Ext W3 X) => (behind_c (fun _ => True) s hok g (afterL s (tr.take k)) tr[k] _ vx X ((HS3.out.mono fun _ _ _ => trivial).bel hX) ((RSl.good RInt.good).bel ((RSl.good RInt.good).mono (HO3.out.sl RInt.good (by decide)) fun _ _ _ => trivial) hX) (RLb.good.bel (RLb.good.mono hr fun _ _ _ => trivial) hX) (by have := afterL_len s (tr.take k); have := hok.2.2.2.1; omega)).mono fun e w' h => RowPost.at h (b' := n0) (by have := hX.size; have := HK3.out.1; omega)
        have hst := Lib.hid (afterL_take s tr k hlt)
        clear hcell hl hr hvx hT
        gi_wp2_with fail
        refine wpIn_wide.2 ?_
        go_region_held3 (fun W => W.cell? ⟨Bs, 0, none⟩ = some (.pointer (some ⟨g, 0, none⟩)) ∧ W.cell? ⟨Bt, 0, none⟩ = some (.slice (some ⟨b, off, none⟩) tr.length ct) ∧ W.cell? ⟨b, off + k * 2, none⟩ = some (.int .i64 tr[k].g) ∧ W.cell? ⟨b, off + k * 2 + 1, none⟩ = some vx)
          (first | (refine ⟨?_, ?_, ?_, ?_⟩ <;> go_simp <;> done) | exact Ext.k4 hx1 (by assumption) | exact Ext.k4 (ExtD.ext hx1) (by assumption) | exact Ext.k4 ((Ext.refl _).alloc _) (by assumption))
          (first | (go_at_call 221; refine (hbeh _ (by repeat (first | exact Ext.refl _ | apply Ext.alloc | apply Below.drew | apply Ext.drewN | refine Ext.trans' ?_ (by assumption) | refine Ext.trans' ?_ (ExtD.ext (by assumption))))).mono ?_; rintro e w4 ⟨A4, c4, rfl, ho4, hx1⟩))
        gi_wp2_with fail
        go_roundw
        case rel =>
          refine ⟨k + 1, A4, c4, pre ++ [(k, .slice A (afterL s (tr.take k)).length c)], by omega, by go_num, by simp [HP.out], ?_, ?_, HJ.out _ _ _ HJ3.out (by repeat (first | exact Ext.refl _ | apply Ext.alloc | apply Below.drew | apply Ext.drewN | refine Ext.trans' ?_ (by assumption) | refine Ext.trans' ?_ (ExtD.ext (by assumption)))), kc_t HK3.out (Kc.of_bt (Ext.bt (by repeat (first | exact Ext.refl _ | apply Ext.alloc | apply Below.drew | apply Ext.drewN | refine Ext.trans' ?_ (by assumption) | refine Ext.trans' ?_ (ExtD.ext (by assumption))))))⟩
          · rw [hst.out]
          · rw [hst.out]
            exact ho4.ext RInt.good (by repeat (first | exact Ext.refl _ | apply Ext.alloc | apply Below.drew | apply Ext.drewN | refine Ext.trans' ?_ (by assumption) | refine Ext.trans' ?_ (ExtD.ext (by assumption))))
        case measure => simp [intOf]; omega
      · have hke : Hid (k = tr.length) := by show _ = _; omega
        gi_wp2
        go_end0
        exact ⟨⟨_, rfl⟩, .inl ⟨_, by simp [HP.out, hke.out], HJ3.out⟩⟩
    · gi_wp2
      go_end0
      exact ⟨⟨_, rfl⟩, .inr ⟨_, by simp [HP.out]; omega, hJx3⟩⟩

set_option maxHeartbeats 1000000 in
set_option maxRecDepth 100000 in
theorem strolled (n : Nat) (p : Option Addr) (A : Option Addr) (m c : Nat) (w : World) :
    CallsIn Fence.wide n Tryz.prog 150 #[.pointer p, .slice A m c] w fun e w' => e = .returned (.func (.func 220) #[] #[.pointer (some ⟨w.heap.size, 0, none⟩), .pointer (some ⟨w.heap.size + 1, 0, none⟩)]) ∧
      w' = (w.alloc (.cells #[.pointer p] 111)).alloc (.cells #[.slice A m c] 22) := by
  refine callsIn_wide.2 ?_
  go_enter Tryz.func150, Tryz.ntmps150
  go_wp2_with fail
  go_ret
  exact ⟨rfl, rfl⟩

/-- The iterator's contract. -/
theorem walk_gives (n : Nat) (hn : 1 ≤ n) (Zb S : Nat → Prop) (s : Sy) (hok : okSyP s) (g : Nat) (tr : List Lb) (v : Value) (Bs Bt : Nat) (w : World) (hSZ : ∀ k, S k → k < w.heap.size ∧ ¬ Zb k) (hZb : ∀ k, Zb k → k < w.heap.size)
    (hS : IsSys S w g s) (ht : RLbs S w tr [v]) (hBs : S Bs) (hBt : S Bt) (hcs : w.cell? ⟨Bs, 0, none⟩ = some (.pointer (some ⟨g, 0, none⟩))) (hct : w.cell? ⟨Bt, 0, none⟩ = some v) (htr : tr.length ≤ 4611686018427387903) :
    SeqG n Tryz.prog 220 #[.pointer (some ⟨Bs, 0, none⟩), .pointer (some ⟨Bt, 0, none⟩)] wkArgs (Kc Zb w.heap.size) (walkG s tr w.heap.size) (fun ys => ys.length = tr.length + 1) (fun pre => pre.length ≤ tr.length + 1) w := fun l J Jx W hW hJ hJx hY h0 =>
  walk1_in n hn Zb S w.heap.size s hok g tr v Bs Bt l hSZ hZb J Jx W hW.size hJ hY (hS.bel hW) (RLbs.good.bel ht hW) hBs hBt (Ext.keep hW hcs) (Ext.keep hW hct) htr h0
end Go.Proofs.YtegenalcheooeaaGreat

