/- Of the proof of a law of the suites: LCompE, After. -/
import Derived.Test.YtegenalcheooeaaGreatB19
import Derived.Test.YtegenalcheooeaaGreatB26
import Derived.Laws.StructEq
/- slices.Compact at edges of which no two neighbours are alike: walked. -/
set_option linter.unusedSectionVars false
set_option linter.unusedSimpArgs false
set_option linter.unusedVariables false
namespace Go.Proofs.YtegenalcheooeaaGreat
open Go.RowKit
attribute [local go_sem] cell?_exto
open Go.Shelf

theorem eqGuard_ed (W : World) (a b : Operand) (xs ys : Array Value) : (eqGuard .eql 88 a b (.agg xs) (.agg ys)).run Tryz.prog W = .ok () W := run_eqGuard_agg _ _ _ _ _ _ _ (by kernel_rfl)
theorem run_eql_ed (W : World) (x y : Ed) (h : x ≠ y) : (binOp .eql 88 (.agg #[.int .i64 x.f, .int .i64 x.l, .int .i64 x.t]) (.agg #[.int .i64 y.f, .int .i64 y.l, .int .i64 y.t])).run Tryz.prog W = .ok (.bool false) W := by
  have hS : Tryz.prog.underlying 88 = some (.struct (Tryz.prog.fieldsOf 88)) := by kernel_rfl
  have hp : Tryz.prog.stoodInHeld 88 = false := by kernel_rfl
  have u3 := Tryz.underlying3
  rw [run_eql_struct, show (10000 : Nat) = 9999 + 1 from rfl, run_equalIn_agg W 9999 88 _ _ hS hp]
  simp only [Program.fieldsOf, Tryz.underlying88]
  go_simp
  have hne : ¬ (x.f = y.f ∧ x.l = y.l ∧ x.t = y.t) := fun e => h (by
    obtain ⟨f, l, t⟩ := x
    obtain ⟨f', l', t'⟩ := y
    simp only at e
    rw [e.1, e.2.1, e.2.2])
  by_cases h1 : x.f = y.f <;> by_cases h2 : x.l = y.l <;> by_cases h3 : x.t = y.t <;> simp_all

def noDup (l : List Ed) : Prop := ∀ k, (h : k + 1 < l.length) → l[k + 1] ≠ l[k]
set_option maxHeartbeats 1000000 in
set_option maxRecDepth 100000 in
theorem compactE_c (S : Nat → Prop) (l : List Ed) (v : Value) (w : World) (hx : REds S w l [v]) (hd : noDup l) :
    Calls Tryz.prog 249 #[v] w fun e w' => e = .returned v ∧ Ext w w' := by
  obtain ⟨A, c, rfl, hc, hc0⟩ := hx.val
  have HX := Lib.hid hx
  have HD : Hid (∀ k, (h : k < l.length) → 1 ≤ k → l[k] ≠ l[k - 1]) := fun k h h1 => by
    obtain ⟨j, rfl⟩ : ∃ j, k = j + 1 := ⟨k - 1, by omega⟩
    exact hd j h
  clear hx hd
  by_cases h2 : l.length < 2
  · go_enter Tryz.func249, Tryz.ntmps249
    go_wp2_with fail
    go_ret
    exact ⟨rfl, Ext.refl _⟩
  go_enter Tryz.func249, Tryz.ntmps249
  go_wp2_with fail
  go_loopw [3] (fun i wr => ∃ k : Nat, 1 ≤ k ∧ k ≤ l.length ∧ i = .int .i64 k ∧ Ext w wr) (fun i _ => l.length - (intOf i).toNat)
  case atStart => exact ⟨1, Nat.le_refl _, by omega, rfl, Ext.refl _⟩
  case round =>
    obtain ⟨k, hk1, hk, rfl, hE⟩ := hrel
    by_cases hlt : k < l.length
    · have hX := REds.good.bel HX.out hE
      obtain ⟨b, off, cs, rfl, hb, hSb, hl, hr, hcell⟩ := hX.get k hlt
      obtain ⟨b', off', cs', he, hb', hSb', hl', hr', hcell'⟩ := hX.get (k - 1) (by omega)
      injection he with he
      injection he with he1 he2
      subst he1 he2
      obtain ⟨_, _, _, rfl⟩ := hr
      obtain ⟨_, _, _, rfl⟩ := hr'
      have a0 := hcell.get 0 _
      have a1 := hcell.get 1 _
      have a2 := hcell.get 2 _
      have b0 := hcell'.get 0 _
      have b1 := hcell'.get 1 _
      have b2 := hcell'.get 2 _
      simp only [Nat.add_zero] at a0 b0
      have hq := fun W => run_eql_ed W l[k] l[k - 1] (HD.out k hlt hk1)
      have hk0 : (0 : Int) ≤ (k : Int) - 1 := by omega
      have hk2 : ((k : Int) - 1).toNat = k - 1 := by omega
      have hk3 : (k : Int) - 1 < (l.length : Int) := by omega
      obtain ⟨x, hxx⟩ : ∃ x, l[k] = x := ⟨_, rfl⟩
      obtain ⟨y, hyy⟩ : ∃ y, l[k - 1] = y := ⟨_, rfl⟩
      rw [hxx] at a0 a1 a2
      rw [hyy] at b0 b1 b2
      rw [hxx, hyy] at hq
      clear hcell hcell' hX hSb hSb' hl hl' hxx hyy
      go_wp2_with fail
      (refine wp_region_ext (by kernel_rfl) (by kernel_rfl) ?_; (repeat (first | go_big_quiet_step (fail) | quiet_step (fail))); refine wpQuiet_nil ?_)
      intro w2 hx2
      go_wp2_with fail
      go_roundw
      case rel => exact ⟨k + 1, by omega, by omega, by go_num, (by repeat (first | exact Ext.refl _ | apply Ext.alloc | apply Below.drew | apply Ext.drewN | refine Ext.trans' ?_ (by assumption) | refine Ext.trans' ?_ (ExtD.ext (by assumption))))⟩
      case measure => simp [intOf]; omega
    · go_wp2_with fail
      go_ret
      exact ⟨rfl, hE⟩
end Go.Proofs.YtegenalcheooeaaGreat

/- suite.after: walked. -/
set_option linter.unusedSectionVars false
set_option linter.unusedSimpArgs false
set_option linter.unusedVariables false
namespace Go.Proofs.YtegenalcheooeaaGreat
open Go.RowKit
attribute [local go_sem] cell?_exto
open Go.Shelf
attribute [local go_sem] Oper.semAt_some

def lastL (s : Sy) (tr : List Lb) : Nat → List Int
  | 0 => []
  | k + 1 => afterL s (tr.take k)

set_option maxHeartbeats 1000000 in
set_option maxRecDepth 100000 in
theorem after_c (S : Nat → Prop) (s : Sy) (hok : okSyP s) (g : Nat) (tr : List Lb) (v : Value) (w : World) (hS : IsSys S w g s) (ht : RLbs S w tr [v]) (htr : tr.length ≤ 4611686018427387903) :
    Calls Tryz.prog 81 #[.pointer (some ⟨g, 0, none⟩), v] w (RowPost w.heap.size (afterL s tr) w) := by
  have HS := Lib.hid hS
  have HT := Lib.hid ht
  obtain ⟨At, ct, rfl, hct, hct0⟩ := ht.val
  clear hS ht
  refine (callsIn_wide (n := 3)).1 ?_
  refine callsIn_of_wp_marks Tryz.func81 rfl trivial ?_ rfl
  simp only [Tryz.ntmps81, List.size_toArray, List.length_cons, List.length_nil, Nat.reduceAdd, Nat.reduceSub, Array.replicate_succ, Array.replicate_zero, List.push_toArray, List.append_toArray, List.nil_append, List.cons_append]
  gi_wp2_with fail
  refine ⟨trivial, ?_⟩
  gi_at_call 150
  refine (strolled 2 (some ⟨g, 0, none⟩) At tr.length ct _).mono ?_
  rintro e w1 ⟨rfl, rfl⟩
  gi_wp2_with fail
  obtain ⟨W0, hW0⟩ : ∃ W0, ((w.alloc (.cells #[.slice none 0 0] 53)).alloc (.cells #[.pointer (some ⟨g, 0, none⟩)] 111)).alloc (.cells #[.slice At tr.length ct] 22) = W0 := ⟨_, rfl⟩
  have hsz0 : W0.heap.size = w.heap.size + 3 := by rw [← hW0]; simp
  have hX0 : Ext w W0 := by rw [← hW0]; exact (((Ext.refl w).alloc _).alloc _).alloc _
  have bo0 : Boxed W0 w.heap.size 53 (.slice none 0 0) := by rw [← hW0]; exact ((Boxed.new w 53 _).alloc _).alloc _
  have bs0 : Boxed W0 (w.heap.size + 1) 111 (.pointer (some ⟨g, 0, none⟩)) := by
    rw [← hW0]
    have := (Boxed.new (w.alloc (.cells #[.slice none 0 0] 53)) 111 (.pointer (some ⟨g, 0, none⟩))).alloc (.cells #[.slice At tr.length ct] 22)
    rwa [World.size_alloc] at this
  have bt0 : Boxed W0 (w.heap.size + 2) 22 (.slice At tr.length ct) := by
    rw [← hW0]
    have := Boxed.new ((w.alloc (.cells #[.slice none 0 0] 53)).alloc (.cells #[.pointer (some ⟨g, 0, none⟩)] 111)) 22 (.slice At tr.length ct)
    rwa [World.size_alloc, World.size_alloc] at this
  rw [hW0]
  clear hW0
  obtain ⟨Z, hZ⟩ : ∃ Z : Nat → Prop, Z = fun q => (S q ∧ q < w.heap.size) ∨ q = w.heap.size + 1 ∨ q = w.heap.size + 2 := ⟨_, rfl⟩
  have hS0 : IsSys Z W0 g s := (HS.out.mono (S' := Z) fun q h1 h2 => by rw [hZ]; exact .inl ⟨h2, h1⟩).bel hX0
  have hT0 : RLbs Z W0 tr [.slice At tr.length ct] := RLbs.good.bel (RLbs.good.mono HT.out (S' := Z) fun q h1 h2 => by rw [hZ]; exact .inl ⟨h2, h1⟩) hX0
  refine wpIn_range_G (by omega) (gf := 220) (lb := #[.pointer (some ⟨w.heap.size + 1, 0, none⟩), .pointer (some ⟨w.heap.size + 2, 0, none⟩)]) rfl (enters_of Tryz.func220 (by kernel_rfl) rfl)
    (walk_gives (3 - 1) (by omega) (fun b => b = w.heap.size) Z s hok g tr _ (w.heap.size + 1) (w.heap.size + 2) W0 (fun k hk => by
      rw [hZ] at hk
      rcases hk with ⟨_, h⟩ | h | h <;> constructor <;> omega) (fun k hk => by omega) hS0 hT0 (by rw [hZ]; exact .inr (.inl rfl)) (by rw [hZ]; exact .inr (.inr rfl)) bs0.cell bt0.cell htr)
    (fun _ => rfl) kc_t (fun W l o o' h1 h2 h3 => kc_b W l o o' h1 h2 h3)
    (fun pre W => Bt (fun b => b = w.heap.size) W0 W ∧ pre.length ≤ tr.length + 1 ∧ ∃ vo, Boxed W w.heap.size 53 vo ∧ ROwn RInt 1 3 W0.heap.size (fun _ => False) W (lastL s tr pre.length) vo) (fun _ _ _ => False) ?own (fun _ _ _ _ _ hs _ _ => hs)
    ⟨Bt.refl _ _, by simp, _, bo0, ROwn.nil ..⟩
    (fun pre x a' W => walkG s tr W0.heap.size pre x W ∧ a' = { tmps := #[.pointer (some ⟨g, 0, none⟩), .slice At tr.length ct, undef, undef, .slice none 0 0, .pointer (some ⟨w.heap.size, 0, none⟩), undef, x.2, .pointer (some ⟨g, 0, none⟩), .slice At tr.length ct, .func (.func 220) #[] #[.pointer (some ⟨w.heap.size + 1, 0, none⟩), .pointer (some ⟨w.heap.size + 2, 0, none⟩)], .int .i64 (x.1 : Int), x.2, undef, undef], defers := [] })
    (fun pre x a' _ X Y row hs hg hr => ⟨⟨hs.1.1, hs.1.2.1, rown_own () X Y row hs.1.2.2 hg hr⟩, hs.2⟩)
    ?assign ?body ?done ?stop
  case own =>
    rintro pre X Y r ⟨h1, h0, vo, h2, h3⟩ hg hr
    have hlow : ∀ q, q < X.heap.size → q < W0.heap.size → Y.heap[q]? = X.heap[q]? := fun q h4 h5 => hg.block q h4 fun e => by have := (hr q e.symm).1; omega
    exact ⟨⟨hg.os.trans h1.os, hg.tape.trans h1.tape, hg.output.trans h1.output, Nat.le_trans h1.size hg.size, fun k hk hz => (hlow k (Nat.lt_of_lt_of_le hk h1.size) hk).trans (h1.block k hk hz)⟩, h0, vo, (hlow _ h2.lt (by omega)).trans h2, rown_own () X Y r h3 hg hr⟩
  case assign =>
    rintro l2 pre ⟨xi, xv⟩ W Kc' hI hG hK
    unfold wkArgs
    simp only
    gi_wp2
    exact hK _ _ (KeepsFrom.refl _ _) ⟨Nat.le_refl _, fun _ _ h _ _ => h⟩ hI ⟨hG, rfl⟩
  case body =>
    rintro l2 pre ⟨xi, xv⟩ a' W hl2 _ ⟨hb, hl, vo, q, ho⟩ ⟨⟨hx1, hx2, hx3⟩, rfl⟩
    simp only at hx1 hx2 hx3
    obtain ⟨A3, c3, rfl, _, _⟩ := (hx3.sl RInt.good (by decide)).val
    have y := q.cell
    have y' := q.frozen
    have HQ := Lib.hid q
    have HX3 := Lib.hid hx3
    have HO := Lib.hid ho
    clear q hx3 ho
    gi_wp2
    have hs := Bt.set (Bt.refl (fun b => b = w.heap.size) W) (p := ⟨w.heap.size, 0, none⟩) (.inr rfl) (.slice A3 (afterL s (tr.take pre.length)).length c3)
    refine ⟨(KeepsOthers.setCell _ _ _).from _, Kc.of_bt hs, hb.trans hs, by simp; omega, _, HQ.out.set _, ?_⟩
    rw [List.length_append, List.length_cons, List.length_nil, lastL]
    exact HX3.out.bt RInt.good hs fun b hb' hz => ⟨fun h => h, fun e => by
      obtain ⟨news, h1, _⟩ := HX3.out
      have := (own_row_base h1 b e).1
      have hz' : b = w.heap.size := hz
      omega⟩
  case done =>
    rintro D ys W hD hys ⟨hb, hl, vo, q, ho⟩ hD0
    rw [hys] at ho
    simp only [lastL, List.take_length] at ho
    obtain ⟨A3, c3, rfl, _, _⟩ := (ho.sl RInt.good (by decide)).val
    have y := q.cell
    have HO := Lib.hid ho
    have HD := Lib.hid hD0
    have HB := Lib.hid hb
    clear q ho hD0 hb
    gi_wp2
    have hXW : Ext w W := Bt.new hX0 HB.out fun i _ hi => by have hi' : i = w.heap.size := hi; omega
    have hM : Marks W0.heap.size [{ target := .collected D, args := #[] }] W := (Marks.nil W0.heap.size W0).cons hD (by omega) HD.out (fun r h1 h2 => (HB.out.block r h1 (by
      rintro rfl
      rw [show W0.heap[w.heap.size]? = _ from bo0] at h2
      cases h2)).trans h2)
    refine Marks.leave (by simp) hM fun w3 hb3 => ?_
    refine ⟨_, results_tmp rfl _ _ _, _, rfl, ?_, ?_⟩
    · exact (HO.out.bt RInt.good hb3 fun b _ hz => ⟨fun h => h, HO.out.not_def hz.2⟩).base (by omega)
    · exact Bt.new hXW hb3 fun i _ hi => by have := hi.1; omega
  case stop =>
    rintro D c pre W _ _ h _
    exact h.elim
end Go.Proofs.YtegenalcheooeaaGreat

