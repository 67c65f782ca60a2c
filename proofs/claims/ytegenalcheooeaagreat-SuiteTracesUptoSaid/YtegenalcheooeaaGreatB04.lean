/- Of the proof of a law of the suites: LibCTm, Beh, LibITm, LibILbs. -/
import Derived.Test.YtegenalcheooeaaGreatB03
import Derived.Great.BuildSlice
set_option linter.unusedSectionVars false
set_option linter.unusedSimpArgs false
set_option linter.unusedVariables false
namespace Go.Proofs.YtegenalcheooeaaGreat
open Go.RowKit
attribute [local go_sem] cell?_exto
section

set_option maxHeartbeats 1000000 in
set_option maxRecDepth 100000 in
/-- slices.CompareFunc at Tm. -/
theorem cmpFTm (cf : Tm → Tm → Int) (S : Nat → Prop) (w : World) (xs ys : List (Tm)) (v u : Value) (hx : RSl RTm 3 S w xs [v]) (hy : RSl RTm 3 S w ys [u]) (g : Nat) (lb : Array Value)
  (eg : ∀ args w, (callFunc g args).run Tryz.prog w = .ok (.enter g args) w)
  (hp : ∀ x ∈ xs, ∀ y ∈ ys, ∀ cs cs2 W, ExtD w W → RTm S W x cs → RTm S W y cs2 → Calls Tryz.prog g (#[.agg cs.toArray, .agg cs2.toArray] ++ lb) W fun e w' => e = .returned (.int .i64 (cf x y)) ∧ ExtD W w') :
  Calls Tryz.prog 188 #[v, u, .func (.func g) #[] lb] w fun e w' => e = .returned (.int .i64 (lcmp cf xs ys)) ∧ ExtD w w' := by
 obtain ⟨A, c, rfl, hc, hc0⟩ := hx.val
 obtain ⟨A', c', rfl, hc', hc0'⟩ := hy.val
 have HX := Lib.hid hx
 have HY := Lib.hid hy
 have HP := Lib.hid hp
 clear hx hy hp
 go_enter Tryz.func188, Tryz.ntmps188
 go_wp2_with fail
 go_loopw [7, 8, 9, 10, 13] (fun _ _ _ _ i wr => ∃ k : Nat, k ≤ xs.length ∧ k ≤ ys.length ∧ i = .int .i64 k ∧ ExtD w wr ∧ Hid (lcmp cf xs ys = lcmp cf (xs.drop k) (ys.drop k))) (fun _ _ _ _ i _ => xs.length - (intOf i).toNat)
 case atStart => exact ⟨0, Nat.zero_le _, Nat.zero_le _, rfl, ExtD.refl _, rfl⟩
 case round =>
  obtain ⟨k, hk, hk2, rfl, hE, hf⟩ := hrel
  by_cases hlt : k < xs.length
  ·obtain ⟨b, off, cs, rfl, hb, hS, hl, hr, hcell⟩ := ((RSl.good RTm.good).ext HX.out hE).get k hlt
   by_cases hlt2 : k < ys.length
   ·obtain ⟨b2, off2, cs2, rfl, hb2, hS2, hl2, hr2, hcell2⟩ := ((RSl.good RTm.good).ext HY.out hE).get k hlt2
    have hcon := fun W (hW : ExtD wr W) => HP.out xs[k] (List.getElem_mem hlt) ys[k] (List.getElem_mem hlt2) cs cs2 W (hE.trans hW) (RTm.good.ext hr hW) (RTm.good.ext hr2 hW)
    obtain ⟨c0, c1, c2, rfl⟩ : ∃ c0 c1 c2, cs = [c0, c1, c2] := by
     match cs, hl with
     | [c0, c1, c2], _ => exact ⟨c0, c1, c2, rfl⟩
    have g0 := (by simpa using hcell.get 0 _ : wr.cell? ⟨b, off + k * 3, none⟩ = some c0)
    have g1 := hcell.get 1 _
    have g2 := hcell.get 2 _
    obtain ⟨d0, d1, d2, rfl⟩ : ∃ d0 d1 d2, cs2 = [d0, d1, d2] := by
     match cs2, hl2 with
     | [d0, d1, d2], _ => exact ⟨d0, d1, d2, rfl⟩
    have q0 := (by simpa using hcell2.get 0 _ : wr.cell? ⟨b2, off2 + k * 3, none⟩ = some d0)
    have q1 := hcell2.get 1 _
    have q2 := hcell2.get 2 _
    have s0 := fun (W : World) (a : Addr) (m : Mode) => run_store Tryz.prog W a c0 m (RTm.good.one hr c0 (by simp))
    have s1 := fun (W : World) (a : Addr) (m : Mode) => run_store Tryz.prog W a c1 m (RTm.good.one hr c1 (by simp))
    have s2 := fun (W : World) (a : Addr) (m : Mode) => run_store Tryz.prog W a c2 m (RTm.good.one hr c2 (by simp))
    have t0 := fun (W : World) (a : Addr) (m : Mode) => run_store Tryz.prog W a d0 m (RTm.good.one hr2 d0 (by simp))
    have t1 := fun (W : World) (a : Addr) (m : Mode) => run_store Tryz.prog W a d1 m (RTm.good.one hr2 d1 (by simp))
    have t2 := fun (W : World) (a : Addr) (m : Mode) => run_store Tryz.prog W a d2 m (RTm.good.one hr2 d2 (by simp))
    rw [List.drop_eq_getElem_cons hlt, List.drop_eq_getElem_cons hlt2, lcmp] at hf
    clear hcell hcell2 hl hl2 hS hS2 hr hr2
    by_cases hq : cf xs[k] ys[k] = 0
    ·rw [if_pos hq] at hf
     have Hf := Lib.hid hf
     have hq1 : (cf xs[k] ys[k] != 0) = false := by rw [hq]; rfl
     rw [hq] at hcon
     clear hf hq1 hq
     go_wp2_with fail
     refine (hcon _ extd).mono ?_
     rintro e w1 ⟨rfl, h1⟩
     go_wp2_with fail
     go_roundw
     case rel => exact ⟨k + 1, by omega, by omega, by go_num, extd, Hf.out⟩
     case measure => simp [intOf]; omega
    ·rw [if_neg hq] at hf
     have Hf := Lib.hid hf
     have hq1 : (cf xs[k] ys[k] != 0) = true := bne_iff_ne.2 hq
     clear hf hq
     go_wp2_with fail
     refine (hcon _ extd).mono ?_
     rintro e w1 ⟨rfl, h1⟩
     go_wp2_with fail
     go_ret
     exact ⟨by rw [Hf.out]; rfl, extd⟩
   ·rw [List.drop_of_length_le (l := ys) (by omega), List.drop_eq_getElem_cons hlt, lcmp] at hf
    have Hf := Lib.hid hf
    obtain ⟨c0, c1, c2, rfl⟩ : ∃ c0 c1 c2, cs = [c0, c1, c2] := by
     match cs, hl with
     | [c0, c1, c2], _ => exact ⟨c0, c1, c2, rfl⟩
    have g0 := (by simpa using hcell.get 0 _ : wr.cell? ⟨b, off + k * 3, none⟩ = some c0)
    have g1 := hcell.get 1 _
    have g2 := hcell.get 2 _
    have s0 := fun (W : World) (a : Addr) (m : Mode) => run_store Tryz.prog W a c0 m (RTm.good.one hr c0 (by simp))
    have s1 := fun (W : World) (a : Addr) (m : Mode) => run_store Tryz.prog W a c1 m (RTm.good.one hr c1 (by simp))
    have s2 := fun (W : World) (a : Addr) (m : Mode) => run_store Tryz.prog W a c2 m (RTm.good.one hr c2 (by simp))
    clear hf hcell
    go_wp2_with fail
    go_ret
    exact ⟨by rw [Hf.out]; rfl, extd⟩
  ·rw [List.drop_of_length_le (l := xs) (by omega)] at hf
   by_cases hlt2 : k < ys.length
   ·rw [List.drop_eq_getElem_cons hlt2, lcmp] at hf
    have Hf := Lib.hid hf
    clear hf
    go_wp2_with fail
    go_ret
    exact ⟨by rw [Hf.out]; rfl, hE⟩
   ·rw [List.drop_of_length_le (by omega), lcmp] at hf
    have Hf := Lib.hid hf
    clear hf
    go_wp2_with fail
    go_ret
    exact ⟨by rw [Hf.out]; rfl, hE⟩
end
section
set_option maxHeartbeats 1000000
set_option maxRecDepth 100000
/- beh: labels compared; lts: edges compared. -/

/-! ### A literal of three whole numbers: the operation's own law -/
theorem info3x : ∃ ie, Tryz.prog.info? 3 = some ie ∧ ie.zero = some (.int .i64 0) ∧ ie.size = 1 := by
 have h : (Tryz.prog.info? 3).map (fun i => (i.zero, i.size)) = some (some (.int .i64 0), 1) := by kernel_rfl
 cases hi : Tryz.prog.info? 3 with
 | none => rw [hi] at h; simp at h
 | some ie => rw [hi] at h; simp at h; exact ⟨ie, rfl, h.1, h.2⟩
theorem fill3 (a b c : Value) (h1 : a.cells = #[a]) (h2 : b.cells = #[b]) (h3 : c.cells = #[c]) : Instr.fill (fun i => some (i * 1, 1)) ((Array.range (3 * 1)).map ((Value.int .i64 0).cells[· % (Value.int .i64 0).cells.size]!)) [(0, a), (1, b), (2, c)] = some #[a, b, c] := by
 have e : (Array.range (3 * 1)).map ((Value.int .i64 0).cells[· % (Value.int .i64 0).cells.size]!) = #[.int .i64 0, .int .i64 0, .int .i64 0] := by
  have : Array.range (3 * 1) = #[0, 1, 2] := by decide
  rw [this]; simp [Value.cells]
 rw [e]
 simp [Instr.fill, h1, h2, h3]
theorem exec_lit3 (ev : Operand → Value) (d : Option Tmp) (x y z : Operand) (ty : TypeId) (pos : String) (after : Array Edge) (g : Option (Nat × Bool)) (W : World)
  (h1 : (ev x).cells = #[ev x]) (h2 : (ev y).cells = #[ev y]) (h3 : (ev z).cells = #[ev z]) :
  Sem.run Tryz.prog (execOp ev { dst := d, op := .buildSlice 53 3 #[(0, x), (1, y), (2, z)], type := ty, pos := pos, after := after, guard := g }) W =
   .ok (.value (.slice (some ⟨W.heap.size, 0, none⟩) 3 3)) (W.alloc (.cells #[ev x, ev y, ev z] 3)) := by
 obtain ⟨ie, hie, hz, hs⟩ := info3x
 unfold execOp
 have := run_buildSlice W 53 3 3 #[(0, ev x), (1, ev y), (2, ev z)] #[ev x, ev y, ev z] ie (.int .i64 0) Tryz.underlying53 hie hz (by rw [hs]; decide) (by rw [hs]; decide) (by rw [hs]; exact fill3 _ _ _ h1 h2 h3)
 simp only [Sem.run_bind, List.map_toArray, List.map_cons, List.map_nil, this, Result.andThen_ok, Sem.run_pure]
attribute [local go_sem ↓] exec_lit3

theorem ints_newD (W : World) (l : List Int) (t : TypeId) (h : ∀ x ∈ l, I64 x) (hl : l.length ≤ 1000) (n : Nat) (hn : n = W.heap.size) : RSl RInt 1 (fun _ => True) (W.alloc (.cells (l.map fun n => Value.int .i64 n).toArray t)).drew l [.slice (some ⟨n, 0, none⟩) l.length l.length] := by
 subst hn
 exact (RSl.good RInt.good).ext (ints_new W l t h hl) (ExtD.refl _).drew
theorem lcmp_terms : ∀ x y : List Tm, lcmp cmpTm x y = cmpTms x y
 | [], [] => by rw [lcmp, cmpTms]; rfl
 | [], y :: ys => by rw [lcmp, cmpTms]; unfold cmpI; rw [if_pos (by simp only [List.length_cons]; omega)]
 | x :: xs, [] => by rw [lcmp, cmpTms]
 | x :: xs, y :: ys => by rw [lcmp, cmpTms, lcmp_terms xs ys]
theorem eg122 : ∀ args w, (callFunc 122 args).run Tryz.prog w = .ok (.enter 122 args) w := enters_of Tryz.func122 (by kernel_rfl) rfl
def SigC (x : Tm) : Prop := ∀ (S : Nat → Prop) (y : Tm) (cx cy : List Value) (W : World), RTm S W x cx → RTm S W y cy →
  Calls Tryz.prog 122 #[.agg cx.toArray, .agg cy.toArray] W fun e w' => e = .returned (.int .i64 (cmpTm x y)) ∧ ExtD W w'
theorem sig_of (x : Tm) (ht : ∀ z ∈ x.l, SigC z) : SigC x := by
 intro S y cx cy w hx hy
 obtain ⟨_, _, vx, rfl, hvx⟩ := (RTm_iff ..).1 hx
 obtain ⟨_, _, vy, rfl, hvy⟩ := (RTm_iff ..).1 hy
 have hcon := fun W (hW : ExtD w W) => cmpFTm cmpTm S W x.l y.l vx vy (RTms.good.ext hvx hW) (RTms.good.ext hvy hW) 122 #[] eg122 (fun x hx y hy cs cs2 W' hW' h1 h2 => ht x hx S y cs cs2 W' h1 h2)
 rw [lcmp_terms] at hcon
 obtain ⟨A, c, rfl, hc, hc0⟩ := hvx.val
 obtain ⟨A', c', rfl, hc', hc0'⟩ := hvy.val
 clear hx hy hvx hvy ht
 have hor : cmpTm x y = if orI [cmpI x.k y.k, cmpI x.n y.n, cmpI x.l.length y.l.length] = 0 then cmpTms x.l y.l else orI [cmpI x.k y.k, cmpI x.n y.n, cmpI x.l.length y.l.length] := by
  rw [cmpTm_eq]
  simp only [orI]
  by_cases h1 : cmpI x.k y.k = 0
  ·by_cases h2 : cmpI x.n y.n = 0
   ·by_cases h3 : cmpI x.l.length y.l.length = 0
    ·simp [h1, h2, h3]
     intro h; exact h.symm
    ·simp [h1, h2, h3]
   ·simp [h1, h2]
  ·simp [h1]
 by_cases h0 : orI [cmpI x.k y.k, cmpI x.n y.n, cmpI x.l.length y.l.length] = 0
 ·rw [if_pos h0] at hor
  have HV := Lib.hid hor
  have H0 := Lib.hid h0
  clear h0 hor
  go_enter Tryz.func122, Tryz.ntmps122
  go_wp2_with fail
  go_region_held3 (fun W => W.cell? ⟨w.heap.size, 0, none⟩ = some (.int .i64 x.k) ∧ W.cell? ⟨w.heap.size, 1, none⟩ = some (.int .i64 x.n) ∧ W.cell? ⟨w.heap.size, 2, none⟩ = some (.slice A x.l.length c) ∧ W.cell? ⟨w.heap.size + 1, 0, none⟩ = some (.int .i64 y.k) ∧ W.cell? ⟨w.heap.size + 1, 1, none⟩ = some (.int .i64 y.n) ∧ W.cell? ⟨w.heap.size + 1, 2, none⟩ = some (.slice A' y.l.length c'))
   (first | (refine ⟨?_, ?_, ?_, ?_, ?_, ?_⟩ <;> go_simp <;> done) | exact hx1.k6 (by assumption) | exact ((ExtD.refl _).alloc _).k6 (by assumption))
   (first | (go_at_call 120; refine (cmp_c _ _ _).mono ?_; rintro e w' ⟨rfl, rfl⟩) | (go_at_call 119; refine (or_c (fun _ => True) [cmpI x.k y.k, cmpI x.n y.n, cmpI x.l.length y.l.length] _ _ (ints_newD _ [cmpI x.k y.k, cmpI x.n y.n, cmpI x.l.length y.l.length] 3 (by intro z hz; simp at hz; rcases hz with rfl | rfl | rfl <;> exact cmpI_64 _ _) (by simp) _ (by simp))).mono ?_; rintro e w' ⟨rfl, rfl⟩))
  rw [H0.out]
  go_wp2_with fail
  refine (hcon _ extd).mono ?_
  rintro e w1 ⟨rfl, hx1⟩
  go_wp2_with fail
  go_ret
  exact ⟨by rw [HV.out]; rfl, extd⟩
 ·rw [if_neg h0] at hor
  have HV := Lib.hid hor
  have h0' : (orI [cmpI x.k y.k, cmpI x.n y.n, cmpI x.l.length y.l.length] != 0) = true := bne_iff_ne.2 h0
  clear h0 hor hcon
  go_enter Tryz.func122, Tryz.ntmps122
  go_wp2_with fail
  go_region_held3 (fun W => W.cell? ⟨w.heap.size, 0, none⟩ = some (.int .i64 x.k) ∧ W.cell? ⟨w.heap.size, 1, none⟩ = some (.int .i64 x.n) ∧ W.cell? ⟨w.heap.size, 2, none⟩ = some (.slice A x.l.length c) ∧ W.cell? ⟨w.heap.size + 1, 0, none⟩ = some (.int .i64 y.k) ∧ W.cell? ⟨w.heap.size + 1, 1, none⟩ = some (.int .i64 y.n) ∧ W.cell? ⟨w.heap.size + 1, 2, none⟩ = some (.slice A' y.l.length c'))
   (first | (refine ⟨?_, ?_, ?_, ?_, ?_, ?_⟩ <;> go_simp <;> done) | exact hx1.k6 (by assumption) | exact ((ExtD.refl _).alloc _).k6 (by assumption))
   (first | (go_at_call 120; refine (cmp_c _ _ _).mono ?_; rintro e w' ⟨rfl, rfl⟩) | (go_at_call 119; refine (or_c (fun _ => True) [cmpI x.k y.k, cmpI x.n y.n, cmpI x.l.length y.l.length] _ _ (ints_newD _ [cmpI x.k y.k, cmpI x.n y.n, cmpI x.l.length y.l.length] 3 (by intro z hz; simp at hz; rcases hz with rfl | rfl | rfl <;> exact cmpI_64 _ _) (by simp) _ (by simp))).mono ?_; rintro e w' ⟨rfl, rfl⟩))
  go_wp2_with fail
  go_ret
  exact ⟨by rw [HV.out]; rfl, extd⟩
theorem sig_c : ∀ x, SigC x := Tm.ind sig_of

theorem lists_c (S : Nat → Prop) (x y : List Tm) (vx vy : Value) (w : World) (hx : RTms S w x [vx]) (hy : RTms S w y [vy]) :
  Calls Tryz.prog 121 #[vx, vy, .func (.func 122) #[] #[]] w fun e w' => e = .returned (.int .i64 (cmpTms x y)) ∧ ExtD w w' := by
 have hcon := fun W (hW : ExtD w W) => cmpFTm cmpTm S W x y vx vy (RTms.good.ext hx hW) (RTms.good.ext hy hW) 122 #[] eg122 (fun x hx y hy cs cs2 W' hW' h1 h2 => sig_c x S y cs cs2 W' h1 h2)
 rw [lcmp_terms] at hcon
 obtain ⟨A, c, rfl, hc, hc0⟩ := hx.val
 obtain ⟨A', c', rfl, hc', hc0'⟩ := hy.val
 clear hx hy
 go_enter Tryz.func121, Tryz.ntmps121
 go_wp2_with fail
 refine (hcon _ extd).mono ?_
 rintro e w1 ⟨rfl, hx1⟩
 go_wp2_with fail
 go_ret
 exact ⟨rfl, extd⟩

theorem CompareLabels_c (S : Nat → Prop) (x y : Lb) (cx cy : List Value) (w : World) (hx : RLb S w x cx) (hy : RLb S w y cy) :
  Calls Tryz.prog 57 #[.agg cx.toArray, .agg cy.toArray] w fun e w' => e = .returned (.int .i64 (cmpLb x y)) ∧ ExtD w w' := by
 obtain ⟨_, vx, rfl, hx⟩ := hx
 obtain ⟨_, vy, rfl, hy⟩ := hy
 have hcon := fun W (hW : ExtD w W) => lists_c S x.v y.v vx vy W (RTms.good.ext hx hW) (RTms.good.ext hy hW)
 obtain ⟨A, c, rfl, hc, hc0⟩ := hx.val
 obtain ⟨A', c', rfl, hc', hc0'⟩ := hy.val
 clear hx hy
 go_enter Tryz.func57, Tryz.ntmps57
 go_wp2_with fail
 go_region_held3 (fun W => W.cell? ⟨w.heap.size, 0, none⟩ = some (.int .i64 x.g) ∧ W.cell? ⟨w.heap.size, 1, none⟩ = some (.slice A x.v.length c) ∧ W.cell? ⟨w.heap.size + 1, 0, none⟩ = some (.int .i64 y.g) ∧ W.cell? ⟨w.heap.size + 1, 1, none⟩ = some (.slice A' y.v.length c'))
  (first | (refine ⟨?_, ?_, ?_, ?_⟩ <;> go_simp <;> done) | exact hx1.k4 (by assumption) | exact ((ExtD.refl _).alloc _).k4 (by assumption))
  (first | (go_at_call 120; refine (cmp_c _ _ _).mono ?_; rintro e w' ⟨rfl, rfl⟩) | (go_at_call 121; refine (hcon _ extd).mono ?_; rintro e w1 ⟨rfl, hx1⟩) | (go_at_call 119; refine (or_c (fun _ => True) [cmpI x.g y.g, cmpTms x.v y.v] _ _ (ints_new _ [cmpI x.g y.g, cmpTms x.v y.v] 3 (by intro z hz; simp at hz; rcases hz with rfl | rfl <;> first | exact cmpI_64 _ _ | exact cmpTms_64 _ _) (by simp))).mono ?_; rintro e w' ⟨rfl, rfl⟩))
 go_wp2_with fail
 go_ret
 exact ⟨rfl, extd⟩
def sameLb (x y : Lb) : Bool := decide (cmpLb x y = 0)
theorem SameLabel_c (S : Nat → Prop) (x y : Lb) (cx cy : List Value) (w : World) (hx : RLb S w x cx) (hy : RLb S w y cy) :
  Calls Tryz.prog 37 #[.agg cx.toArray, .agg cy.toArray] w fun e w' => e = .returned (.bool (sameLb x y)) ∧ ExtD w w' := by
 have hcon := fun W (hW : ExtD w W) => CompareLabels_c S x y cx cy W (RLb.good.ext hx hW) (RLb.good.ext hy hW)
 obtain ⟨_, vx, rfl, hx⟩ := hx
 obtain ⟨_, vy, rfl, hy⟩ := hy
 clear hx hy
 go_enter Tryz.func37, Tryz.ntmps37
 go_wp2_with fail
 refine (hcon _ extd).mono ?_
 rintro e w1 ⟨rfl, hx1⟩
 go_wp2_with fail
 go_ret
 exact ⟨rfl, extd⟩

/-- lts.compareEdges -/
def cmpEd (x y : Ed) : Int := orI [cmpI x.f y.f, cmpI x.l y.l, cmpI x.t y.t]
theorem compareEdges_c (S : Nat → Prop) (x y : Ed) (cx cy : List Value) (w : World) (hx : REd S w x cx) (hy : REd S w y cy) :
  Calls Tryz.prog 98 #[.agg cx.toArray, .agg cy.toArray] w fun e w' => e = .returned (.int .i64 (cmpEd x y)) ∧ ExtD w w' := by
 obtain ⟨_, _, _, rfl⟩ := hx
 obtain ⟨_, _, _, rfl⟩ := hy
 go_enter Tryz.func98, Tryz.ntmps98
 go_wp2_with fail
 go_region_held3 (fun W => W.cell? ⟨w.heap.size, 0, none⟩ = some (.int .i64 x.f) ∧ W.cell? ⟨w.heap.size, 1, none⟩ = some (.int .i64 x.l) ∧ W.cell? ⟨w.heap.size, 2, none⟩ = some (.int .i64 x.t) ∧ W.cell? ⟨w.heap.size + 1, 0, none⟩ = some (.int .i64 y.f) ∧ W.cell? ⟨w.heap.size + 1, 1, none⟩ = some (.int .i64 y.l) ∧ W.cell? ⟨w.heap.size + 1, 2, none⟩ = some (.int .i64 y.t))
  (first | (refine ⟨?_, ?_, ?_, ?_, ?_, ?_⟩ <;> go_simp <;> done) | exact hx1.k6 (by assumption) | exact ((ExtD.refl _).alloc _).k6 (by assumption))
  (first | (go_at_call 120; refine (cmp_c _ _ _).mono ?_; rintro e w' ⟨rfl, rfl⟩) | (go_at_call 119; refine (or_c (fun _ => True) [cmpI x.f y.f, cmpI x.l y.l, cmpI x.t y.t] _ _ (ints_newD _ [cmpI x.f y.f, cmpI x.l y.l, cmpI x.t y.t] 3 (by intro z hz; simp at hz; rcases hz with rfl | rfl | rfl <;> exact cmpI_64 _ _) (by simp) _ (by simp))).mono ?_; rintro e w' ⟨rfl, rfl⟩))
 go_wp2_with fail
 go_ret
 exact ⟨rfl, extd⟩
end
section
set_option maxHeartbeats 1000000
set_option maxRecDepth 100000
/- slices.IndexFunc and ContainsFunc at each element type of the program: what they come to, whatever function value they are given. -/

/-- slices.IndexFunc at Tm: the function may keep a state s, told by J. -/
theorem idxFTm {σ : Type} (J : σ → World → Prop) (step : σ → Tm → Bool × σ) (S : Nat → Prop) (w : World) (xs : List (Tm)) (v : Value) (hx : RSl RTm 3 S w xs [v]) (g : Nat) (lb : Array Value)
  (eg : ∀ args w, (callFunc g args).run Tryz.prog w = .ok (.enter g args) w) (hJ : ∀ s W, J s W → Kp S w W)
  (hp : ∀ x ∈ xs, ∀ s cs W, J s W → RTm S W x cs → Calls Tryz.prog g (#[.agg cs.toArray] ++ lb) W fun e w' => e = .returned (.bool (step s x).1) ∧ J (step s x).2 w') (s0 : σ) (h0 : J s0 w) :
  Calls Tryz.prog 206 #[v, .func (.func g) #[] lb] w fun e w' => e = .returned (.int .i64 (findS step s0 xs).1) ∧ J (findS step s0 xs).2 w' := by
 obtain ⟨A, c, rfl, hc, hc0⟩ := hx.val
 have HX := Lib.hid hx
 have HP := Lib.hid hp
 have HJ := Lib.hid hJ
 clear hx hp hJ
 go_enter Tryz.func206, Tryz.ntmps206
 go_wp2
 go_loopw [5, 8] (fun _ i wr => ∃ k : Nat, k ≤ xs.length ∧ i = .int .i64 k ∧ Hid (∃ s, J s wr ∧ findS step s0 xs = ((findS step s (xs.drop k)).1 + (if (findS step s (xs.drop k)).1 < 0 then 0 else (k : Int)), (findS step s (xs.drop k)).2))) (fun _ i _ => xs.length - (intOf i).toNat)
 case atStart => exact ⟨0, Nat.zero_le _, rfl, s0, h0, by simp⟩
 case round =>
  obtain ⟨k, hk, rfl, s, hs, hf⟩ := hrel
  by_cases hlt : k < xs.length
  ·obtain ⟨b, off, cs, rfl, hb, hS, hl, hr, hcell⟩ := ((RSl.good RTm.good).move HX.out (HJ.out _ _ hs)).get k hlt
   have hcon := HP.out xs[k] (List.getElem_mem hlt) s cs wr hs hr
   obtain ⟨c0, c1, c2, rfl⟩ : ∃ c0 c1 c2, cs = [c0, c1, c2] := by
    match cs, hl with
    | [c0, c1, c2], _ => exact ⟨c0, c1, c2, rfl⟩
   have g0 := (by simpa using hcell.get 0 _ : wr.cell? ⟨b, off + k * 3, none⟩ = some c0)
   have g1 := hcell.get 1 _
   have g2 := hcell.get 2 _
   rw [List.drop_eq_getElem_cons hlt, findS] at hf
   clear hcell hl hS hr
   cases hq : (step s xs[k]).1 with
   | true =>
    rw [hq] at hcon hf
    have Hf := Lib.hid hf
    clear hf
    go_wp2_with fail
    refine hcon.mono ?_
    rintro e w' ⟨rfl, hs'⟩
    go_wp2_with fail
    go_ret
    rw [Hf.out]
    exact ⟨by simp, hs'⟩
   | false =>
    rw [hq] at hcon hf
    have Hf := Lib.hid hf
    clear hf
    go_wp2_with fail
    refine hcon.mono ?_
    rintro e w' ⟨rfl, hs'⟩
    go_wp2_with fail
    go_roundw
    case rel =>
     refine ⟨k + 1, by omega, by go_num, _, hs', ?_⟩
     rw [Hf.out]
     exact findS_next _ _
    case measure => simp [intOf]; omega
  ·have hd : xs.drop k = [] := List.drop_of_length_le (by omega)
   rw [hd, findS] at hf
   have Hf := Lib.hid hf
   clear hf
   go_wp2
   go_ret
   rw [Hf.out]
   exact ⟨by simp, hs⟩

/-- slices.ContainsFunc at Tm. -/
theorem conFTm {σ : Type} (J : σ → World → Prop) (step : σ → Tm → Bool × σ) (S : Nat → Prop) (w : World) (xs : List (Tm)) (v : Value) (hx : RSl RTm 3 S w xs [v]) (g : Nat) (lb : Array Value)
  (eg : ∀ args w, (callFunc g args).run Tryz.prog w = .ok (.enter g args) w) (hJ : ∀ s W, J s W → Kp S w W)
  (hp : ∀ x ∈ xs, ∀ s cs W, J s W → RTm S W x cs → Calls Tryz.prog g (#[.agg cs.toArray] ++ lb) W fun e w' => e = .returned (.bool (step s x).1) ∧ J (step s x).2 w') (s0 : σ) (h0 : J s0 w) :
  Calls Tryz.prog 137 #[v, .func (.func g) #[] lb] w fun e w' => e = .returned (.bool (anyS step s0 xs).1) ∧ J (anyS step s0 xs).2 w' := by
 obtain ⟨A, c, rfl, hc, hc0⟩ := hx.val
 have hcon := idxFTm J step S w xs _ hx g lb eg hJ hp s0 h0
 rw [anyS_find]
 clear hx hp hJ
 go_enter Tryz.func137, Tryz.ntmps137
 go_wp2_with fail
 refine hcon.mono ?_
 rintro e w' ⟨rfl, hs'⟩
 go_wp2_with fail
 all_goals go_ret
 all_goals exact ⟨by simp, hs'⟩

/-- The same, where the function tells p and only adds to memory. -/
theorem conPTm (p : Tm → Bool) (S : Nat → Prop) (w : World) (xs : List (Tm)) (v : Value) (hx : RSl RTm 3 S w xs [v]) (g : Nat) (lb : Array Value)
  (eg : ∀ args w, (callFunc g args).run Tryz.prog w = .ok (.enter g args) w)
  (hp : ∀ x ∈ xs, ∀ cs W, Ext w W → RTm S W x cs → Calls Tryz.prog g (#[.agg cs.toArray] ++ lb) W fun e w' => e = .returned (.bool (p x)) ∧ Ext W w') :
  Calls Tryz.prog 137 #[v, .func (.func g) #[] lb] w fun e w' => e = .returned (.bool (xs.any p)) ∧ Ext w w' :=
 (conFTm (fun (_ : Unit) W => Ext w W) (fun s x => (p x, s)) S w xs v hx g lb eg (fun _ _ h => Ext.kp h) (fun x hx s cs W hW hr => (hp x hx cs W hW hr).mono fun e w' ⟨he, hb⟩ => ⟨he, hW.trans' hb⟩) () (Ext.refl w)).mono
  fun e w' ⟨he, hb⟩ => ⟨by rw [he, anyS_pure], hb⟩
theorem idxPTm (p : Tm → Bool) (S : Nat → Prop) (w : World) (xs : List (Tm)) (v : Value) (hx : RSl RTm 3 S w xs [v]) (g : Nat) (lb : Array Value)
  (eg : ∀ args w, (callFunc g args).run Tryz.prog w = .ok (.enter g args) w)
  (hp : ∀ x ∈ xs, ∀ cs W, Ext w W → RTm S W x cs → Calls Tryz.prog g (#[.agg cs.toArray] ++ lb) W fun e w' => e = .returned (.bool (p x)) ∧ Ext W w') :
  Calls Tryz.prog 206 #[v, .func (.func g) #[] lb] w fun e w' => e = .returned (.int .i64 (findI p xs)) ∧ Ext w w' :=
 (idxFTm (fun (_ : Unit) W => Ext w W) (fun s x => (p x, s)) S w xs v hx g lb eg (fun _ _ h => Ext.kp h) (fun x hx s cs W hW hr => (hp x hx cs W hW hr).mono fun e w' ⟨he, hb⟩ => ⟨he, hW.trans' hb⟩) () (Ext.refl w)).mono
  fun e w' ⟨he, hb⟩ => ⟨by rw [he, findS_pure], hb⟩
end
section
set_option maxHeartbeats 1000000
set_option maxRecDepth 100000
/- slices.IndexFunc and ContainsFunc at each element type of the program: what they come to, whatever function value they are given. -/

/-- slices.IndexFunc at Lbs: the function may keep a state s, told by J. -/
theorem idxFLbs {σ : Type} (J : σ → World → Prop) (step : σ → List Lb → Bool × σ) (S : Nat → Prop) (w : World) (xs : List (List Lb)) (v : Value) (hx : RSl RLbs 1 S w xs [v]) (g : Nat) (lb : Array Value)
  (eg : ∀ args w, (callFunc g args).run Tryz.prog w = .ok (.enter g args) w) (hJ : ∀ s W, J s W → Kp S w W)
  (hp : ∀ x ∈ xs, ∀ s cs W, J s W → RLbs S W x cs → Calls Tryz.prog g (#[cs.headD undef] ++ lb) W fun e w' => e = .returned (.bool (step s x).1) ∧ J (step s x).2 w') (s0 : σ) (h0 : J s0 w) :
  Calls Tryz.prog 95 #[v, .func (.func g) #[] lb] w fun e w' => e = .returned (.int .i64 (findS step s0 xs).1) ∧ J (findS step s0 xs).2 w' := by
 obtain ⟨A, c, rfl, hc, hc0⟩ := hx.val
 have HX := Lib.hid hx
 have HP := Lib.hid hp
 have HJ := Lib.hid hJ
 clear hx hp hJ
 go_enter Tryz.func95, Tryz.ntmps95
 go_wp2
 go_loopw [5, 8] (fun _ i wr => ∃ k : Nat, k ≤ xs.length ∧ i = .int .i64 k ∧ Hid (∃ s, J s wr ∧ findS step s0 xs = ((findS step s (xs.drop k)).1 + (if (findS step s (xs.drop k)).1 < 0 then 0 else (k : Int)), (findS step s (xs.drop k)).2))) (fun _ i _ => xs.length - (intOf i).toNat)
 case atStart => exact ⟨0, Nat.zero_le _, rfl, s0, h0, by simp⟩
 case round =>
  obtain ⟨k, hk, rfl, s, hs, hf⟩ := hrel
  by_cases hlt : k < xs.length
  ·obtain ⟨b, off, cs, rfl, hb, hS, hl, hr, hcell⟩ := ((RSl.good RLbs.good).move HX.out (HJ.out _ _ hs)).get k hlt
   have hcon := HP.out xs[k] (List.getElem_mem hlt) s cs wr hs hr
   obtain ⟨c0, rfl⟩ : ∃ c0, cs = [c0] := by
    match cs, hl with
    | [c0], _ => exact ⟨c0, rfl⟩
   have g0 := (by simpa using hcell.get 0 _ : wr.cell? ⟨b, off + k, none⟩ = some c0)
   rw [List.drop_eq_getElem_cons hlt, findS] at hf
   clear hcell hl hS hr
   cases hq : (step s xs[k]).1 with
   | true =>
    rw [hq] at hcon hf
    have Hf := Lib.hid hf
    clear hf
    go_wp2_with fail
    refine hcon.mono ?_
    rintro e w' ⟨rfl, hs'⟩
    go_wp2_with fail
    go_ret
    rw [Hf.out]
    exact ⟨by simp, hs'⟩
   | false =>
    rw [hq] at hcon hf
    have Hf := Lib.hid hf
    clear hf
    go_wp2_with fail
    refine hcon.mono ?_
    rintro e w' ⟨rfl, hs'⟩
    go_wp2_with fail
    go_roundw
    case rel =>
     refine ⟨k + 1, by omega, by go_num, _, hs', ?_⟩
     rw [Hf.out]
     exact findS_next _ _
    case measure => simp [intOf]; omega
  ·have hd : xs.drop k = [] := List.drop_of_length_le (by omega)
   rw [hd, findS] at hf
   have Hf := Lib.hid hf
   clear hf
   go_wp2
   go_ret
   rw [Hf.out]
   exact ⟨by simp, hs⟩

/-- slices.ContainsFunc at Lbs. -/
theorem conFLbs {σ : Type} (J : σ → World → Prop) (step : σ → List Lb → Bool × σ) (S : Nat → Prop) (w : World) (xs : List (List Lb)) (v : Value) (hx : RSl RLbs 1 S w xs [v]) (g : Nat) (lb : Array Value)
  (eg : ∀ args w, (callFunc g args).run Tryz.prog w = .ok (.enter g args) w) (hJ : ∀ s W, J s W → Kp S w W)
  (hp : ∀ x ∈ xs, ∀ s cs W, J s W → RLbs S W x cs → Calls Tryz.prog g (#[cs.headD undef] ++ lb) W fun e w' => e = .returned (.bool (step s x).1) ∧ J (step s x).2 w') (s0 : σ) (h0 : J s0 w) :
  Calls Tryz.prog 25 #[v, .func (.func g) #[] lb] w fun e w' => e = .returned (.bool (anyS step s0 xs).1) ∧ J (anyS step s0 xs).2 w' := by
 obtain ⟨A, c, rfl, hc, hc0⟩ := hx.val
 have hcon := idxFLbs J step S w xs _ hx g lb eg hJ hp s0 h0
 rw [anyS_find]
 clear hx hp hJ
 go_enter Tryz.func25, Tryz.ntmps25
 go_wp2_with fail
 refine hcon.mono ?_
 rintro e w' ⟨rfl, hs'⟩
 go_wp2_with fail
 all_goals go_ret
 all_goals exact ⟨by simp, hs'⟩

/-- The same, where the function tells p and only adds to memory. -/
theorem conPLbs (p : List Lb → Bool) (S : Nat → Prop) (w : World) (xs : List (List Lb)) (v : Value) (hx : RSl RLbs 1 S w xs [v]) (g : Nat) (lb : Array Value)
  (eg : ∀ args w, (callFunc g args).run Tryz.prog w = .ok (.enter g args) w)
  (hp : ∀ x ∈ xs, ∀ cs W, Ext w W → RLbs S W x cs → Calls Tryz.prog g (#[cs.headD undef] ++ lb) W fun e w' => e = .returned (.bool (p x)) ∧ Ext W w') :
  Calls Tryz.prog 25 #[v, .func (.func g) #[] lb] w fun e w' => e = .returned (.bool (xs.any p)) ∧ Ext w w' :=
 (conFLbs (fun (_ : Unit) W => Ext w W) (fun s x => (p x, s)) S w xs v hx g lb eg (fun _ _ h => Ext.kp h) (fun x hx s cs W hW hr => (hp x hx cs W hW hr).mono fun e w' ⟨he, hb⟩ => ⟨he, hW.trans' hb⟩) () (Ext.refl w)).mono
  fun e w' ⟨he, hb⟩ => ⟨by rw [he, anyS_pure], hb⟩
theorem idxPLbs (p : List Lb → Bool) (S : Nat → Prop) (w : World) (xs : List (List Lb)) (v : Value) (hx : RSl RLbs 1 S w xs [v]) (g : Nat) (lb : Array Value)
  (eg : ∀ args w, (callFunc g args).run Tryz.prog w = .ok (.enter g args) w)
  (hp : ∀ x ∈ xs, ∀ cs W, Ext w W → RLbs S W x cs → Calls Tryz.prog g (#[cs.headD undef] ++ lb) W fun e w' => e = .returned (.bool (p x)) ∧ Ext W w') :
  Calls Tryz.prog 95 #[v, .func (.func g) #[] lb] w fun e w' => e = .returned (.int .i64 (findI p xs)) ∧ Ext w w' :=
 (idxFLbs (fun (_ : Unit) W => Ext w W) (fun s x => (p x, s)) S w xs v hx g lb eg (fun _ _ h => Ext.kp h) (fun x hx s cs W hW hr => (hp x hx cs W hW hr).mono fun e w' ⟨he, hb⟩ => ⟨he, hW.trans' hb⟩) () (Ext.refl w)).mono
  fun e w' ⟨he, hb⟩ => ⟨by rw [he, findS_pure], hb⟩
end
end Go.Proofs.YtegenalcheooeaaGreat
