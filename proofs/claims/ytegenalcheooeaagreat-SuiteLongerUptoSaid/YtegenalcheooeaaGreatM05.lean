/- Of the proof of a law of the suites: Su2, LibCLb, LibILbs, Sets, Ord. -/
import Derived.Test.YtegenalcheooeaaGreatM01
import Derived.Test.YtegenalcheooeaaGreatM03
/- suite: binary search, within, common, subset. -/
set_option linter.unusedSectionVars false
set_option linter.unusedSimpArgs false
set_option linter.unusedVariables false
namespace Go.Proofs.YtegenalcheooeaaGreat
open Go.RowKit
attribute [local go_sem] cell?_exto

/-- The binary search: where p ends to hold, among i .. j. -/
def bsI (p : Nat → Bool) : Nat → Nat → Nat → Nat
  | 0, i, _ => i
  | f + 1, i, j => if i < j then (if p ((i + j) / 2) then bsI p f ((i + j) / 2 + 1) j else bsI p f i ((i + j) / 2)) else i
theorem bsI_fuel (p : Nat → Bool) : ∀ (f i j : Nat), j - i ≤ f → bsI p f i j = bsI p (j - i) i j
  | 0, i, j, h => by rw [show j - i = 0 from by omega]
  | f + 1, i, j, h => by
    by_cases hij : i < j
    · obtain ⟨m, hm⟩ : ∃ m, j - i = m + 1 := ⟨j - i - 1, by omega⟩
      rw [hm, bsI, bsI, if_pos hij, if_pos hij]
      split
      · rw [bsI_fuel p f _ _ (by omega), bsI_fuel p m _ _ (by omega)]
      · rw [bsI_fuel p f _ _ (by omega), bsI_fuel p m _ _ (by omega)]
    · rw [show j - i = 0 from by omega, bsI, bsI, if_neg hij]
theorem bsI_step (p : Nat → Bool) (i j : Nat) (h : i < j) : bsI p (j - i) i j = if p ((i + j) / 2) then bsI p (j - ((i + j) / 2 + 1)) ((i + j) / 2 + 1) j else bsI p ((i + j) / 2 - i) i ((i + j) / 2) := by
  obtain ⟨m, hm⟩ : ∃ m, j - i = m + 1 := ⟨j - i - 1, by omega⟩
  rw [hm, bsI, if_pos h]
  split
  · rw [bsI_fuel p m _ _ (by omega)]
  · rw [bsI_fuel p m _ _ (by omega)]
theorem bsI_le (p : Nat → Bool) : ∀ (f i j : Nat), i ≤ j → i ≤ bsI p f i j ∧ bsI p f i j ≤ j
  | 0, i, j, h => by rw [bsI]; omega
  | f + 1, i, j, h => by
    rw [bsI]
    split
    · split
      · have := bsI_le p f ((i + j) / 2 + 1) j (by omega); omega
      · have := bsI_le p f i ((i + j) / 2) (by omega); omega
    · omega
/-- slices.BinarySearchFunc of labels. -/
def bsP (l : List Lb) (x : Lb) (h : Nat) : Bool := match l[h]? with | some y => decide (cmpLb y x < 0) | none => false
def bsLb (l : List Lb) (x : Lb) : Nat := bsI (bsP l x) l.length 0 l.length
def isAt (l : List Lb) (x : Lb) (h : Nat) : Bool := match l[h]? with | some y => decide (cmpLb y x = 0) | none => false
def inLb (x : Lb) (l : List Lb) : Bool := isAt l x (bsLb l x)
theorem bsP_at {l : List Lb} {x : Lb} {h : Nat} (hh : h < l.length) : bsP l x h = decide (cmpLb l[h] x < 0) := by simp [bsP, List.getElem?_eq_getElem hh]
theorem isAt_at {l : List Lb} {x : Lb} {h : Nat} (hh : h < l.length) : isAt l x h = decide (cmpLb l[h] x = 0) := by simp [isAt, List.getElem?_eq_getElem hh]
theorem isAt_end {l : List Lb} {x : Lb} {h : Nat} (hh : ¬ h < l.length) : isAt l x h = false := by simp [isAt, List.getElem?_eq_none (Nat.le_of_not_lt hh)]

set_option maxHeartbeats 1000000 in
set_option maxRecDepth 100000 in
theorem bsearch_c (S : Nat → Prop) (l : List Lb) (x : Lb) (v : Value) (cx : List Value) (w : World) (hl : RLbs S w l [v]) (hx : RLb S w x cx) (hn : l.length ≤ 4611686018427387903) :
    Calls Tryz.prog 213 #[v, .agg cx.toArray, .func (.func 166) #[] #[]] w fun e w' => e = .returned (.tuple #[.int .i64 (bsLb l x : Nat), .bool (inLb x l)]) ∧ ExtD w w' := by
  obtain ⟨A, c, rfl, hc, hc0⟩ := hl.val
  obtain ⟨_, vx, rfl, hvx⟩ := id hx
  have HL := Lib.hid hl
  have HX := Lib.hid hx
  clear hl hx hvx
  go_enter Tryz.func213, Tryz.ntmps213
  go_wp2_with fail
  go_loopw [9, 10, 11] (fun vi vj _ wr => ∃ i j : Nat, i ≤ j ∧ j ≤ l.length ∧ vi = .int .i64 i ∧ vj = .int .i64 j ∧ ExtD w wr ∧ wr.cell? ⟨w.heap.size, 0, none⟩ = some (.int .i64 x.g) ∧ wr.cell? ⟨w.heap.size, 1, none⟩ = some vx ∧ Hid (bsLb l x = bsI (bsP l x) (j - i) i j)) (fun vi vj _ _ => ((intOf vj) - (intOf vi)).toNat)
  case atStart => exact ⟨0, l.length, Nat.zero_le _, Nat.le_refl _, rfl, rfl, (by repeat (first | exact ExtD.refl _ | apply ExtD.alloc | apply ExtD.drew | apply ExtD.drewN | refine ExtD.trans ?_ (by assumption))), by go_simp, by go_simp, rfl⟩
  case round =>
    obtain ⟨i, j, hij, hj, rfl, rfl, hE, q0, q1, hbs⟩ := hrel
    by_cases hlt : i < j
    · have hst0 := bsI_step (bsP l x) i j hlt
      obtain ⟨h, hh⟩ : ∃ h, (i + j) / 2 = h := ⟨_, rfl⟩
      have y1 : ((i : Int) + (j : Int)) / 2 = (h : Int) := by omega
      have hm : h < l.length := by omega
      have hm1 : i ≤ h := by omega
      have hm2 : h < j := by omega
      rw [hh] at hst0
      clear hh
      obtain ⟨b, off, cs, rfl, hb, hs, hl, hr, hcell⟩ := (RLbs.good.ext HL.out hE).get (h) hm
      obtain ⟨_, v1, rfl, hv1⟩ := id hr
      have g0 := hcell.get 0 _
      have g1 := hcell.get 1 _
      simp only [Nat.add_zero] at g0
      have hcmp := fun W (hW : ExtD wr W) => compare_c S _ _ _ _ W (RLb.good.ext hr hW) (RLb.good.ext HX.out (hE.trans hW))
      have z1 : (0 : Int) ≤ (h : Int) := by omega
      have z2 : (h : Int) < (l.length : Int) := by omega
      have hst := Lib.hid hst0
      clear hst0
      clear hcell hl hs hv1 hr
      by_cases hc2 : cmpLb l[h] x < 0
      · have HC := Lib.hid (show bsP l x (h) = true from by rw [bsP_at hm]; exact decide_eq_true hc2)
        go_wp2_with fail
        go_region_held3 (fun W => W.cell? ⟨b, off + h * 2, none⟩ = some (.int .i64 l[h].g) ∧ W.cell? ⟨b, off + h * 2 + 1, none⟩ = some v1 ∧ W.cell? ⟨w.heap.size, 0, none⟩ = some (.int .i64 x.g) ∧ W.cell? ⟨w.heap.size, 1, none⟩ = some vx)
          (first | (refine ⟨?_, ?_, ?_, ?_⟩ <;> go_simp <;> done) | exact hx1.k4 (by assumption) | exact ((ExtD.refl _).alloc _).k4 (by assumption))
          (first | (go_at_call 166; refine (hcmp _ (by repeat (first | exact ExtD.refl _ | apply ExtD.alloc | apply ExtD.drew | apply ExtD.drewN | refine ExtD.trans ?_ (by assumption)))).mono ?_; rintro e w1 ⟨rfl, hx1⟩))
        clear y1
        go_wp2_with fail
        go_roundw
        case rel =>
          refine ⟨h + 1, j, by omega, hj, by go_num, rfl, (by repeat (first | exact ExtD.refl _ | apply ExtD.alloc | apply ExtD.drew | apply ExtD.drewN | refine ExtD.trans ?_ (by assumption))), hx1.keep q0, hx1.keep q1, ?_⟩
          rw [hbs.out, hst.out, if_pos HC.out]
          exact rfl
        case measure => simp [intOf]; omega
      · have HC := Lib.hid (show bsP l x (h) = false from by rw [bsP_at hm]; exact decide_eq_false hc2)
        have hd : 0 ≤ cmpLb l[h] x := by omega
        clear hc2
        go_wp2_with fail
        go_region_held3 (fun W => W.cell? ⟨b, off + h * 2, none⟩ = some (.int .i64 l[h].g) ∧ W.cell? ⟨b, off + h * 2 + 1, none⟩ = some v1 ∧ W.cell? ⟨w.heap.size, 0, none⟩ = some (.int .i64 x.g) ∧ W.cell? ⟨w.heap.size, 1, none⟩ = some vx)
          (first | (refine ⟨?_, ?_, ?_, ?_⟩ <;> go_simp <;> done) | exact hx1.k4 (by assumption) | exact ((ExtD.refl _).alloc _).k4 (by assumption))
          (first | (go_at_call 166; refine (hcmp _ (by repeat (first | exact ExtD.refl _ | apply ExtD.alloc | apply ExtD.drew | apply ExtD.drewN | refine ExtD.trans ?_ (by assumption)))).mono ?_; rintro e w1 ⟨rfl, hx1⟩))
        clear y1
        go_wp2_with fail
        go_roundw
        case rel =>
          refine ⟨i, h, by omega, by omega, rfl, rfl, (by repeat (first | exact ExtD.refl _ | apply ExtD.alloc | apply ExtD.drew | apply ExtD.drewN | refine ExtD.trans ?_ (by assumption))), hx1.keep q0, hx1.keep q1, ?_⟩
          rw [hbs.out, hst.out, if_neg (by rw [HC.out]; decide)]
          exact rfl
        case measure => simp [intOf]; omega
    · obtain rfl : i = j := by omega
      have hi : bsLb l x = i := by rw [hbs.out, show i - i = 0 from by omega, bsI]
      by_cases hm : i < l.length
      · have HV := Lib.hid (show inLb x l = decide (cmpLb l[i] x = 0) from by rw [inLb, hi, isAt_at hm])
        have HI := Lib.hid hi
        clear hi hlt
        obtain ⟨b, off, cs, rfl, hb, hs, hl, hr, hcell⟩ := (RLbs.good.ext HL.out hE).get i hm
        obtain ⟨_, v1, rfl, hv1⟩ := id hr
        have g0 := hcell.get 0 _
        have g1 := hcell.get 1 _
        simp only [Nat.add_zero] at g0
        have hcmp := fun W (hW : ExtD wr W) => compare_c S _ _ _ _ W (RLb.good.ext hr hW) (RLb.good.ext HX.out (hE.trans hW))
        have z1 : (0 : Int) ≤ (i : Int) := by omega
        have z2 : (i : Int) < (l.length : Int) := by omega
        have z3 : decide ((i : Int) < (l.length : Int)) = true := decide_eq_true z2
        clear hcell hl hs hv1 hr
        go_wp2_with fail
        go_region_held3 (fun W => W.cell? ⟨b, off + i * 2, none⟩ = some (.int .i64 l[i].g) ∧ W.cell? ⟨b, off + i * 2 + 1, none⟩ = some v1 ∧ W.cell? ⟨w.heap.size, 0, none⟩ = some (.int .i64 x.g) ∧ W.cell? ⟨w.heap.size, 1, none⟩ = some vx)
          (first | (refine ⟨?_, ?_, ?_, ?_⟩ <;> go_simp <;> done) | exact hx1.k4 (by assumption) | exact ((ExtD.refl _).alloc _).k4 (by assumption))
          (first | (go_at_call 166; refine (hcmp _ (by repeat (first | exact ExtD.refl _ | apply ExtD.alloc | apply ExtD.drew | apply ExtD.drewN | refine ExtD.trans ?_ (by assumption)))).mono ?_; rintro e w1 ⟨rfl, hx1⟩))
        go_wp2_with fail
        go_ret2
        exact ⟨by rw [HV.out, HI.out]; rfl, (by repeat (first | exact ExtD.refl _ | apply ExtD.alloc | apply ExtD.drew | apply ExtD.drewN | refine ExtD.trans ?_ (by assumption)))⟩
      · have HV := Lib.hid (show inLb x l = false from by rw [inLb, hi, isAt_end hm])
        have HI := Lib.hid hi
        have z3 : decide ((i : Int) < (l.length : Int)) = false := decide_eq_false (by omega)
        clear hi hlt
        go_wp2_with fail
        go_quiet (fail)
        go_wp2_with fail
        go_ret2
        exact ⟨by rw [HV.out, HI.out]; rfl, (by repeat (first | exact ExtD.refl _ | apply ExtD.alloc | apply ExtD.drew | apply ExtD.drewN | refine ExtD.trans ?_ (by assumption)))⟩

set_option maxHeartbeats 1000000 in
set_option maxRecDepth 100000 in
theorem within_c (S : Nat → Prop) (l : List Lb) (x : Lb) (v : Value) (cx : List Value) (w : World) (hl : RLbs S w l [v]) (hx : RLb S w x cx) (hn : l.length ≤ 4611686018427387903) :
    Calls Tryz.prog 212 #[.agg cx.toArray, v] w fun e w' => e = .returned (.bool (inLb x l)) ∧ ExtD w w' := by
  have hcon := fun W (hW : ExtD w W) => bsearch_c S l x v cx W (RLbs.good.ext hl hW) (RLb.good.ext hx hW) hn
  obtain ⟨A, c, rfl, hc, hc0⟩ := hl.val
  obtain ⟨_, vx, rfl, hvx⟩ := id hx
  clear hl hx hvx
  go_enter Tryz.func212, Tryz.ntmps212
  go_wp2_with fail
  refine (hcon _ (by repeat (first | exact ExtD.refl _ | apply ExtD.alloc | apply ExtD.drew | apply ExtD.drewN | refine ExtD.trans ?_ (by assumption)))).mono ?_
  rintro e w1 ⟨rfl, h1⟩
  go_wp2_with fail
  go_ret
  exact ⟨rfl, (by repeat (first | exact ExtD.refl _ | apply ExtD.alloc | apply ExtD.drew | apply ExtD.drewN | refine ExtD.trans ?_ (by assumption)))⟩

/-- suite.common: some label of a is in b. -/
def comB (a b : List Lb) : Bool := a.any fun x => inLb x b
theorem eg211 : ∀ args w, (callFunc 211 args).run Tryz.prog w = .ok (.enter 211 args) w := enters_of Tryz.func211 (by kernel_rfl) rfl
set_option maxHeartbeats 1000000 in
set_option maxRecDepth 100000 in
theorem common1_c (S : Nat → Prop) (l : List Lb) (x : Lb) (v : Value) (B : Nat) (cx : List Value) (w : World) (hl : RLbs S w l [v]) (hx : RLb S w x cx) (hn : l.length ≤ 4611686018427387903) (hB : w.cell? ⟨B, 0, none⟩ = some v) :
    Calls Tryz.prog 211 #[.agg cx.toArray, .pointer (some ⟨B, 0, none⟩)] w fun e w' => e = .returned (.bool (inLb x l)) ∧ Ext w w' := by
  have hcon := fun W (hW : ExtD w W) => within_c S l x v cx W (RLbs.good.ext hl hW) (RLb.good.ext hx hW) hn
  obtain ⟨A, c, rfl, hc, hc0⟩ := hl.val
  obtain ⟨_, vx, rfl, hvx⟩ := id hx
  have hB0 := World.block_lt_of_cell? w _ hB
  clear hl hx hvx
  go_enter Tryz.func211, Tryz.ntmps211
  go_wp2_with fail
  refine (hcon _ (by repeat (first | exact ExtD.refl _ | apply ExtD.alloc | apply ExtD.drew | apply ExtD.drewN | refine ExtD.trans ?_ (by assumption)))).mono ?_
  rintro e w1 ⟨rfl, h1⟩
  go_wp2_with fail
  go_ret
  exact ⟨rfl, (by repeat (first | exact Ext.refl _ | apply Ext.alloc | apply Below.drew | apply Ext.drewN | refine Ext.trans' ?_ (by assumption) | refine Ext.trans' ?_ (ExtD.ext (by assumption))))⟩
set_option maxHeartbeats 1000000 in
set_option maxRecDepth 100000 in
theorem common_c (S : Nat → Prop) (a b : List Lb) (va vb : Value) (w : World) (ha : RLbs S w a [va]) (hb : RLbs S w b [vb]) (hn : b.length ≤ 4611686018427387903) :
    Calls Tryz.prog 146 #[va, vb] w fun e w' => e = .returned (.bool (comB a b)) ∧ Ext w w' := by
  have hcon := fun B W (hW : Ext w W) (hB : W.cell? ⟨B, 0, none⟩ = some vb) => conPLb (fun x => inLb x b) S W a va (RLbs.good.bel ha hW) 211 #[.pointer (some ⟨B, 0, none⟩)] eg211
    (fun x hx cs W' hW' hr => common1_c S b x vb B cs W' (RLbs.good.bel hb (hW.trans' hW')) hr hn ((hW'.cell (World.block_lt_of_cell? W _ hB)).trans hB))
  obtain ⟨A, c, rfl, hc, hc0⟩ := ha.val
  obtain ⟨A', c', rfl, hc', hc0'⟩ := hb.val
  clear ha hb
  go_enter Tryz.func146, Tryz.ntmps146
  go_wp2_with fail
  refine (hcon _ _ (by repeat (first | exact Ext.refl _ | apply Ext.alloc | apply Below.drew | apply Ext.drewN | refine Ext.trans' ?_ (by assumption) | refine Ext.trans' ?_ (ExtD.ext (by assumption)))) (by go_simp)).mono ?_
  rintro e w1 ⟨rfl, h1⟩
  go_wp2_with fail
  go_ret
  exact ⟨rfl, (by repeat (first | exact Ext.refl _ | apply Ext.alloc | apply Below.drew | apply Ext.drewN | refine Ext.trans' ?_ (by assumption) | refine Ext.trans' ?_ (ExtD.ext (by assumption))))⟩
end Go.Proofs.YtegenalcheooeaaGreat

/- slices.CompareFunc and EqualFunc at the program's element types. -/
set_option linter.unusedSectionVars false
set_option linter.unusedSimpArgs false
set_option linter.unusedVariables false
namespace Go.Proofs.YtegenalcheooeaaGreat
open Go.RowKit
attribute [local go_sem] cell?_exto

set_option maxHeartbeats 1000000 in
set_option maxRecDepth 100000 in
/-- slices.CompareFunc at Lb. -/
theorem cmpFLb (cf : Lb → Lb → Int) (S : Nat → Prop) (w : World) (xs ys : List (Lb)) (v u : Value) (hx : RSl RLb 2 S w xs [v]) (hy : RSl RLb 2 S w ys [u]) (g : Nat) (lb : Array Value)
    (eg : ∀ args w, (callFunc g args).run Tryz.prog w = .ok (.enter g args) w)
    (hp : ∀ x ∈ xs, ∀ y ∈ ys, ∀ cs cs2 W, ExtD w W → RLb S W x cs → RLb S W y cs2 → Calls Tryz.prog g (#[.agg cs.toArray, .agg cs2.toArray] ++ lb) W fun e w' => e = .returned (.int .i64 (cf x y)) ∧ ExtD W w') :
    Calls Tryz.prog 210 #[v, u, .func (.func g) #[] lb] w fun e w' => e = .returned (.int .i64 (lcmp cf xs ys)) ∧ ExtD w w' := by
  obtain ⟨A, c, rfl, hc, hc0⟩ := hx.val
  obtain ⟨A', c', rfl, hc', hc0'⟩ := hy.val
  have HX := Lib.hid hx
  have HY := Lib.hid hy
  have HP := Lib.hid hp
  clear hx hy hp
  go_enter Tryz.func210, Tryz.ntmps210
  go_wp2_with fail
  go_loopw [7, 8, 9, 10, 13] (fun _ _ _ _ i wr => ∃ k : Nat, k ≤ xs.length ∧ k ≤ ys.length ∧ i = .int .i64 k ∧ ExtD w wr ∧ Hid (lcmp cf xs ys = lcmp cf (xs.drop k) (ys.drop k))) (fun _ _ _ _ i _ => xs.length - (intOf i).toNat)
  case atStart => exact ⟨0, Nat.zero_le _, Nat.zero_le _, rfl, ExtD.refl _, rfl⟩
  case round =>
    obtain ⟨k, hk, hk2, rfl, hE, hf⟩ := hrel
    by_cases hlt : k < xs.length
    · obtain ⟨b, off, cs, rfl, hb, hS, hl, hr, hcell⟩ := ((RSl.good RLb.good).ext HX.out hE).get k hlt
      by_cases hlt2 : k < ys.length
      · obtain ⟨b2, off2, cs2, rfl, hb2, hS2, hl2, hr2, hcell2⟩ := ((RSl.good RLb.good).ext HY.out hE).get k hlt2
        have hcon := fun W (hW : ExtD wr W) => HP.out xs[k] (List.getElem_mem hlt) ys[k] (List.getElem_mem hlt2) cs cs2 W (hE.trans hW) (RLb.good.ext hr hW) (RLb.good.ext hr2 hW)
        obtain ⟨c0, c1, rfl⟩ : ∃ c0 c1, cs = [c0, c1] := by
          match cs, hl with
          | [c0, c1], _ => exact ⟨c0, c1, rfl⟩
        have g0 := (by simpa using hcell.get 0 _ : wr.cell? ⟨b, off + k * 2, none⟩ = some c0)
        have g1 := hcell.get 1 _
        obtain ⟨d0, d1, rfl⟩ : ∃ d0 d1, cs2 = [d0, d1] := by
          match cs2, hl2 with
          | [d0, d1], _ => exact ⟨d0, d1, rfl⟩
        have q0 := (by simpa using hcell2.get 0 _ : wr.cell? ⟨b2, off2 + k * 2, none⟩ = some d0)
        have q1 := hcell2.get 1 _
        have s0 := fun (W : World) (a : Addr) (m : Mode) => run_store Tryz.prog W a c0 m (RLb.good.one hr c0 (by simp))
        have s1 := fun (W : World) (a : Addr) (m : Mode) => run_store Tryz.prog W a c1 m (RLb.good.one hr c1 (by simp))
        have t0 := fun (W : World) (a : Addr) (m : Mode) => run_store Tryz.prog W a d0 m (RLb.good.one hr2 d0 (by simp))
        have t1 := fun (W : World) (a : Addr) (m : Mode) => run_store Tryz.prog W a d1 m (RLb.good.one hr2 d1 (by simp))
        rw [List.drop_eq_getElem_cons hlt, List.drop_eq_getElem_cons hlt2, lcmp] at hf
        clear hcell hcell2 hl hl2 hS hS2 hr hr2
        by_cases hq : cf xs[k] ys[k] = 0
        · rw [if_pos hq] at hf
          have Hf := Lib.hid hf
          have hq1 : (cf xs[k] ys[k] != 0) = false := by rw [hq]; rfl
          rw [hq] at hcon
          clear hf hq1 hq
          go_wp2_with fail
          refine (hcon _ (by repeat (first | exact ExtD.refl _ | apply ExtD.alloc | apply ExtD.drew | apply ExtD.drewN | refine ExtD.trans ?_ (by assumption)))).mono ?_
          rintro e w1 ⟨rfl, h1⟩
          go_wp2_with fail
          go_roundw
          case rel => exact ⟨k + 1, by omega, by omega, by go_num, (by repeat (first | exact ExtD.refl _ | apply ExtD.alloc | apply ExtD.drew | apply ExtD.drewN | refine ExtD.trans ?_ (by assumption))), Hf.out⟩
          case measure => simp [intOf]; omega
        · rw [if_neg hq] at hf
          have Hf := Lib.hid hf
          have hq1 : (cf xs[k] ys[k] != 0) = true := bne_iff_ne.2 hq
          clear hf hq
          go_wp2_with fail
          refine (hcon _ (by repeat (first | exact ExtD.refl _ | apply ExtD.alloc | apply ExtD.drew | apply ExtD.drewN | refine ExtD.trans ?_ (by assumption)))).mono ?_
          rintro e w1 ⟨rfl, h1⟩
          go_wp2_with fail
          go_ret
          exact ⟨by rw [Hf.out]; rfl, (by repeat (first | exact ExtD.refl _ | apply ExtD.alloc | apply ExtD.drew | apply ExtD.drewN | refine ExtD.trans ?_ (by assumption)))⟩
      · rw [List.drop_of_length_le (l := ys) (by omega), List.drop_eq_getElem_cons hlt, lcmp] at hf
        have Hf := Lib.hid hf
        obtain ⟨c0, c1, rfl⟩ : ∃ c0 c1, cs = [c0, c1] := by
          match cs, hl with
          | [c0, c1], _ => exact ⟨c0, c1, rfl⟩
        have g0 := (by simpa using hcell.get 0 _ : wr.cell? ⟨b, off + k * 2, none⟩ = some c0)
        have g1 := hcell.get 1 _
        have s0 := fun (W : World) (a : Addr) (m : Mode) => run_store Tryz.prog W a c0 m (RLb.good.one hr c0 (by simp))
        have s1 := fun (W : World) (a : Addr) (m : Mode) => run_store Tryz.prog W a c1 m (RLb.good.one hr c1 (by simp))
        clear hf hcell
        go_wp2_with fail
        go_ret
        exact ⟨by rw [Hf.out]; rfl, (by repeat (first | exact ExtD.refl _ | apply ExtD.alloc | apply ExtD.drew | apply ExtD.drewN | refine ExtD.trans ?_ (by assumption)))⟩
    · rw [List.drop_of_length_le (l := xs) (by omega)] at hf
      by_cases hlt2 : k < ys.length
      · rw [List.drop_eq_getElem_cons hlt2, lcmp] at hf
        have Hf := Lib.hid hf
        clear hf
        go_wp2_with fail
        go_ret
        exact ⟨by rw [Hf.out]; rfl, hE⟩
      · rw [List.drop_of_length_le (by omega), lcmp] at hf
        have Hf := Lib.hid hf
        clear hf
        go_wp2_with fail
        go_ret
        exact ⟨by rw [Hf.out]; rfl, hE⟩
end Go.Proofs.YtegenalcheooeaaGreat

/- slices.IndexFunc and ContainsFunc at each element type of the program: what they come to, whatever function value they are given. -/
set_option linter.unusedSectionVars false
set_option linter.unusedSimpArgs false
set_option linter.unusedVariables false
namespace Go.Proofs.YtegenalcheooeaaGreat
open Go.RowKit
attribute [local go_sem] cell?_exto

set_option maxHeartbeats 1000000 in
set_option maxRecDepth 100000 in
/-- slices.IndexFunc at Lbs: the function may keep a state s, told by J. -/
theorem idxFLbs {σ : Type} (J : σ → World → Prop) (step : σ → List Lb → Bool × σ) (S : Nat → Prop) (w : World) (xs : List (List Lb)) (v : Value) (hx : RSl RLbs 1 S w xs [v]) (g : Nat) (lb : Array Value)
    (eg : ∀ args w, (callFunc g args).run Tryz.prog w = .ok (.enter g args) w) (hJ : ∀ s W, J s W → Kp S w W)
    (hp : ∀ x ∈ xs, ∀ s cs W, J s W → RLbs S W x cs → Calls Tryz.prog g (#[cs.headD undef] ++ lb) W fun e w' => e = .returned (.bool (step s x).1) ∧ J (step s x).2 w') (s0 : σ) (h0 : J s0 w) :
    Calls Tryz.prog 95 #[v, .func (.func g) #[] lb] w fun e w' => e = .returned (.int .i64 (findS step s0 xs).1) ∧ J (findS step s0 xs).2 w' := by
  obtain ⟨A, c, rfl, hc, hc0⟩ := hx.val
  have HX := Lib.hid hx
  have HP := Lib.hid hp
  have HJ := Lib.hid hJ
  clear hx hp hJ
  go_enter Tryz.func95, Tryz.ntmps95
  go_wp2
  go_loopw [5, 8] (fun _ i wr => ∃ k : Nat, k ≤ xs.length ∧ i = .int .i64 k ∧ Hid (∃ s, J s wr ∧ findS step s0 xs = ((findS step s (xs.drop k)).1 + (if (findS step s (xs.drop k)).1 < 0 then 0 else (k : Int)), (findS step s (xs.drop k)).2))) (fun _ i _ => xs.length - (intOf i).toNat)
  case atStart => exact ⟨0, Nat.zero_le _, rfl, s0, h0, by simp⟩
  case round =>
    obtain ⟨k, hk, rfl, s, hs, hf⟩ := hrel
    by_cases hlt : k < xs.length
    · obtain ⟨b, off, cs, rfl, hb, hS, hl, hr, hcell⟩ := ((RSl.good RLbs.good).move HX.out (HJ.out _ _ hs)).get k hlt
      have hcon := HP.out xs[k] (List.getElem_mem hlt) s cs wr hs hr
      obtain ⟨c0, rfl⟩ : ∃ c0, cs = [c0] := by
        match cs, hl with
        | [c0], _ => exact ⟨c0, rfl⟩
      have g0 := (by simpa using hcell.get 0 _ : wr.cell? ⟨b, off + k, none⟩ = some c0)
      rw [List.drop_eq_getElem_cons hlt, findS] at hf
      clear hcell hl hS hr
      cases hq : (step s xs[k]).1 with
      | true =>
        rw [hq] at hcon hf
        have Hf := Lib.hid hf
        clear hf
        go_wp2_with fail
        refine hcon.mono ?_
        rintro e w' ⟨rfl, hs'⟩
        go_wp2_with fail
        go_ret
        rw [Hf.out]
        exact ⟨by simp, hs'⟩
      | false =>
        rw [hq] at hcon hf
        have Hf := Lib.hid hf
        clear hf
        go_wp2_with fail
        refine hcon.mono ?_
        rintro e w' ⟨rfl, hs'⟩
        go_wp2_with fail
        go_roundw
        case rel =>
          refine ⟨k + 1, by omega, by go_num, _, hs', ?_⟩
          rw [Hf.out]
          exact findS_next _ _
        case measure => simp [intOf]; omega
    · have hd : xs.drop k = [] := List.drop_of_length_le (by omega)
      rw [hd, findS] at hf
      have Hf := Lib.hid hf
      clear hf
      go_wp2
      go_ret
      rw [Hf.out]
      exact ⟨by simp, hs⟩

set_option maxHeartbeats 1000000 in
set_option maxRecDepth 100000 in
/-- slices.ContainsFunc at Lbs. -/
theorem conFLbs {σ : Type} (J : σ → World → Prop) (step : σ → List Lb → Bool × σ) (S : Nat → Prop) (w : World) (xs : List (List Lb)) (v : Value) (hx : RSl RLbs 1 S w xs [v]) (g : Nat) (lb : Array Value)
    (eg : ∀ args w, (callFunc g args).run Tryz.prog w = .ok (.enter g args) w) (hJ : ∀ s W, J s W → Kp S w W)
    (hp : ∀ x ∈ xs, ∀ s cs W, J s W → RLbs S W x cs → Calls Tryz.prog g (#[cs.headD undef] ++ lb) W fun e w' => e = .returned (.bool (step s x).1) ∧ J (step s x).2 w') (s0 : σ) (h0 : J s0 w) :
    Calls Tryz.prog 25 #[v, .func (.func g) #[] lb] w fun e w' => e = .returned (.bool (anyS step s0 xs).1) ∧ J (anyS step s0 xs).2 w' := by
  obtain ⟨A, c, rfl, hc, hc0⟩ := hx.val
  have hcon := idxFLbs J step S w xs _ hx g lb eg hJ hp s0 h0
  rw [anyS_find]
  clear hx hp hJ
  go_enter Tryz.func25, Tryz.ntmps25
  go_wp2_with fail
  refine hcon.mono ?_
  rintro e w' ⟨rfl, hs'⟩
  go_wp2_with fail
  all_goals go_ret
  all_goals exact ⟨by simp, hs'⟩

/-- The same, where the function tells p and only adds to memory. -/
theorem conPLbs (p : List Lb → Bool) (S : Nat → Prop) (w : World) (xs : List (List Lb)) (v : Value) (hx : RSl RLbs 1 S w xs [v]) (g : Nat) (lb : Array Value)
    (eg : ∀ args w, (callFunc g args).run Tryz.prog w = .ok (.enter g args) w)
    (hp : ∀ x ∈ xs, ∀ cs W, Ext w W → RLbs S W x cs → Calls Tryz.prog g (#[cs.headD undef] ++ lb) W fun e w' => e = .returned (.bool (p x)) ∧ Ext W w') :
    Calls Tryz.prog 25 #[v, .func (.func g) #[] lb] w fun e w' => e = .returned (.bool (xs.any p)) ∧ Ext w w' :=
  (conFLbs (fun (_ : Unit) W => Ext w W) (fun s x => (p x, s)) S w xs v hx g lb eg (fun _ _ h => Ext.kp h) (fun x hx s cs W hW hr => (hp x hx cs W hW hr).mono fun e w' ⟨he, hb⟩ => ⟨he, hW.trans' hb⟩) () (Ext.refl w)).mono
    fun e w' ⟨he, hb⟩ => ⟨by rw [he, anyS_pure], hb⟩
theorem idxPLbs (p : List Lb → Bool) (S : Nat → Prop) (w : World) (xs : List (List Lb)) (v : Value) (hx : RSl RLbs 1 S w xs [v]) (g : Nat) (lb : Array Value)
    (eg : ∀ args w, (callFunc g args).run Tryz.prog w = .ok (.enter g args) w)
    (hp : ∀ x ∈ xs, ∀ cs W, Ext w W → RLbs S W x cs → Calls Tryz.prog g (#[cs.headD undef] ++ lb) W fun e w' => e = .returned (.bool (p x)) ∧ Ext W w') :
    Calls Tryz.prog 95 #[v, .func (.func g) #[] lb] w fun e w' => e = .returned (.int .i64 (findI p xs)) ∧ Ext w w' :=
  (idxFLbs (fun (_ : Unit) W => Ext w W) (fun s x => (p x, s)) S w xs v hx g lb eg (fun _ _ h => Ext.kp h) (fun x hx s cs W hW hr => (hp x hx cs W hW hr).mono fun e w' ⟨he, hb⟩ => ⟨he, hW.trans' hb⟩) () (Ext.refl w)).mono
    fun e w' ⟨he, hb⟩ => ⟨by rw [he, findS_pure], hb⟩
end Go.Proofs.YtegenalcheooeaaGreat

/- suite.subset, sets, same, and the closures of least: walked. -/
set_option linter.unusedSectionVars false
set_option linter.unusedSimpArgs false
set_option linter.unusedVariables false
namespace Go.Proofs.YtegenalcheooeaaGreat
open Go.RowKit
attribute [local go_sem] cell?_exto

/-- suite.subset -/
def subB (a b : List Lb) : Bool := !(a.any fun x => !inLb x b)
theorem eg261 : ∀ args w, (callFunc 261 args).run Tryz.prog w = .ok (.enter 261 args) w := enters_of Tryz.func261 (by kernel_rfl) rfl
set_option maxHeartbeats 1000000 in
set_option maxRecDepth 100000 in
theorem subset1_c (S : Nat → Prop) (l : List Lb) (x : Lb) (v : Value) (B : Nat) (cx : List Value) (w : World) (hl : RLbs S w l [v]) (hx : RLb S w x cx) (hn : l.length ≤ 4611686018427387903) (hB : w.cell? ⟨B, 0, none⟩ = some v) :
    Calls Tryz.prog 261 #[.agg cx.toArray, .pointer (some ⟨B, 0, none⟩)] w fun e w' => e = .returned (.bool (!inLb x l)) ∧ Ext w w' := by
  have hcon := fun W (hW : ExtD w W) => within_c S l x v cx W (RLbs.good.ext hl hW) (RLb.good.ext hx hW) hn
  obtain ⟨A, c, rfl, hc, hc0⟩ := hl.val
  obtain ⟨_, vx, rfl, hvx⟩ := id hx
  have hB0 := World.block_lt_of_cell? w _ hB
  clear hl hx hvx
  go_enter Tryz.func261, Tryz.ntmps261
  go_wp2_with fail
  refine (hcon _ (by repeat (first | exact ExtD.refl _ | apply ExtD.alloc | apply ExtD.drew | apply ExtD.drewN | refine ExtD.trans ?_ (by assumption)))).mono ?_
  rintro e w1 ⟨rfl, h1⟩
  go_wp2_with fail
  go_ret
  exact ⟨rfl, (by repeat (first | exact Ext.refl _ | apply Ext.alloc | apply Below.drew | apply Ext.drewN | refine Ext.trans' ?_ (by assumption) | refine Ext.trans' ?_ (ExtD.ext (by assumption))))⟩
set_option maxHeartbeats 1000000 in
set_option maxRecDepth 100000 in
theorem subset_c (S : Nat → Prop) (a b : List Lb) (va vb : Value) (w : World) (ha : RLbs S w a [va]) (hb : RLbs S w b [vb]) (hn : b.length ≤ 4611686018427387903) :
    Calls Tryz.prog 219 #[va, vb] w fun e w' => e = .returned (.bool (subB a b)) ∧ Ext w w' := by
  have hcon := fun B W (hW : Ext w W) (hB : W.cell? ⟨B, 0, none⟩ = some vb) => conPLb (fun x => !inLb x b) S W a va (RLbs.good.bel ha hW) 261 #[.pointer (some ⟨B, 0, none⟩)] eg261
    (fun x hx cs W' hW' hr => subset1_c S b x vb B cs W' (RLbs.good.bel hb (hW.trans' hW')) hr hn ((hW'.cell (World.block_lt_of_cell? W _ hB)).trans hB))
  obtain ⟨A, c, rfl, hc, hc0⟩ := ha.val
  obtain ⟨A', c', rfl, hc', hc0'⟩ := hb.val
  clear ha hb
  go_enter Tryz.func219, Tryz.ntmps219
  go_wp2_with fail
  refine (hcon _ _ (by repeat (first | exact Ext.refl _ | apply Ext.alloc | apply Below.drew | apply Ext.drewN | refine Ext.trans' ?_ (by assumption) | refine Ext.trans' ?_ (ExtD.ext (by assumption)))) (by go_simp)).mono ?_
  rintro e w1 ⟨rfl, h1⟩
  go_wp2_with fail
  go_ret
  exact ⟨rfl, (by repeat (first | exact Ext.refl _ | apply Ext.alloc | apply Below.drew | apply Ext.drewN | refine Ext.trans' ?_ (by assumption) | refine Ext.trans' ?_ (ExtD.ext (by assumption))))⟩

/-- suite.sets -/
def cmpSets (a b : List Lb) : Int := lcmp cmpLb a b
theorem eg166 : ∀ args w, (callFunc 166 args).run Tryz.prog w = .ok (.enter 166 args) w := enters_of Tryz.func166 (by kernel_rfl) rfl
set_option maxHeartbeats 1000000 in
set_option maxRecDepth 100000 in
theorem sets_c (S : Nat → Prop) (a b : List Lb) (va vb : Value) (w : World) (ha : RLbs S w a [va]) (hb : RLbs S w b [vb]) :
    Calls Tryz.prog 143 #[va, vb] w fun e w' => e = .returned (.int .i64 (cmpSets a b)) ∧ ExtD w w' := by
  have hcon := fun W (hW : ExtD w W) => cmpFLb cmpLb S W a b va vb (RLbs.good.ext ha hW) (RLbs.good.ext hb hW) 166 #[] eg166
    (fun x hx y hy cs cs2 W' hW' hr hr2 => compare_c S x y cs cs2 W' hr hr2)
  obtain ⟨A, c, rfl, hc, hc0⟩ := ha.val
  obtain ⟨A', c', rfl, hc', hc0'⟩ := hb.val
  clear ha hb
  go_enter Tryz.func143, Tryz.ntmps143
  go_wp2_with fail
  refine (hcon _ (by repeat (first | exact ExtD.refl _ | apply ExtD.alloc | apply ExtD.drew | apply ExtD.drewN | refine ExtD.trans ?_ (by assumption)))).mono ?_
  rintro e w1 ⟨rfl, h1⟩
  go_wp2_with fail
  go_ret
  exact ⟨rfl, (by repeat (first | exact ExtD.refl _ | apply ExtD.alloc | apply ExtD.drew | apply ExtD.drewN | refine ExtD.trans ?_ (by assumption)))⟩
set_option maxHeartbeats 1000000 in
set_option maxRecDepth 100000 in
theorem same_c (S : Nat → Prop) (a b : List Lb) (va vb : Value) (w : World) (ha : RLbs S w a [va]) (hb : RLbs S w b [vb]) :
    Calls Tryz.prog 145 #[va, vb] w fun e w' => e = .returned (.bool (decide (cmpSets a b = 0))) ∧ ExtD w w' := by
  have hcon := fun W (hW : ExtD w W) => sets_c S a b va vb W (RLbs.good.ext ha hW) (RLbs.good.ext hb hW)
  obtain ⟨A, c, rfl, hc, hc0⟩ := ha.val
  obtain ⟨A', c', rfl, hc', hc0'⟩ := hb.val
  clear ha hb
  generalize cmpSets a b = i at hcon ⊢
  go_enter Tryz.func145, Tryz.ntmps145
  go_wp2_with fail
  refine (hcon _ (by repeat (first | exact ExtD.refl _ | apply ExtD.alloc | apply ExtD.drew | apply ExtD.drewN | refine ExtD.trans ?_ (by assumption)))).mono ?_
  rintro e w1 ⟨rfl, h1⟩
  go_wp2_with fail
  go_ret
  exact ⟨rfl, (by repeat (first | exact ExtD.refl _ | apply ExtD.alloc | apply ExtD.drew | apply ExtD.drewN | refine ExtD.trans ?_ (by assumption)))⟩

/-! ### least's closures -/
def smaller (a b : List Lb) : Bool := decide (b.length < a.length) && subB b a
theorem eg218 : ∀ args w, (callFunc 218 args).run Tryz.prog w = .ok (.enter 218 args) w := enters_of Tryz.func218 (by kernel_rfl) rfl
set_option maxHeartbeats 1000000 in
set_option maxRecDepth 100000 in
theorem least11_c (S : Nat → Prop) (a b : List Lb) (va vb : Value) (B : Nat) (w : World) (ha : RLbs S w a [va]) (hb : RLbs S w b [vb]) (hn : a.length ≤ 4611686018427387903) (hB : w.cell? ⟨B, 0, none⟩ = some va) :
    Calls Tryz.prog 218 #[vb, .pointer (some ⟨B, 0, none⟩)] w fun e w' => e = .returned (.bool (smaller a b)) ∧ Ext w w' := by
  have hcon := fun W (hW : Ext w W) => subset_c S b a vb va W (RLbs.good.bel hb hW) (RLbs.good.bel ha hW) hn
  obtain ⟨A, c, rfl, hc, hc0⟩ := ha.val
  obtain ⟨A', c', rfl, hc', hc0'⟩ := hb.val
  have hB0 := World.block_lt_of_cell? w _ hB
  clear ha hb
  by_cases hlt : b.length < a.length
  · have HV := Lib.hid (show smaller a b = subB b a from by rw [smaller, decide_eq_true hlt, Bool.true_and])
    have z := decide_eq_true (show (b.length : Int) < (a.length : Int) by omega)
    go_enter Tryz.func218, Tryz.ntmps218
    go_wp2_with fail
    refine (hcon _ (by repeat (first | exact Ext.refl _ | apply Ext.alloc | apply Below.drew | apply Ext.drewN | refine Ext.trans' ?_ (by assumption) | refine Ext.trans' ?_ (ExtD.ext (by assumption))))).mono ?_
    rintro e w1 ⟨rfl, h1⟩
    go_wp2_with fail
    go_ret
    exact ⟨by rw [HV.out]; rfl, (by repeat (first | exact Ext.refl _ | apply Ext.alloc | apply Below.drew | apply Ext.drewN | refine Ext.trans' ?_ (by assumption) | refine Ext.trans' ?_ (ExtD.ext (by assumption))))⟩
  · have HV := Lib.hid (show smaller a b = false from by rw [smaller, decide_eq_false hlt, Bool.false_and])
    have z := decide_eq_false (show ¬ (b.length : Int) < (a.length : Int) by omega)
    go_enter Tryz.func218, Tryz.ntmps218
    go_wp2_with fail
    go_ret
    exact ⟨by rw [HV.out]; rfl, (by repeat (first | exact Ext.refl _ | apply Ext.alloc | apply Below.drew | apply Ext.drewN | refine Ext.trans' ?_ (by assumption) | refine Ext.trans' ?_ (ExtD.ext (by assumption))))⟩
theorem eg217 : ∀ args w, (callFunc 217 args).run Tryz.prog w = .ok (.enter 217 args) w := enters_of Tryz.func217 (by kernel_rfl) rfl
set_option maxHeartbeats 1000000 in
set_option maxRecDepth 100000 in
theorem least1_c (S : Nat → Prop) (a : List Lb) (l : List (List Lb)) (va vl : Value) (B : Nat) (w : World) (ha : RLbs S w a [va]) (hl : RSl RLbs 1 S w l [vl]) (hn : a.length ≤ 4611686018427387903) (hB : w.cell? ⟨B, 0, none⟩ = some vl) :
    Calls Tryz.prog 217 #[va, .pointer (some ⟨B, 0, none⟩)] w fun e w' => e = .returned (.bool (l.any (smaller a))) ∧ Ext w w' := by
  have hcon := fun B' W (hW : Ext w W) (hB' : W.cell? ⟨B', 0, none⟩ = some va) => conPLbs (smaller a) S W l vl ((RSl.good RLbs.good).bel hl hW) 218 #[.pointer (some ⟨B', 0, none⟩)] eg218
    (fun x hx cs W' hW' hr => by
      obtain ⟨A, c, rfl, _⟩ := id hr
      exact least11_c S a x va _ B' W' (RLbs.good.bel ha (hW.trans' hW')) hr hn (Ext.keep hW' hB'))
  obtain ⟨A, c, rfl, hc, hc0⟩ := ha.val
  obtain ⟨A', c', rfl, hc', hc0'⟩ := hl.val
  have hB0 := World.block_lt_of_cell? w _ hB
  clear ha hl
  go_enter Tryz.func217, Tryz.ntmps217
  go_wp2_with fail
  refine (hcon _ _ (by repeat (first | exact Ext.refl _ | apply Ext.alloc | apply Below.drew | apply Ext.drewN | refine Ext.trans' ?_ (by assumption) | refine Ext.trans' ?_ (ExtD.ext (by assumption)))) (by go_simp)).mono ?_
  rintro e w1 ⟨rfl, h1⟩
  go_wp2_with fail
  go_ret
  exact ⟨rfl, (by repeat (first | exact Ext.refl _ | apply Ext.alloc | apply Below.drew | apply Ext.drewN | refine Ext.trans' ?_ (by assumption) | refine Ext.trans' ?_ (ExtD.ext (by assumption))))⟩
end Go.Proofs.YtegenalcheooeaaGreat

/- The order of labels, and of lists of labels, is total: sorting has one outcome. -/
set_option linter.unusedSectionVars false
set_option linter.unusedSimpArgs false
set_option linter.unusedVariables false
namespace Go.Proofs.YtegenalcheooeaaGreat
open Go.RowKit
attribute [local go_sem] cell?_exto

structure Ord3 {α : Type} (cf : α → α → Int) : Prop where
  sgn : ∀ x y, cf x y < 0 ↔ 0 < cf y x
  eq : ∀ x y, cf x y = 0 → x = y
  trans : ∀ x y z, cf x y < 0 → cf y z < 0 → cf x z < 0
theorem Ord3.refl {α : Type} {cf : α → α → Int} (h : Ord3 cf) (x : α) : cf x x = 0 := by
  have := h.sgn x x
  omega
theorem Ord3.symm {α : Type} {cf : α → α → Int} (h : Ord3 cf) {x y : α} (e : cf x y = 0) : cf y x = 0 := by rw [h.eq x y e]; exact h.refl y
theorem Ord3.iff {α : Type} {cf : α → α → Int} (h : Ord3 cf) (x y : α) : cf x y = 0 ↔ x = y := ⟨h.eq x y, fun e => by rw [e]; exact h.refl y⟩
theorem ordI : Ord3 cmpI := {
  sgn x y := by unfold cmpI; split <;> split <;> (try split) <;> (try split) <;> omega
  eq x y h := by
    unfold cmpI at h
    split at h
    · omega
    · split at h <;> omega
  trans x y z h1 h2 := by
    unfold cmpI at *
    have a : x < y := by
      split at h1
      · assumption
      · split at h1 <;> omega
    have b : y < z := by
      split at h2
      · assumption
      · split at h2 <;> omega
    rw [if_pos (by omega)]
    decide }
/-- Lists, element by element. -/
theorem ordL {α : Type} {cf : α → α → Int} (h : Ord3 cf) : Ord3 (lcmp cf) := {
  sgn := by
    intro x
    induction x with
    | nil => intro y; cases y <;> simp [lcmp]
    | cons x xs ih =>
      intro y
      cases y with
      | nil => simp [lcmp]
      | cons y ys =>
        rw [lcmp, lcmp]
        by_cases e : cf x y = 0
        · rw [if_pos e, if_pos (h.symm e)]; exact ih ys
        · rw [if_neg e, if_neg fun e' => e (h.symm e')]; exact h.sgn x y
  eq := by
    intro x
    induction x with
    | nil => intro y; cases y <;> simp [lcmp]
    | cons x xs ih =>
      intro y
      cases y with
      | nil => simp [lcmp]
      | cons y ys =>
        rw [lcmp]
        by_cases e : cf x y = 0
        · rw [if_pos e]; intro e2; rw [h.eq x y e, ih ys e2]
        · rw [if_neg e]; intro e2; exact absurd e2 e
  trans := by
    intro x
    induction x with
    | nil => intro y z; cases y <;> cases z <;> simp [lcmp]
    | cons x xs ih =>
      intro y z
      cases y with
      | nil => simp [lcmp]
      | cons y ys =>
        cases z with
        | nil => simp [lcmp]
        | cons z zs =>
          rw [lcmp, lcmp, lcmp]
          by_cases e1 : cf x y = 0
          · rw [if_pos e1, h.eq x y e1]
            by_cases e2 : cf y z = 0
            · rw [if_pos e2, if_pos e2]; exact ih ys zs
            · rw [if_neg e2, if_neg e2]; exact fun _ h2 => h2
          · rw [if_neg e1]
            by_cases e2 : cf y z = 0
            · rw [if_pos e2, ← h.eq y z e2, if_neg e1]; exact fun h1 _ => h1
            · rw [if_neg e2]
              intro h1 h2
              have h3 := h.trans x y z h1 h2
              rw [if_neg (by omega)]
              exact h3 }

/-! ### Terms and labels -/
mutual
theorem cmpTm_zero : ∀ x y, cmpTm x y = 0 → x = y
  | .mk k n l, .mk k' n' l', h => by
    rw [cmpTm] at h
    simp only [orI] at h
    split at h
    · rename_i h1
      split at h
      · rename_i h2
        split at h
        · split at h
          · rename_i h4
            rw [ordI.eq _ _ h1, ordI.eq _ _ h2, cmpTms_zero l l' h4]
          · contradiction
        · contradiction
      · contradiction
    · contradiction
theorem cmpTms_zero : ∀ x y, cmpTms x y = 0 → x = y
  | [], [], _ => rfl
  | [], y :: ys, h => by
    rw [cmpTms] at h
    have := ordI.eq _ _ h
    simp only [List.length_cons] at this
    omega
  | x :: xs, [], h => by rw [cmpTms] at h; cases h
  | x :: xs, y :: ys, h => by
    rw [cmpTms] at h
    split at h
    · rename_i h1
      rw [cmpTm_zero x y h1, cmpTms_zero xs ys h]
    · contradiction
end
mutual
def encTm : Tm → List Int
  | .mk k n l => k :: n :: (l.length : Int) :: encTms l
def encTms : List Tm → List Int
  | [] => [0]
  | x :: xs => 1 :: (encTm x ++ encTms xs)
end
mutual
theorem enc_tm : ∀ x y r s, lcmp cmpI (encTm x ++ r) (encTm y ++ s) = if cmpTm x y = 0 then lcmp cmpI r s else cmpTm x y
  | .mk k n l, .mk k' n' l', r, s => by
    have h := enc_tms l l' r s
    rw [encTm, encTm, cmpTm]
    simp only [List.cons_append, lcmp, orI]
    rw [h]
    by_cases h1 : cmpI k k' = 0 <;> by_cases h2 : cmpI n n' = 0 <;> by_cases h3 : cmpI (l.length : Int) l'.length = 0 <;> by_cases h4 : cmpTms l l' = 0 <;> simp [h1, h2, h3, h4]
theorem enc_tms : ∀ x y r s, lcmp cmpI (encTms x ++ r) (encTms y ++ s) = if cmpTms x y = 0 then lcmp cmpI r s else cmpTms x y
  | [], [], r, s => by simp [encTms, lcmp, cmpTms, cmpI]
  | [], y :: ys, r, s => by
    have e : cmpI 0 ((y :: ys).length : Int) = -1 := by unfold cmpI; simp only [List.length_cons]; rw [if_pos (by omega)]
    rw [cmpTms, e, encTms, encTms]
    simp only [List.cons_append, lcmp]
    simp [cmpI]
  | x :: xs, [], r, s => by
    rw [cmpTms, encTms, encTms]
    simp only [List.cons_append, lcmp]
    simp [cmpI]
  | x :: xs, y :: ys, r, s => by
    have h := enc_tm x y (encTms xs ++ r) (encTms ys ++ s)
    have h' := enc_tms xs ys r s
    rw [cmpTms, encTms, encTms]
    simp only [List.cons_append, lcmp, List.append_assoc]
    rw [h, h', if_pos (by simp [cmpI])]
    by_cases h1 : cmpTm x y = 0 <;> simp [h1]
end
theorem cmpLb_enc (a b : Lb) : cmpLb a b = lcmp cmpI (a.g :: encTms a.v) (b.g :: encTms b.v) := by
  have h := enc_tms a.v b.v [] []
  simp only [List.append_nil] at h
  rw [lcmp, h, cmpLb]
  simp only [orI, lcmp]
theorem ordLb : Ord3 cmpLb := {
  sgn x y := by rw [cmpLb_enc, cmpLb_enc]; exact (ordL ordI).sgn _ _
  eq x y h := by
    rw [cmpLb] at h
    simp only [orI] at h
    split at h
    · rename_i h1
      split at h
      · rename_i h2
        cases x; cases y
        simp only [Lb.mk.injEq]
        exact ⟨ordI.eq _ _ h1, cmpTms_zero _ _ h2⟩
      · contradiction
    · contradiction
  trans x y z := by rw [cmpLb_enc, cmpLb_enc, cmpLb_enc]; exact (ordL ordI).trans _ _ _ }

/-! ### Sorting -/
section
variable {α : Type} {cf : α → α → Int}
def insB (cf : α → α → Int) (x : α) : List α → List α
  | [] => [x]
  | y :: ys => if cf x y ≤ 0 then x :: y :: ys else y :: insB cf x ys
def sortB (cf : α → α → Int) : List α → List α
  | [] => []
  | x :: xs => insB cf x (sortB cf xs)
theorem insB_perm (x : α) : ∀ l : List α, (insB cf x l).Perm (x :: l)
  | [] => List.Perm.refl _
  | y :: ys => by
    rw [insB]
    split
    · exact List.Perm.refl _
    · exact ((insB_perm x ys).cons y).trans (List.Perm.swap x y ys)
theorem sortB_perm : ∀ l : List α, (sortB cf l).Perm l
  | [] => List.Perm.refl _
  | x :: xs => (insB_perm x _).trans ((sortB_perm xs).cons x)
def Srt (cf : α → α → Int) (l : List α) : Prop := l.Pairwise fun a b => cf a b ≤ 0
theorem insB_srt (h : Ord3 cf) (x : α) : ∀ l : List α, Srt cf l → Srt cf (insB cf x l)
  | [], _ => List.pairwise_singleton _ _
  | y :: ys, hs => by
    have hs' := List.pairwise_cons.1 hs
    rw [insB]
    split
    · rename_i hxy
      refine List.pairwise_cons.2 ⟨fun z hz => ?_, hs⟩
      rcases List.mem_cons.1 hz with rfl | hz
      · exact hxy
      · have hyz := hs'.1 z hz
        by_cases e1 : cf x y = 0
        · rw [h.eq x y e1]; exact hyz
        · by_cases e2 : cf y z = 0
          · rw [← h.eq y z e2]; exact hxy
          · exact Int.le_of_lt (h.trans x y z (by omega) (by omega))
    · rename_i hxy
      refine List.pairwise_cons.2 ⟨fun z hz => ?_, insB_srt h x ys hs'.2⟩
      rcases List.mem_cons.1 ((insB_perm x ys).mem_iff.1 hz) with rfl | hz
      · have := (h.sgn y z).2 (by omega)
        omega
      · exact hs'.1 z hz
theorem sortB_srt (h : Ord3 cf) : ∀ l : List α, Srt cf (sortB cf l)
  | [] => List.Pairwise.nil
  | x :: xs => insB_srt h x _ (sortB_srt h xs)
theorem srt_unique (h : Ord3 cf) : ∀ {l l' : List α}, l.Perm l' → Srt cf l → Srt cf l' → l = l'
  | [], l', hp, _, _ => (List.Perm.nil_eq hp)
  | a :: l, [], hp, _, _ => absurd hp.length_eq (by simp)
  | a :: l, b :: l', hp, h1, h2 => by
    have h1' := List.pairwise_cons.1 h1
    have h2' := List.pairwise_cons.1 h2
    have hab : a = b := by
      rcases List.mem_cons.1 (hp.mem_iff.1 (List.mem_cons_self ..)) with e | ha
      · exact e
      · rcases List.mem_cons.1 (hp.mem_iff.2 (List.mem_cons_self ..)) with e | hb
        · exact e.symm
        · have x1 := h1'.1 b hb
          have x2 := h2'.1 a ha
          have := h.sgn b a
          have := h.sgn a b
          exact h.eq a b (by omega)
    subst hab
    rw [srt_unique h (List.Perm.cons_inv hp) h1'.2 h2'.2]
theorem sortB_of (h : Ord3 cf) {l l' : List α} (hp : l'.Perm l) (hs : Srt cf l') : l' = sortB cf l := srt_unique h (hp.trans (sortB_perm l).symm) hs (sortB_srt h l)
theorem sortB_len (l : List α) : (sortB cf l).length = l.length := (sortB_perm l).length_eq
theorem sortB_mem (l : List α) (x : α) : x ∈ sortB cf l ↔ x ∈ l := (sortB_perm l).mem_iff
end
end Go.Proofs.YtegenalcheooeaaGreat

