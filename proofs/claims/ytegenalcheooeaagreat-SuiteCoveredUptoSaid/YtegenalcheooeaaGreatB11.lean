/- Of the proof of a law of the suites: Clone, Su2. -/
import Derived.Test.YtegenalcheooeaaGreatB07
import Derived.Test.YtegenalcheooeaaGreatB10
import Derived.Lib.SliceRun
/- slices.Clone at each element type. -/
set_option linter.unusedSectionVars false
set_option linter.unusedSimpArgs false
set_option linter.unusedVariables false
namespace Go.Proofs.YtegenalcheooeaaGreat
open Go.RowKit
attribute [local go_sem] cell?_exto

theorem infoLba : (Tryz.prog.info? 61).map (fun i => (i.zero, i.size, i.bytes)) = some (some (.agg #[.int .i64 0, .slice none 0 0]), 2, 32) := by kernel_rfl
set_option maxHeartbeats 1000000 in
set_option maxRecDepth 100000 in
/-- slices.Clone at Lb. -/
theorem cloneLb (S : Nat → Prop) (xs : List (Lb)) (v : Value) (w : World) (hx : RSl RLb 2 S w xs [v]) (hbig : xs.length * 32 ≤ 140737488355328) :
    Calls Tryz.prog 39 #[v] w (ClonePost RLb 2 61 S xs w) := by
  obtain ⟨A, c, hv, hc, hc0, h⟩ := hx
  injection hv with hv
  subst hv
  have qn : ∀ (w : World) (a : Option Addr) (n c n' c' : Nat), (binOp .eql 22 (.slice a n c) (.slice none n' c')).run Tryz.prog w = .ok (.bool a.isNone) w := fun w a n c n' c' => Lib.run_eql_slice_nil w _ _ a n c n' c' Tryz.underlying22
  rcases A with _ | a
  · have hxs : xs = [] := by
      rcases h with h | ⟨b, off, h, _⟩
      · exact h
      · cases h
    subst hxs
    go_enter Tryz.func39, Tryz.ntmps39
    go_wp2
    go_ret
    exact ⟨_, rfl, ROwn.nil .., Ext.refl _⟩
  · obtain ⟨news, hF, hcell⟩ : ∃ news, Flat RLb 2 S w xs news ∧ ∀ j u, news[j]? = some u → w.cell? (a.add j) = some u := by
      rcases h with rfl | ⟨b, off, ha, hb, hS, hr⟩
      · exact ⟨[], rfl, fun j u h => by simp at h⟩
      · obtain ⟨news, h1, h2⟩ := hr.flat
        injection ha with ha
        subst ha
        exact ⟨news, h1, fun j u hj => by rw [Addr.add_lit]; exact h2 j u hj⟩
    obtain ⟨i3, hi3, hzz⟩ := Option.map_eq_some_iff.1 infoLba
    simp only [Prod.mk.injEq] at hzz
    obtain ⟨hz0, hz1, hz2⟩ := hzz
    have HF := Lib.hid hF
    have HC := Lib.hid hcell
    clear hF hcell h
    go_enter Tryz.func39, Tryz.ntmps39
    go_wp2_with (at_builtin; refine wpList_append_own_at _ rfl _ _ 22 rfl w.heap.size 61 i3 _ 2 32 Tryz.underlying22 hi3 hz0 hz1 hz2 rfl (by decide) _ _ _ rfl (World.ownsRow_made w #[] 0 (Nat.le_refl _) (Nat.zero_le _) (by simp)) a xs.length c news rfl HF.out.len (fun j u hj => Lib.cell?_alloc_some _ (HC.out j u hj)) (HF.out.one RLb.good) (by unfold maxLen; omega) (by omega) (by simp) ?_)
    intro v' w1 hown hgrow hnil hat
    go_wp2
    go_ret
    have he : Ext w (w.alloc (.cells #[] 61)) := (Ext.refl w).alloc _
    refine ⟨v', rfl, ?_, (he.grown hgrow (by simp) (by intro k hk; simp [Value.ownBlock] at hk; omega))⟩
    have hp := ROwn.push (xs := []) RLb.good (T := S) (v := .slice (some ⟨w.heap.size, 0, none⟩) 0 0) (w := w.alloc (.cells #[] 61)) (news := []) (cs := news) (ys := xs) rfl
      (HF.out.imp fun x _ cs hx => RLb.good.bel (RLb.good.mono hx fun b hb hb' => ⟨hb', by simp [Value.ownBlock]; omega⟩) he) (by simpa using hown) hgrow (by rw [World.size_alloc]; exact hat)
    exact hp

theorem infoTma : (Tryz.prog.info? 159).map (fun i => (i.zero, i.size, i.bytes)) = some (some (.agg #[.int .i64 0, .int .i64 0, .slice none 0 0]), 3, 40) := by kernel_rfl
set_option maxHeartbeats 1000000 in
set_option maxRecDepth 100000 in
/-- slices.Clone at Tm. -/
theorem cloneTm (S : Nat → Prop) (xs : List (Tm)) (v : Value) (w : World) (hx : RSl RTm 3 S w xs [v]) (hbig : xs.length * 40 ≤ 140737488355328) :
    Calls Tryz.prog 152 #[v] w (ClonePost RTm 3 159 S xs w) := by
  obtain ⟨A, c, hv, hc, hc0, h⟩ := hx
  injection hv with hv
  subst hv
  have qn : ∀ (w : World) (a : Option Addr) (n c n' c' : Nat), (binOp .eql 59 (.slice a n c) (.slice none n' c')).run Tryz.prog w = .ok (.bool a.isNone) w := fun w a n c n' c' => Lib.run_eql_slice_nil w _ _ a n c n' c' Tryz.underlying59
  rcases A with _ | a
  · have hxs : xs = [] := by
      rcases h with h | ⟨b, off, h, _⟩
      · exact h
      · cases h
    subst hxs
    go_enter Tryz.func152, Tryz.ntmps152
    go_wp2
    go_ret
    exact ⟨_, rfl, ROwn.nil .., Ext.refl _⟩
  · obtain ⟨news, hF, hcell⟩ : ∃ news, Flat RTm 3 S w xs news ∧ ∀ j u, news[j]? = some u → w.cell? (a.add j) = some u := by
      rcases h with rfl | ⟨b, off, ha, hb, hS, hr⟩
      · exact ⟨[], rfl, fun j u h => by simp at h⟩
      · obtain ⟨news, h1, h2⟩ := hr.flat
        injection ha with ha
        subst ha
        exact ⟨news, h1, fun j u hj => by rw [Addr.add_lit]; exact h2 j u hj⟩
    obtain ⟨i3, hi3, hzz⟩ := Option.map_eq_some_iff.1 infoTma
    simp only [Prod.mk.injEq] at hzz
    obtain ⟨hz0, hz1, hz2⟩ := hzz
    have HF := Lib.hid hF
    have HC := Lib.hid hcell
    clear hF hcell h
    go_enter Tryz.func152, Tryz.ntmps152
    go_wp2_with (at_builtin; refine wpList_append_own_at _ rfl _ _ 59 rfl w.heap.size 159 i3 _ 3 40 Tryz.underlying59 hi3 hz0 hz1 hz2 rfl (by decide) _ _ _ rfl (World.ownsRow_made w #[] 0 (Nat.le_refl _) (Nat.zero_le _) (by simp)) a xs.length c news rfl HF.out.len (fun j u hj => Lib.cell?_alloc_some _ (HC.out j u hj)) (HF.out.one RTm.good) (by unfold maxLen; omega) (by omega) (by simp) ?_)
    intro v' w1 hown hgrow hnil hat
    go_wp2
    go_ret
    have he : Ext w (w.alloc (.cells #[] 159)) := (Ext.refl w).alloc _
    refine ⟨v', rfl, ?_, (he.grown hgrow (by simp) (by intro k hk; simp [Value.ownBlock] at hk; omega))⟩
    have hp := ROwn.push (xs := []) RTm.good (T := S) (v := .slice (some ⟨w.heap.size, 0, none⟩) 0 0) (w := w.alloc (.cells #[] 159)) (news := []) (cs := news) (ys := xs) rfl
      (HF.out.imp fun x _ cs hx => RTm.good.bel (RTm.good.mono hx fun b hb hb' => ⟨hb', by simp [Value.ownBlock]; omega⟩) he) (by simpa using hown) hgrow (by rw [World.size_alloc]; exact hat)
    exact hp

theorem infoLbsa : (Tryz.prog.info? 22).map (fun i => (i.zero, i.size, i.bytes)) = some (some (.slice none 0 0), 1, 24) := by kernel_rfl
set_option maxHeartbeats 1000000 in
set_option maxRecDepth 100000 in
/-- slices.Clone at Lbs. -/
theorem cloneLbs (S : Nat → Prop) (xs : List (List Lb)) (v : Value) (w : World) (hx : RSl RLbs 1 S w xs [v]) (hbig : xs.length * 24 ≤ 140737488355328) :
    Calls Tryz.prog 216 #[v] w (ClonePost RLbs 1 22 S xs w) := by
  obtain ⟨A, c, hv, hc, hc0, h⟩ := hx
  injection hv with hv
  subst hv
  have qn : ∀ (w : World) (a : Option Addr) (n c n' c' : Nat), (binOp .eql 30 (.slice a n c) (.slice none n' c')).run Tryz.prog w = .ok (.bool a.isNone) w := fun w a n c n' c' => Lib.run_eql_slice_nil w _ _ a n c n' c' Tryz.underlying30
  rcases A with _ | a
  · have hxs : xs = [] := by
      rcases h with h | ⟨b, off, h, _⟩
      · exact h
      · cases h
    subst hxs
    go_enter Tryz.func216, Tryz.ntmps216
    go_wp2
    go_ret
    exact ⟨_, rfl, ROwn.nil .., Ext.refl _⟩
  · obtain ⟨news, hF, hcell⟩ : ∃ news, Flat RLbs 1 S w xs news ∧ ∀ j u, news[j]? = some u → w.cell? (a.add j) = some u := by
      rcases h with rfl | ⟨b, off, ha, hb, hS, hr⟩
      · exact ⟨[], rfl, fun j u h => by simp at h⟩
      · obtain ⟨news, h1, h2⟩ := hr.flat
        injection ha with ha
        subst ha
        exact ⟨news, h1, fun j u hj => by rw [Addr.add_lit]; exact h2 j u hj⟩
    obtain ⟨i3, hi3, hzz⟩ := Option.map_eq_some_iff.1 infoLbsa
    simp only [Prod.mk.injEq] at hzz
    obtain ⟨hz0, hz1, hz2⟩ := hzz
    have HF := Lib.hid hF
    have HC := Lib.hid hcell
    clear hF hcell h
    go_enter Tryz.func216, Tryz.ntmps216
    go_wp2_with (at_builtin; refine wpList_append_own_at _ rfl _ _ 30 rfl w.heap.size 22 i3 _ 1 24 Tryz.underlying30 hi3 hz0 hz1 hz2 rfl (by decide) _ _ _ rfl (World.ownsRow_made w #[] 0 (Nat.le_refl _) (Nat.zero_le _) (by simp)) a xs.length c news rfl HF.out.len (fun j u hj => Lib.cell?_alloc_some _ (HC.out j u hj)) (HF.out.one RLbs.good) (by unfold maxLen; omega) (by omega) (by simp) ?_)
    intro v' w1 hown hgrow hnil hat
    go_wp2
    go_ret
    have he : Ext w (w.alloc (.cells #[] 22)) := (Ext.refl w).alloc _
    refine ⟨v', rfl, ?_, (he.grown hgrow (by simp) (by intro k hk; simp [Value.ownBlock] at hk; omega))⟩
    have hp := ROwn.push (xs := []) RLbs.good (T := S) (v := .slice (some ⟨w.heap.size, 0, none⟩) 0 0) (w := w.alloc (.cells #[] 22)) (news := []) (cs := news) (ys := xs) rfl
      (HF.out.imp fun x _ cs hx => RLbs.good.bel (RLbs.good.mono hx fun b hb hb' => ⟨hb', by simp [Value.ownBlock]; omega⟩) he) (by simpa using hown) hgrow (by rw [World.size_alloc]; exact hat)
    exact hp

theorem infoInta : (Tryz.prog.info? 3).map (fun i => (i.zero, i.size, i.bytes)) = some (some (.int .i64 0), 1, 8) := by kernel_rfl
set_option maxHeartbeats 1000000 in
set_option maxRecDepth 100000 in
/-- slices.Clone at Int. -/
theorem cloneInt (S : Nat → Prop) (xs : List (Int)) (v : Value) (w : World) (hx : RSl RInt 1 S w xs [v]) (hbig : xs.length * 8 ≤ 140737488355328) :
    Calls Tryz.prog 250 #[v] w (ClonePost RInt 1 3 S xs w) := by
  obtain ⟨A, c, hv, hc, hc0, h⟩ := hx
  injection hv with hv
  subst hv
  have qn : ∀ (w : World) (a : Option Addr) (n c n' c' : Nat), (binOp .eql 53 (.slice a n c) (.slice none n' c')).run Tryz.prog w = .ok (.bool a.isNone) w := fun w a n c n' c' => Lib.run_eql_slice_nil w _ _ a n c n' c' Tryz.underlying53
  rcases A with _ | a
  · have hxs : xs = [] := by
      rcases h with h | ⟨b, off, h, _⟩
      · exact h
      · cases h
    subst hxs
    go_enter Tryz.func250, Tryz.ntmps250
    go_wp2
    go_ret
    exact ⟨_, rfl, ROwn.nil .., Ext.refl _⟩
  · obtain ⟨news, hF, hcell⟩ : ∃ news, Flat RInt 1 S w xs news ∧ ∀ j u, news[j]? = some u → w.cell? (a.add j) = some u := by
      rcases h with rfl | ⟨b, off, ha, hb, hS, hr⟩
      · exact ⟨[], rfl, fun j u h => by simp at h⟩
      · obtain ⟨news, h1, h2⟩ := hr.flat
        injection ha with ha
        subst ha
        exact ⟨news, h1, fun j u hj => by rw [Addr.add_lit]; exact h2 j u hj⟩
    obtain ⟨i3, hi3, hzz⟩ := Option.map_eq_some_iff.1 infoInta
    simp only [Prod.mk.injEq] at hzz
    obtain ⟨hz0, hz1, hz2⟩ := hzz
    have HF := Lib.hid hF
    have HC := Lib.hid hcell
    clear hF hcell h
    go_enter Tryz.func250, Tryz.ntmps250
    go_wp2_with (at_builtin; refine wpList_append_own_at _ rfl _ _ 53 rfl w.heap.size 3 i3 _ 1 8 Tryz.underlying53 hi3 hz0 hz1 hz2 rfl (by decide) _ _ _ rfl (World.ownsRow_made w #[] 0 (Nat.le_refl _) (Nat.zero_le _) (by simp)) a xs.length c news rfl HF.out.len (fun j u hj => Lib.cell?_alloc_some _ (HC.out j u hj)) (HF.out.one RInt.good) (by unfold maxLen; omega) (by omega) (by simp) ?_)
    intro v' w1 hown hgrow hnil hat
    go_wp2
    go_ret
    have he : Ext w (w.alloc (.cells #[] 3)) := (Ext.refl w).alloc _
    refine ⟨v', rfl, ?_, (he.grown hgrow (by simp) (by intro k hk; simp [Value.ownBlock] at hk; omega))⟩
    have hp := ROwn.push (xs := []) RInt.good (T := S) (v := .slice (some ⟨w.heap.size, 0, none⟩) 0 0) (w := w.alloc (.cells #[] 3)) (news := []) (cs := news) (ys := xs) rfl
      (HF.out.imp fun x _ cs hx => RInt.good.bel (RInt.good.mono hx fun b hb hb' => ⟨hb', by simp [Value.ownBlock]; omega⟩) he) (by simpa using hown) hgrow (by rw [World.size_alloc]; exact hat)
    exact hp

end Go.Proofs.YtegenalcheooeaaGreat

/- suite: binary search, within, common, subset. -/
set_option linter.unusedSectionVars false
set_option linter.unusedSimpArgs false
set_option linter.unusedVariables false
namespace Go.Proofs.YtegenalcheooeaaGreat
open Go.RowKit
attribute [local go_sem] cell?_exto

/-- The binary search: where p ends to hold, among i .. j. -/
def bsI (p : Nat → Bool) : Nat → Nat → Nat → Nat
  | 0, i, _ => i
  | f + 1, i, j => if i < j then (if p ((i + j) / 2) then bsI p f ((i + j) / 2 + 1) j else bsI p f i ((i + j) / 2)) else i
theorem bsI_fuel (p : Nat → Bool) : ∀ (f i j : Nat), j - i ≤ f → bsI p f i j = bsI p (j - i) i j
  | 0, i, j, h => by rw [show j - i = 0 from by omega]
  | f + 1, i, j, h => by
    by_cases hij : i < j
    · obtain ⟨m, hm⟩ : ∃ m, j - i = m + 1 := ⟨j - i - 1, by omega⟩
      rw [hm, bsI, bsI, if_pos hij, if_pos hij]
      split
      · rw [bsI_fuel p f _ _ (by omega), bsI_fuel p m _ _ (by omega)]
      · rw [bsI_fuel p f _ _ (by omega), bsI_fuel p m _ _ (by omega)]
    · rw [show j - i = 0 from by omega, bsI, bsI, if_neg hij]
theorem bsI_step (p : Nat → Bool) (i j : Nat) (h : i < j) : bsI p (j - i) i j = if p ((i + j) / 2) then bsI p (j - ((i + j) / 2 + 1)) ((i + j) / 2 + 1) j else bsI p ((i + j) / 2 - i) i ((i + j) / 2) := by
  obtain ⟨m, hm⟩ : ∃ m, j - i = m + 1 := ⟨j - i - 1, by omega⟩
  rw [hm, bsI, if_pos h]
  split
  · rw [bsI_fuel p m _ _ (by omega)]
  · rw [bsI_fuel p m _ _ (by omega)]
theorem bsI_le (p : Nat → Bool) : ∀ (f i j : Nat), i ≤ j → i ≤ bsI p f i j ∧ bsI p f i j ≤ j
  | 0, i, j, h => by rw [bsI]; omega
  | f + 1, i, j, h => by
    rw [bsI]
    split
    · split
      · have := bsI_le p f ((i + j) / 2 + 1) j (by omega); omega
      · have := bsI_le p f i ((i + j) / 2) (by omega); omega
    · omega
/-- slices.BinarySearchFunc of labels. -/
def bsP (l : List Lb) (x : Lb) (h : Nat) : Bool := match l[h]? with | some y => decide (cmpLb y x < 0) | none => false
def bsLb (l : List Lb) (x : Lb) : Nat := bsI (bsP l x) l.length 0 l.length
def isAt (l : List Lb) (x : Lb) (h : Nat) : Bool := match l[h]? with | some y => decide (cmpLb y x = 0) | none => false
def inLb (x : Lb) (l : List Lb) : Bool := isAt l x (bsLb l x)
theorem bsP_at {l : List Lb} {x : Lb} {h : Nat} (hh : h < l.length) : bsP l x h = decide (cmpLb l[h] x < 0) := by simp [bsP, List.getElem?_eq_getElem hh]
theorem isAt_at {l : List Lb} {x : Lb} {h : Nat} (hh : h < l.length) : isAt l x h = decide (cmpLb l[h] x = 0) := by simp [isAt, List.getElem?_eq_getElem hh]
theorem isAt_end {l : List Lb} {x : Lb} {h : Nat} (hh : ¬ h < l.length) : isAt l x h = false := by simp [isAt, List.getElem?_eq_none (Nat.le_of_not_lt hh)]

set_option maxHeartbeats 1000000 in
set_option maxRecDepth 100000 in
theorem bsearch_c (S : Nat → Prop) (l : List Lb) (x : Lb) (v : Value) (cx : List Value) (w : World) (hl : RLbs S w l [v]) (hx : RLb S w x cx) (hn : l.length ≤ 4611686018427387903) :
    Calls Tryz.prog 213 #[v, .agg cx.toArray, .func (.func 166) #[] #[]] w fun e w' => e = .returned (.tuple #[.int .i64 (bsLb l x : Nat), .bool (inLb x l)]) ∧ ExtD w w' := by
  obtain ⟨A, c, rfl, hc, hc0⟩ := hl.val
  obtain ⟨_, vx, rfl, hvx⟩ := id hx
  have HL := Lib.hid hl
  have HX := Lib.hid hx
  clear hl hx hvx
  go_enter Tryz.func213, Tryz.ntmps213
  go_wp2_with fail
  go_loopw [9, 10, 11] (fun vi vj _ wr => ∃ i j : Nat, i ≤ j ∧ j ≤ l.length ∧ vi = .int .i64 i ∧ vj = .int .i64 j ∧ ExtD w wr ∧ wr.cell? ⟨w.heap.size, 0, none⟩ = some (.int .i64 x.g) ∧ wr.cell? ⟨w.heap.size, 1, none⟩ = some vx ∧ Hid (bsLb l x = bsI (bsP l x) (j - i) i j)) (fun vi vj _ _ => ((intOf vj) - (intOf vi)).toNat)
  case atStart => exact ⟨0, l.length, Nat.zero_le _, Nat.le_refl _, rfl, rfl, (by repeat (first | exact ExtD.refl _ | apply ExtD.alloc | apply ExtD.drew | apply ExtD.drewN | refine ExtD.trans ?_ (by assumption))), by go_simp, by go_simp, rfl⟩
  case round =>
    obtain ⟨i, j, hij, hj, rfl, rfl, hE, q0, q1, hbs⟩ := hrel
    by_cases hlt : i < j
    · have hst0 := bsI_step (bsP l x) i j hlt
      obtain ⟨h, hh⟩ : ∃ h, (i + j) / 2 = h := ⟨_, rfl⟩
      have y1 : ((i : Int) + (j : Int)) / 2 = (h : Int) := by omega
      have hm : h < l.length := by omega
      have hm1 : i ≤ h := by omega
      have hm2 : h < j := by omega
      rw [hh] at hst0
      clear hh
      obtain ⟨b, off, cs, rfl, hb, hs, hl, hr, hcell⟩ := (RLbs.good.ext HL.out hE).get (h) hm
      obtain ⟨_, v1, rfl, hv1⟩ := id hr
      have g0 := hcell.get 0 _
      have g1 := hcell.get 1 _
      simp only [Nat.add_zero] at g0
      have hcmp := fun W (hW : ExtD wr W) => compare_c S _ _ _ _ W (RLb.good.ext hr hW) (RLb.good.ext HX.out (hE.trans hW))
      have z1 : (0 : Int) ≤ (h : Int) := by omega
      have z2 : (h : Int) < (l.length : Int) := by omega
      have hst := Lib.hid hst0
      clear hst0
      clear hcell hl hs hv1 hr
      by_cases hc2 : cmpLb l[h] x < 0
      · have HC := Lib.hid (show bsP l x (h) = true from by rw [bsP_at hm]; exact decide_eq_true hc2)
        go_wp2_with fail
        go_region_held3 (fun W => W.cell? ⟨b, off + h * 2, none⟩ = some (.int .i64 l[h].g) ∧ W.cell? ⟨b, off + h * 2 + 1, none⟩ = some v1 ∧ W.cell? ⟨w.heap.size, 0, none⟩ = some (.int .i64 x.g) ∧ W.cell? ⟨w.heap.size, 1, none⟩ = some vx)
          (first | (refine ⟨?_, ?_, ?_, ?_⟩ <;> go_simp <;> done) | exact hx1.k4 (by assumption) | exact ((ExtD.refl _).alloc _).k4 (by assumption))
          (first | (go_at_call 166; refine (hcmp _ (by repeat (first | exact ExtD.refl _ | apply ExtD.alloc | apply ExtD.drew | apply ExtD.drewN | refine ExtD.trans ?_ (by assumption)))).mono ?_; rintro e w1 ⟨rfl, hx1⟩))
        clear y1
        go_wp2_with fail
        go_roundw
        case rel =>
          refine ⟨h + 1, j, by omega, hj, by go_num, rfl, (by repeat (first | exact ExtD.refl _ | apply ExtD.alloc | apply ExtD.drew | apply ExtD.drewN | refine ExtD.trans ?_ (by assumption))), hx1.keep q0, hx1.keep q1, ?_⟩
          rw [hbs.out, hst.out, if_pos HC.out]
          exact rfl
        case measure => simp [intOf]; omega
      · have HC := Lib.hid (show bsP l x (h) = false from by rw [bsP_at hm]; exact decide_eq_false hc2)
        have hd : 0 ≤ cmpLb l[h] x := by omega
        clear hc2
        go_wp2_with fail
        go_region_held3 (fun W => W.cell? ⟨b, off + h * 2, none⟩ = some (.int .i64 l[h].g) ∧ W.cell? ⟨b, off + h * 2 + 1, none⟩ = some v1 ∧ W.cell? ⟨w.heap.size, 0, none⟩ = some (.int .i64 x.g) ∧ W.cell? ⟨w.heap.size, 1, none⟩ = some vx)
          (first | (refine ⟨?_, ?_, ?_, ?_⟩ <;> go_simp <;> done) | exact hx1.k4 (by assumption) | exact ((ExtD.refl _).alloc _).k4 (by assumption))
          (first | (go_at_call 166; refine (hcmp _ (by repeat (first | exact ExtD.refl _ | apply ExtD.alloc | apply ExtD.drew | apply ExtD.drewN | refine ExtD.trans ?_ (by assumption)))).mono ?_; rintro e w1 ⟨rfl, hx1⟩))
        clear y1
        go_wp2_with fail
        go_roundw
        case rel =>
          refine ⟨i, h, by omega, by omega, rfl, rfl, (by repeat (first | exact ExtD.refl _ | apply ExtD.alloc | apply ExtD.drew | apply ExtD.drewN | refine ExtD.trans ?_ (by assumption))), hx1.keep q0, hx1.keep q1, ?_⟩
          rw [hbs.out, hst.out, if_neg (by rw [HC.out]; decide)]
          exact rfl
        case measure => simp [intOf]; omega
    · obtain rfl : i = j := by omega
      have hi : bsLb l x = i := by rw [hbs.out, show i - i = 0 from by omega, bsI]
      by_cases hm : i < l.length
      · have HV := Lib.hid (show inLb x l = decide (cmpLb l[i] x = 0) from by rw [inLb, hi, isAt_at hm])
        have HI := Lib.hid hi
        clear hi hlt
        obtain ⟨b, off, cs, rfl, hb, hs, hl, hr, hcell⟩ := (RLbs.good.ext HL.out hE).get i hm
        obtain ⟨_, v1, rfl, hv1⟩ := id hr
        have g0 := hcell.get 0 _
        have g1 := hcell.get 1 _
        simp only [Nat.add_zero] at g0
        have hcmp := fun W (hW : ExtD wr W) => compare_c S _ _ _ _ W (RLb.good.ext hr hW) (RLb.good.ext HX.out (hE.trans hW))
        have z1 : (0 : Int) ≤ (i : Int) := by omega
        have z2 : (i : Int) < (l.length : Int) := by omega
        have z3 : decide ((i : Int) < (l.length : Int)) = true := decide_eq_true z2
        clear hcell hl hs hv1 hr
        go_wp2_with fail
        go_region_held3 (fun W => W.cell? ⟨b, off + i * 2, none⟩ = some (.int .i64 l[i].g) ∧ W.cell? ⟨b, off + i * 2 + 1, none⟩ = some v1 ∧ W.cell? ⟨w.heap.size, 0, none⟩ = some (.int .i64 x.g) ∧ W.cell? ⟨w.heap.size, 1, none⟩ = some vx)
          (first | (refine ⟨?_, ?_, ?_, ?_⟩ <;> go_simp <;> done) | exact hx1.k4 (by assumption) | exact ((ExtD.refl _).alloc _).k4 (by assumption))
          (first | (go_at_call 166; refine (hcmp _ (by repeat (first | exact ExtD.refl _ | apply ExtD.alloc | apply ExtD.drew | apply ExtD.drewN | refine ExtD.trans ?_ (by assumption)))).mono ?_; rintro e w1 ⟨rfl, hx1⟩))
        go_wp2_with fail
        go_ret2
        exact ⟨by rw [HV.out, HI.out]; rfl, (by repeat (first | exact ExtD.refl _ | apply ExtD.alloc | apply ExtD.drew | apply ExtD.drewN | refine ExtD.trans ?_ (by assumption)))⟩
      · have HV := Lib.hid (show inLb x l = false from by rw [inLb, hi, isAt_end hm])
        have HI := Lib.hid hi
        have z3 : decide ((i : Int) < (l.length : Int)) = false := decide_eq_false (by omega)
        clear hi hlt
        go_wp2_with fail
        go_quiet (fail)
        go_wp2_with fail
        go_ret2
        exact ⟨by rw [HV.out, HI.out]; rfl, (by repeat (first | exact ExtD.refl _ | apply ExtD.alloc | apply ExtD.drew | apply ExtD.drewN | refine ExtD.trans ?_ (by assumption)))⟩

set_option maxHeartbeats 1000000 in
set_option maxRecDepth 100000 in
theorem within_c (S : Nat → Prop) (l : List Lb) (x : Lb) (v : Value) (cx : List Value) (w : World) (hl : RLbs S w l [v]) (hx : RLb S w x cx) (hn : l.length ≤ 4611686018427387903) :
    Calls Tryz.prog 212 #[.agg cx.toArray, v] w fun e w' => e = .returned (.bool (inLb x l)) ∧ ExtD w w' := by
  have hcon := fun W (hW : ExtD w W) => bsearch_c S l x v cx W (RLbs.good.ext hl hW) (RLb.good.ext hx hW) hn
  obtain ⟨A, c, rfl, hc, hc0⟩ := hl.val
  obtain ⟨_, vx, rfl, hvx⟩ := id hx
  clear hl hx hvx
  go_enter Tryz.func212, Tryz.ntmps212
  go_wp2_with fail
  refine (hcon _ (by repeat (first | exact ExtD.refl _ | apply ExtD.alloc | apply ExtD.drew | apply ExtD.drewN | refine ExtD.trans ?_ (by assumption)))).mono ?_
  rintro e w1 ⟨rfl, h1⟩
  go_wp2_with fail
  go_ret
  exact ⟨rfl, (by repeat (first | exact ExtD.refl _ | apply ExtD.alloc | apply ExtD.drew | apply ExtD.drewN | refine ExtD.trans ?_ (by assumption)))⟩

/-- suite.common: some label of a is in b. -/
def comB (a b : List Lb) : Bool := a.any fun x => inLb x b
theorem eg211 : ∀ args w, (callFunc 211 args).run Tryz.prog w = .ok (.enter 211 args) w := enters_of Tryz.func211 (by kernel_rfl) rfl
set_option maxHeartbeats 1000000 in
set_option maxRecDepth 100000 in
theorem common1_c (S : Nat → Prop) (l : List Lb) (x : Lb) (v : Value) (B : Nat) (cx : List Value) (w : World) (hl : RLbs S w l [v]) (hx : RLb S w x cx) (hn : l.length ≤ 4611686018427387903) (hB : w.cell? ⟨B, 0, none⟩ = some v) :
    Calls Tryz.prog 211 #[.agg cx.toArray, .pointer (some ⟨B, 0, none⟩)] w fun e w' => e = .returned (.bool (inLb x l)) ∧ Ext w w' := by
  have hcon := fun W (hW : ExtD w W) => within_c S l x v cx W (RLbs.good.ext hl hW) (RLb.good.ext hx hW) hn
  obtain ⟨A, c, rfl, hc, hc0⟩ := hl.val
  obtain ⟨_, vx, rfl, hvx⟩ := id hx
  have hB0 := World.block_lt_of_cell? w _ hB
  clear hl hx hvx
  go_enter Tryz.func211, Tryz.ntmps211
  go_wp2_with fail
  refine (hcon _ (by repeat (first | exact ExtD.refl _ | apply ExtD.alloc | apply ExtD.drew | apply ExtD.drewN | refine ExtD.trans ?_ (by assumption)))).mono ?_
  rintro e w1 ⟨rfl, h1⟩
  go_wp2_with fail
  go_ret
  exact ⟨rfl, (by repeat (first | exact Ext.refl _ | apply Ext.alloc | apply Below.drew | apply Ext.drewN | refine Ext.trans' ?_ (by assumption) | refine Ext.trans' ?_ (ExtD.ext (by assumption))))⟩
set_option maxHeartbeats 1000000 in
set_option maxRecDepth 100000 in
theorem common_c (S : Nat → Prop) (a b : List Lb) (va vb : Value) (w : World) (ha : RLbs S w a [va]) (hb : RLbs S w b [vb]) (hn : b.length ≤ 4611686018427387903) :
    Calls Tryz.prog 146 #[va, vb] w fun e w' => e = .returned (.bool (comB a b)) ∧ Ext w w' := by
  have hcon := fun B W (hW : Ext w W) (hB : W.cell? ⟨B, 0, none⟩ = some vb) => conPLb (fun x => inLb x b) S W a va (RLbs.good.bel ha hW) 211 #[.pointer (some ⟨B, 0, none⟩)] eg211
    (fun x hx cs W' hW' hr => common1_c S b x vb B cs W' (RLbs.good.bel hb (hW.trans' hW')) hr hn ((hW'.cell (World.block_lt_of_cell? W _ hB)).trans hB))
  obtain ⟨A, c, rfl, hc, hc0⟩ := ha.val
  obtain ⟨A', c', rfl, hc', hc0'⟩ := hb.val
  clear ha hb
  go_enter Tryz.func146, Tryz.ntmps146
  go_wp2_with fail
  refine (hcon _ _ (by repeat (first | exact Ext.refl _ | apply Ext.alloc | apply Below.drew | apply Ext.drewN | refine Ext.trans' ?_ (by assumption) | refine Ext.trans' ?_ (ExtD.ext (by assumption)))) (by go_simp)).mono ?_
  rintro e w1 ⟨rfl, h1⟩
  go_wp2_with fail
  go_ret
  exact ⟨rfl, (by repeat (first | exact Ext.refl _ | apply Ext.alloc | apply Below.drew | apply Ext.drewN | refine Ext.trans' ?_ (by assumption) | refine Ext.trans' ?_ (ExtD.ext (by assumption))))⟩
end Go.Proofs.YtegenalcheooeaaGreat

