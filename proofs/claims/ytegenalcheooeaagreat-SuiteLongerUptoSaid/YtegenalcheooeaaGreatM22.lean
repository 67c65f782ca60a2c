/- Of the proof of a law of the suites: Insert, Added, Musts. -/
import Derived.Test.YtegenalcheooeaaGreatM04
import Derived.Test.YtegenalcheooeaaGreatM05
import Derived.Test.YtegenalcheooeaaGreatM07
import Derived.Test.YtegenalcheooeaaGreatM10
import Derived.Test.YtegenalcheooeaaGreatM21
/- slices.Insert at labels: walked. -/
set_option linter.unusedSectionVars false
set_option linter.unusedSimpArgs false
set_option linter.unusedVariables false
namespace Go.Proofs.YtegenalcheooeaaGreat
open Go.RowKit
attribute [local go_sem] cell?_exto
open Go.Shelf

def InsPost (base : Nat) (T : Nat → Prop) (r : List Lb) (v : Value) (w : World) (e : Ending) (w' : World) : Prop :=
  ∃ A c, e = .returned (.slice A r.length c) ∧ ROwn RLb 2 61 base T w' r (.slice A r.length c) ∧ Bt (fun b => v.ownBlock = some b) w w'

set_option maxHeartbeats 1000000 in
set_option maxRecDepth 100000 in
theorem insert_end (base : Nat) (T : Nat → Prop) (l : List Lb) (x : Lb) (v vx : Value) (vb : Nat) (w : World) (hown : ROwn RLb 2 61 base T w l v) (hT : ∀ b, T b → b < base) (hbase : base ≤ w.heap.size)
    (hvb : w.heap[vb]? = some (.cells #[.int .i64 x.g, vx] 61 (0, 0))) (hx : RLb T w x [.int .i64 x.g, vx]) (hlen : l.length ≤ 1000000) :
    Calls Tryz.prog 214 #[v, .int .i64 (l.length : Int), .slice (some ⟨vb, 0, none⟩) 1 1] w (InsPost base T (l ++ [x]) v w) := by
  obtain ⟨A, c, rfl, hc, hc0⟩ := (hown.sl RLb.good (by decide)).val
  obtain ⟨i3, hi3, hzz⟩ := Option.map_eq_some_iff.1 infoLba
  simp only [Prod.mk.injEq] at hzz
  obtain ⟨hz0, hz1, hz2⟩ := hzz
  have hcc : ∀ j u, [Value.int .i64 x.g, vx][j]? = some u → w.cell? ((⟨vb, 0, none⟩ : Addr).add j) = some u := fun j u h => by
    rw [Addr.add_lit, Nat.zero_add]
    exact (cell_of_row _ _ j _ _ _ hvb).trans (by simpa using h)
  have h1c := RLb.good.one hx
  have hne : ∀ q, T q → (Value.slice A l.length c).ownBlock ≠ some q := fun q hq e => by
    obtain ⟨news, h1, _⟩ := hown
    have := (own_row_base h1 q e).1
    have := hT q hq
    omega
  have hG : Flat RLb 2 (fun b => T b ∧ (Value.slice A l.length c).ownBlock ≠ some b) w [x] [.int .i64 x.g, vx] := Flat.single (RLb.good.mono hx fun q _ hq => ⟨hq, hne q hq⟩) rfl
  obtain ⟨news, hrow, hF⟩ := hown
  have HF := Lib.hid hF
  have HG := Lib.hid hG
  clear hF hG hx hne hvb
  by_cases hcl : c = l.length
  · subst hcl
    go_enter Tryz.func214, Tryz.ntmps214
    go_wp2_with (at_builtin; refine wpList_append_own_at _ rfl _ _ 22 rfl base 61 i3 _ 2 32 Tryz.underlying22 hi3 hz0 hz1 hz2 rfl (by decide) _ _ _ rfl hrow ⟨vb, 0, none⟩ 1 1 [.int .i64 x.g, vx] rfl rfl hcc h1c (by unfold maxLen; omega) (by omega) hbase ?_)
    intro v' w1 hown hg hnil hat
    obtain ⟨g5, c5, rfl⟩ := ownsRow_succ hown
    go_wp2
    go_ret
    refine ⟨some ⟨g5, 0, none⟩, c5, by rw [List.length_append]; rfl, ?_, (Bt.of_grown hg).mono fun k _ h => h.symm⟩
    rw [List.length_append]
    exact ROwn.push RLb.good HF.out HG.out hown hg hat
  · skip
    go_enter Tryz.func214, Tryz.ntmps214
    go_wp2_with (at_builtin; refine wpList_append_own_at _ rfl _ _ 22 rfl base 61 i3 _ 2 32 Tryz.underlying22 hi3 hz0 hz1 hz2 rfl (by decide) _ _ _ rfl hrow ⟨vb, 0, none⟩ 1 1 [.int .i64 x.g, vx] rfl rfl hcc h1c (by unfold maxLen; omega) (by omega) hbase ?_)
    intro v' w1 hown hg hnil hat
    obtain ⟨g5, c5, rfl⟩ := ownsRow_succ hown
    go_wp2
    go_ret
    refine ⟨some ⟨g5, 0, none⟩, c5, by rw [List.length_append]; rfl, ?_, (Bt.of_grown hg).mono fun k _ h => h.symm⟩
    rw [List.length_append]
    exact ROwn.push RLb.good HF.out HG.out hown hg hat

set_option maxHeartbeats 1000000 in
set_option maxRecDepth 100000 in
theorem insert_mid (base : Nat) (T : Nat → Prop) (l : List Lb) (x : Lb) (v vx : Value) (vb i : Nat) (w : World) (hown : ROwn RLb 2 61 base T w l v) (hT : ∀ b, T b → b < base) (hbase : base ≤ w.heap.size)
    (hvb : w.heap[vb]? = some (.cells #[.int .i64 x.g, vx] 61 (0, 0))) (hvo : v.ownBlock ≠ some vb) (hx : RLb T w x [.int .i64 x.g, vx]) (hlen : l.length ≤ 1000000) (hi : i < l.length) :
    Calls Tryz.prog 214 #[v, .int .i64 (i : Int), .slice (some ⟨vb, 0, none⟩) 1 1] w (InsPost base T (l.take i ++ [x] ++ l.drop i) v w) := by
  obtain ⟨g, c, rfl⟩ : ∃ g cap, v = .slice (some ⟨g, 0, none⟩) l.length cap := by
    obtain ⟨news, h1, _⟩ := hown
    exact Joins.ownsRow_form h1 (by omega)
  obtain ⟨news, hrow, hF⟩ := hown
  have hgb := (own_row_base hrow g rfl).1
  have hgl := (own_row_base hrow g rfl).2
  have hvl : vb < w.heap.size := (Array.getElem?_eq_some_iff.1 hvb).1
  have hvg : vb ≠ g := fun e => hvo (by rw [e]; rfl)
  obtain ⟨cur, hcur, hcs, hcc, hcm⟩ : ∃ cur : Array Value, w.heap[g]? = some (.cells cur 61 (0, 0)) ∧ cur.size = c * 2 ∧ l.length ≤ c ∧ c ≤ maxLen := by
    rcases hrow.2 with ⟨h', _⟩ | ⟨g', cap', cur, h', hb, hg, hnc, hcm, hcs, htake⟩
    · simp at h'
    · simp only [Value.slice.injEq, Option.some.injEq, Addr.mk.injEq, and_true, true_and] at h'
      obtain ⟨rfl, rfl⟩ := h'
      exact ⟨cur, hg, hcs, hnc, hcm⟩
  have hov : ∀ o lb cb, (callFunc 259 #[.slice (some ⟨vb, 0, none⟩) 1 1, .slice (some ⟨g, o, none⟩) lb cb]).run Tryz.prog w = .ok (.value (.bool false)) w := fun o lb cb => by
    rw [run_callFunc_extern Tryz.func259 (by kernel_rfl) (by kernel_rfl) (by kernel_rfl) (e := Extern.SlicesOverlaps.overlaps #[22, 22] #[4]) (by kernel_rfl),
      Lib.run_overlaps_apart w 22 4 61 Tryz.underlying22 2 (fun _ => by kernel_rfl) ⟨vb, 0, none⟩ ⟨g, o, none⟩ 1 1 lb cb hvg 61 61 2 (c * 2) (by simp [World.shape?, hvb]) (by simp [World.shape?, hcur, hcs]) (by omega) (frozen_of_row w vb 0 _ _ hvb) (frozen_of_row w vb 2 _ _ hvb)]
    rfl
  have hx2 : RLb (fun b => T b ∧ b ≠ g) w x [.int .i64 x.g, vx] := RLb.good.mono hx fun q _ hq => ⟨hq, fun e => by have := hT q hq; omega⟩
  have hz2 : ¬ ((i : Int) = (l.length : Int)) := by omega
  by_cases hroom : l.length + 1 ≤ c
  · have hz3 : ¬ ((c : Int) < (l.length : Int) + 1) := by omega
    have mixed : Tryz.prog.follows .mixedOrders = true := by kernel_rfl
    have hb1 : (0 : Int) ≤ (i : Int) + 1 := by omega
    have htn : ((i : Int) + 1).toNat = i + 1 := by omega
    have hw1 : IntKind.i64.wrap ((i : Int) + 1) = (i : Int) + 1 := by rw [IntKind.wrap_i64]; omega
    have hb2 : ¬ (c = i + 1) := by omega
    have hb3 : (i : Int) ≤ (l.length : Int) + 1 := by omega
    have hb4 : ¬ (c = i) := by omega
    have hin : i ≤ l.length := by omega
    have hnl : news.length = l.length * 2 := hF.len
    have hdl : (news.drop (i * 2)).length = (l.length - i) * 2 := by rw [List.length_drop, hnl, Nat.sub_mul]
    have hsz : (Tryz.prog.info? 61).map (·.size) = some 2 := by kernel_rfl
    have h1n := hF.one RLb.good
    have hsp : ∀ q, q < (l.length + 1) * 2 → (w.cell? ⟨g, q, none⟩).isSome = true := fun q hq => by
      rw [cell_of_row w g q _ _ _ hcur, Array.getElem?_eq_getElem (by omega)]
      rfl
    have hcp1 : ∀ ty dl dc sl sc, Nat.min sl dl = l.length - i → (Builtin.copy_ #[22, 22] ty #[.slice (some ⟨g, (i + 1) * 2, none⟩) dl dc, .slice (some ⟨g, i * 2, none⟩) sl sc]).run Tryz.prog w.drew = .ok (goInt (l.length - i : Nat)) (w.drew.setCells g ((i + 1) * 2) (news.drop (i * 2))) := fun ty dl dc sl sc hm =>
      run_copy_k w.drew _ _ ty 61 2 g _ dl dc ⟨g, i * 2, none⟩ sl sc (l.length - i) (news.drop (i * 2)) Tryz.underlying22 hsz hm hdl
        (fun j u hj => by
          rw [List.getElem?_drop] at hj
          have hjl := (List.getElem?_eq_some_iff.1 hj).1
          rw [Addr.add_lit]
          exact (hrow.cellAt (i * 2 + j) (by omega)).trans hj)
        (fun j hj => hsp _ (by omega)) (fun j hj => hrow.frozenAt _) (fun u hu => h1n u (List.mem_of_mem_drop hu))
    have hcp2 : ∀ W, (∀ a, W.cell? a = (w.drew.setCells g ((i + 1) * 2) (news.drop (i * 2))).cell? a) → (∀ a, W.frozen? a = (w.drew.setCells g ((i + 1) * 2) (news.drop (i * 2))).frozen? a) → ∀ ty dl dc, Nat.min 1 dl = 1 → (Builtin.copy_ #[22, 22] ty #[.slice (some ⟨g, i * 2, none⟩) dl dc, .slice (some ⟨vb, 0, none⟩) 1 1]).run Tryz.prog W = .ok (goInt (1 : Nat)) (W.setCells g (i * 2) [.int .i64 x.g, vx]) := fun W h1 h2 ty dl dc hm =>
      run_copy_k W _ _ ty 61 2 g _ dl dc ⟨vb, 0, none⟩ 1 1 1 [.int .i64 x.g, vx] Tryz.underlying22 hsz hm rfl
        (fun j u hj => by
          rw [Addr.add_lit, Nat.zero_add, h1, World.cell?_setCells_out g _ _ _ _ (fun h _ => absurd h hvg)]
          exact (cell_of_row _ _ j _ _ _ hvb).trans (by simpa using hj))
        (fun j hj => by
          rw [h1]
          exact World.isSome_setCells g _ _ _ _ (hsp _ (by simp at hj; omega)))
        (fun j hj => by rw [h2, World.frozen?_setCells]; exact hrow.frozenAt _) (RLb.good.one hx)
    obtain ⟨ys, hys, hlong⟩ := own_longer hrow (Nat.le_add_right _ 1) hroom
    have hfin := own_setCells [.int .i64 x.g, vx] (i * 2) _ _ (own_setCells (news.drop (i * 2)) ((i + 1) * 2) _ _ (World.ownsRow.drew hlong))
    rw [show (i + 1) * 2 = i * 2 + 2 from by omega, ins_shift news ys [.int .i64 x.g, vx] (i * 2) 2 (by omega) rfl (by rw [hys, Nat.add_sub_cancel_left]), ← show (i + 1) * 2 = i * 2 + 2 from by omega] at hfin
    have hmin : Nat.min (l.length + 1 - i) (l.length - i) = l.length - i := Nat.min_eq_right (by omega)
    have hmin2 : Nat.min 1 (l.length + 1 - i) = 1 := Nat.min_eq_left (by omega)
    go_enter Tryz.func214, Tryz.ntmps214
    go_wp2_with (simp only [hov])
    go_region_law_o (refine step_copy_runI rfl _ _ 22 22 rfl (.slice (some ⟨g, (i + 1) * 2, none⟩) (l.length - i) (c - (i + 1))) (.slice (some ⟨g, i * 2, none⟩) (l.length + 1 - i) (c - i)) (by simp [Act.eval, Act.put]) (by simp [Act.eval, Act.put]) (hcp1 _ _ _ _ _ hmin) ?_)
    go_wp2_with (at_builtin; refine wpList_copy_runI _ rfl _ _ 22 22 rfl _ _ rfl rfl (hcp2 _ (fun _ => rfl) (fun _ => rfl) _ _ _ hmin2) ?_)
    go_ret
    have hrl : (l.take i ++ [x] ++ l.drop i).length = l.length + 1 := by simp only [List.length_append, List.length_take, List.length_drop, List.length_cons, List.length_nil]; omega
    have hbt : Bt (fun b => b = g) w ((w.drew.setCells g ((i + 1) * 2) (news.drop (i * 2))).setCells g (i * 2) [.int .i64 x.g, vx]) := ((Bt.refl (fun b => b = g) w).drew.trans (bt_setCells _ _ _)).trans (bt_setCells _ _ _)
    refine ⟨some ⟨g, 0, none⟩, c, by rw [hrl]; rfl, ⟨news.take (i * 2) ++ [.int .i64 x.g, vx] ++ news.drop (i * 2), by rw [hrl]; exact hfin, ?_⟩, hbt.mono fun b _ h => by rw [h]; rfl⟩
    rw [own_eq]
    rw [own_eq] at hF
    exact (((hF.take i).append (Flat.single hx2 rfl)).append (hF.drop i)).imp fun y _ cs hy => RLb.good.move hy (hbt.kp fun b _ hb => hb.2)
  · have hcl : c = l.length := by omega
    subst hcl
    have hnl : news.length = l.length * 2 := hF.len
    obtain ⟨i3, hi3, hzz⟩ := Option.map_eq_some_iff.1 infoLba
    simp only [Prod.mk.injEq] at hzz
    obtain ⟨hz0, hzs, hzb⟩ := hzz
    have mixed : Tryz.prog.follows .mixedOrders = true := by kernel_rfl
    have hw1 : IntKind.i64.wrap ((i : Int) + 1) = (i : Int) + 1 := by rw [IntKind.wrap_i64]; omega
    have hb1 : (0 : Int) ≤ (i : Int) + 1 := by omega
    have htn : ((i : Int) + 1).toNat = i + 1 := by omega
    have hin : i ≤ l.length := by omega
    have hin2 : (i : Int) ≤ (l.length : Int) := by omega
    have hci : ¬ (l.length = i) := by omega
    have hold : (Builtin.firstCells i3.size i (.slice (some ⟨g, 0, none⟩) i l.length)).run Tryz.prog w.drew = .ok (news.take (i * 2)).toArray w.drew := by
      rw [hzs]
      exact run_firstCells_some w.drew 2 i ⟨g, 0, none⟩ i l.length (news.take (i * 2)) (by rw [List.length_take]; omega) (fun j u hj => by
        rw [Addr.add_lit, Nat.zero_add]
        have hjl := (List.getElem?_eq_some_iff.1 hj).1
        rw [List.length_take] at hjl
        rw [List.getElem?_take, if_pos (by omega)] at hj
        exact (hrow.cellAt j (by omega)).trans hj)
    have hkk : (l.length : Int) + 1 - (i : Int) = ((l.length + 1 - i : Nat) : Int) := by omega
    have hik : i + (l.length + 1 - i) = l.length + 1 := by omega
    have hrz : ∀ ty, (Builtin.append_ #[22, 3] ty #[.slice (some ⟨g, 0, none⟩) i l.length, .int .i64 ((l.length : Int) + 1 - (i : Int))]).run Tryz.prog w =
        .ok (.slice (some ⟨w.heap.size, 0, none⟩) (l.length + 1) (grownCap w (l.length + 1) l.length 61)) (w.drew.alloc (.cells ((news.take (i * 2)).toArray ++ Builtin.zeroCells (Value.agg #[.int .i64 0, .slice none 0 0]).cells (l.length + 1 - i) ++ Builtin.zeroCells (Value.agg #[.int .i64 0, .slice none 0 0]).cells (grownCap w (l.length + 1) l.length 61 - (l.length + 1))) 61)) := fun ty => by
      have h := Lib.run_append_grow_zeros w 22 3 ty 61 i3 _ .i64 .i64 Tryz.underlying22 Tryz.underlying3 hi3 hz0 (some ⟨g, 0, none⟩) i l.length (news.take (i * 2)) hold (l.length + 1 - i) (by omega) (by omega) (by omega) (by omega) (by rw [hzb]; omega) (by rw [hzb, hik]; exact growslice_fits (by omega) (by omega))
      rw [hik] at h
      rw [hkk]
      exact h
    obtain ⟨G, hG⟩ : ∃ G, G = grownCap w (l.length + 1) l.length 61 := ⟨_, rfl⟩
    have hGn : l.length + 1 ≤ G := by rw [hG]; exact grownCap_ge w _ _ _
    have hGm : G ≤ maxLen := by rw [hG]; exact grownCap_le_maxLen w _ _ _ (by unfold maxLen; omega)
    obtain ⟨zs, hzs1, hzs2⟩ : ∃ zs : List Value, zs = (Builtin.zeroCells (Value.agg #[.int .i64 0, .slice none 0 0]).cells (l.length + 1 - i)).toList ∧ zs.length = (l.length + 1 - i) * 2 := ⟨_, rfl, by simp [Builtin.zeroCells, Value.cells, Nat.mul_comm]⟩
    obtain ⟨ROW, hROW⟩ : ∃ ROW : Array Value, ROW = (news.take (i * 2)).toArray ++ Builtin.zeroCells (Value.agg #[.int .i64 0, .slice none 0 0]).cells (l.length + 1 - i) ++ Builtin.zeroCells (Value.agg #[.int .i64 0, .slice none 0 0]).cells (G - (l.length + 1)) := ⟨_, rfl⟩
    rw [← hG, ← hROW] at hrz
    have hRs : ROW.size = G * 2 := by
      rw [hROW]
      simp [Builtin.zeroCells, Value.cells, hnl]
      omega
    have hRt : ROW.toList.take ((l.length + 1) * 2) = news.take (i * 2) ++ zs := by
      rw [hROW, hzs1]
      simp only [Array.toList_append]
      exact List.take_left' (by rw [← hzs1, List.length_append, hzs2, List.length_take]; omega)
    have hown2 : (w.alloc (.cells ROW 61)).ownsRow base 61 2 (.slice (some ⟨w.heap.size, 0, none⟩) (l.length + 1) G) (l.length + 1) (news.take (i * 2) ++ zs) :=
      ⟨by rw [List.length_append, hzs2, List.length_take]; omega, .inr ⟨w.heap.size, G, ROW, rfl, hbase, World.alloc_heap_new w _, hGn, hGm, hRs, hRt⟩⟩
    have hfin := own_setCells (news.drop (i * 2)) ((i + 1) * 2) _ _ (World.ownsRow.drew (own_setCells [.int .i64 x.g, vx] (i * 2) _ _ (World.ownsRow.drew hown2)))
    rw [show (i + 1) * 2 = i * 2 + 2 from by omega, ins_grow news zs [.int .i64 x.g, vx] (i * 2) 2 (by omega) rfl (by rw [hzs2]; omega), ← show (i + 1) * 2 = i * 2 + 2 from by omega] at hfin
    have h1n := hF.one RLb.good
    have hsz : (Tryz.prog.info? 61).map (·.size) = some 2 := by kernel_rfl
    have hdl : (news.drop (i * 2)).length = (l.length - i) * 2 := by rw [List.length_drop, hnl, Nat.sub_mul]
    have hN : ∀ q, q < (l.length + 1) * 2 → ((w.drew.alloc (.cells ROW 61)).cell? ⟨w.heap.size, q, none⟩).isSome = true := fun q hq => by
      rw [World.cell?_alloc_at (w := w.drew) ROW _ w.heap.size q rfl, Array.getElem?_eq_getElem (by omega)]; rfl
    have hNf : ∀ q, (w.drew.alloc (.cells ROW 61)).frozen? ⟨w.heap.size, q, none⟩ = false := fun q => World.frozen?_alloc_at (w := w.drew) ROW _ w.heap.size q rfl
    have hcpA : ∀ W : World, (∀ a, W.cell? a = (w.drew.alloc (.cells ROW 61)).cell? a) → (∀ a, W.frozen? a = (w.drew.alloc (.cells ROW 61)).frozen? a) → ∀ ty dc, (Builtin.copy_ #[22, 22] ty #[.slice (some ⟨w.heap.size, i * 2, none⟩) (l.length + 1 - i) dc, .slice (some ⟨vb, 0, none⟩) 1 1]).run Tryz.prog W = .ok (goInt (1 : Nat)) (W.setCells w.heap.size (i * 2) [.int .i64 x.g, vx]) := fun W h1 h2 ty dc =>
      run_copy_k W _ _ ty 61 2 w.heap.size _ _ dc ⟨vb, 0, none⟩ 1 1 1 [.int .i64 x.g, vx] Tryz.underlying22 hsz (Nat.min_eq_left (by omega)) rfl
        (fun j u hj => by
          rw [Addr.add_lit, Nat.zero_add, h1, World.cell?_alloc_past (w := w.drew) _ vb j hvl]
          exact (cell_of_row w _ j _ _ _ hvb).trans (by simpa using hj))
        (fun j hj => by rw [h1]; exact hN _ (by simp at hj; omega)) (fun j hj => by rw [h2]; exact hNf _) (RLb.good.one hx)
    have hcpB : ∀ W : World, (∀ a, W.cell? a = ((w.drew.alloc (.cells ROW 61)).setCells w.heap.size (i * 2) [.int .i64 x.g, vx]).cell? a) → (∀ a, W.frozen? a = ((w.drew.alloc (.cells ROW 61)).setCells w.heap.size (i * 2) [.int .i64 x.g, vx]).frozen? a) → ∀ ty dc sc, (Builtin.copy_ #[22, 22] ty #[.slice (some ⟨w.heap.size, (i + 1) * 2, none⟩) (l.length - i) dc, .slice (some ⟨g, i * 2, none⟩) (l.length - i) sc]).run Tryz.prog W = .ok (goInt (l.length - i : Nat)) (W.setCells w.heap.size ((i + 1) * 2) (news.drop (i * 2))) := fun W h1 h2 ty dc sc =>
      run_copy_k W _ _ ty 61 2 w.heap.size _ _ dc ⟨g, i * 2, none⟩ _ sc (l.length - i) (news.drop (i * 2)) Tryz.underlying22 hsz (Nat.min_self _) hdl
        (fun j u hj => by
          rw [List.getElem?_drop] at hj
          have hjl := (List.getElem?_eq_some_iff.1 hj).1
          rw [Addr.add_lit, h1, World.cell?_setCells_out _ _ _ _ _ (fun h _ => absurd h (Nat.ne_of_lt hgl)), World.cell?_alloc_past (w := w.drew) _ g _ hgl]
          exact (hrow.cellAt (i * 2 + j) (by omega)).trans hj)
        (fun j hj => by rw [h1]; exact World.isSome_setCells _ _ _ _ _ (hN _ (by omega))) (fun j hj => by rw [h2, World.frozen?_setCells]; exact hNf _) (fun u hu => h1n u (List.mem_of_mem_drop hu))
    have hE1 : ∀ a, ((w.alloc (.cells ROW 61)).drew).cell? a = (w.drew.alloc (.cells ROW 61)).cell? a := fun _ => rfl
    have hE2 : ∀ a, ((w.alloc (.cells ROW 61)).drew).frozen? a = (w.drew.alloc (.cells ROW 61)).frozen? a := fun _ => rfl
    have hF1 : ∀ a, (((w.alloc (.cells ROW 61)).drew.setCells w.heap.size (i * 2) [.int .i64 x.g, vx]).drew).cell? a = ((w.drew.alloc (.cells ROW 61)).setCells w.heap.size (i * 2) [.int .i64 x.g, vx]).cell? a := fun _ => rfl
    have hF2 : ∀ a, (((w.alloc (.cells ROW 61)).drew.setCells w.heap.size (i * 2) [.int .i64 x.g, vx]).drew).frozen? a = ((w.drew.alloc (.cells ROW 61)).setCells w.heap.size (i * 2) [.int .i64 x.g, vx]).frozen? a := fun _ => rfl
    have hGi : ¬ (G = i) := by omega
    have hGi1 : ¬ (G = i + 1) := by omega
    have HFIN := Lib.hid hfin
    have HFL := Lib.hid hF
    have hrl : (l.take i ++ [x] ++ l.drop i).length = l.length + 1 := by simp only [List.length_append, List.length_take, List.length_drop, List.length_cons, List.length_nil]; omega
    have HRL := Lib.hid hrl
    have HX2 := Lib.hid hx2
    clear hG hkk hik hold hROW hRs hRt hown2 hfin hF hrl hx2 hN hNf hdl h1n hzs1 hzs2
    go_enter Tryz.func214, Tryz.ntmps214
    go_wp2_with (first
      | (at_builtin; refine Lib.wpList_append_run _ rfl _ _ _ _ rfl _ _ rfl rfl _ _ (hrz _) ?_)
      | (at_builtin; refine wpList_copy_runI _ rfl _ _ 22 22 rfl _ _ rfl rfl (hcpA _ hE1 hE2 _ _) ?_))
    go_region_law_o (refine step_copy_runI rfl _ _ 22 22 rfl (.slice (some ⟨w.heap.size, (i + 1) * 2, none⟩) (l.length - i) (G - (i + 1))) (.slice (some ⟨g, i * 2, none⟩) (l.length - i) (l.length - i)) (by simp [Act.eval, Act.put]) (by simp [Act.eval, Act.put]) (hcpB _ hF1 hF2 3 (G - (i + 1)) (l.length - i)) ?_)
    go_wp2
    go_ret
    have hX : Ext w ((((w.alloc (.cells ROW 61)).drew.setCells w.heap.size (i * 2) [.int .i64 x.g, vx]).drew).setCells w.heap.size ((i + 1) * 2) (news.drop (i * 2))) :=
      Bt.new (Z := fun b => b = w.heap.size) ((Ext.refl w).alloc (.cells ROW 61)).drew ((bt_setCells _ _ _).trans (((Bt.refl (fun b => b = w.heap.size) _).drew).trans (bt_setCells _ _ _))) fun q _ hq => Nat.le_of_eq hq.symm
    refine ⟨some ⟨w.heap.size, 0, none⟩, G, by rw [HRL.out]; rfl, ⟨news.take (i * 2) ++ [.int .i64 x.g, vx] ++ news.drop (i * 2), by rw [HRL.out]; exact HFIN.out, ?_⟩, hX.bt⟩
    rw [own_eq]
    have hF := HFL.out
    rw [own_eq] at hF
    exact (((hF.take i).append (Flat.single HX2.out rfl)).append (hF.drop i)).imp fun y _ cs hy => RLb.good.bel (RLb.good.mono hy fun b hb h => ⟨h.1, by omega⟩) hX
end Go.Proofs.YtegenalcheooeaaGreat

/- suite.added: walked. -/
set_option linter.unusedSectionVars false
set_option linter.unusedSimpArgs false
set_option linter.unusedVariables false
namespace Go.Proofs.YtegenalcheooeaaGreat
open Go.RowKit
attribute [local go_sem] cell?_exto
open Go.Shelf

theorem insert_c (base : Nat) (T : Nat → Prop) (l : List Lb) (x : Lb) (v vx : Value) (vb i : Nat) (w : World) (hown : ROwn RLb 2 61 base T w l v) (hT : ∀ b, T b → b < base) (hbase : base ≤ w.heap.size)
    (hvb : w.heap[vb]? = some (.cells #[.int .i64 x.g, vx] 61 (0, 0))) (hvo : v.ownBlock ≠ some vb) (hx : RLb T w x [.int .i64 x.g, vx]) (hlen : l.length ≤ 1000000) (hi : i ≤ l.length) :
    Calls Tryz.prog 214 #[v, .int .i64 (i : Int), .slice (some ⟨vb, 0, none⟩) 1 1] w (InsPost base T (l.take i ++ [x] ++ l.drop i) v w) := by
  by_cases h : i < l.length
  · exact insert_mid base T l x v vx vb i w hown hT hbase hvb hvo hx hlen h
  · obtain rfl : i = l.length := by omega
    rw [List.take_length, List.drop_length, List.append_nil]
    exact insert_end base T l x v vx vb w hown hT hbase hvb hx hlen

/-- suite.added -/
def addL (l : List Lb) (x : Lb) : List Lb := l.take (bsLb l x) ++ [x] ++ l.drop (bsLb l x)
theorem addL_len (l : List Lb) (x : Lb) : (addL l x).length = l.length + 1 := by simp only [addL, List.length_append, List.length_take, List.length_drop, List.length_cons, List.length_nil]; omega
theorem bsLb_le (l : List Lb) (x : Lb) : bsLb l x ≤ l.length := (bsI_le _ _ 0 l.length (Nat.zero_le _)).2
set_option maxHeartbeats 1000000 in
set_option maxRecDepth 100000 in
theorem added_c (S : Nat → Prop) (l : List Lb) (x : Lb) (v vx : Value) (w : World) (hl : RLbs S w l [v]) (hx : RLb S w x [.int .i64 x.g, vx]) (hlen : l.length ≤ 1000000) :
    Calls Tryz.prog 147 #[v, .agg #[.int .i64 x.g, vx]] w fun e w' => ∃ A c, e = .returned (.slice A (addL l x).length c) ∧ ROwn RLb 2 61 w.heap.size (fun q => S q ∧ q < w.heap.size) w' (addL l x) (.slice A (addL l x).length c) ∧ Ext w w' := by
  obtain ⟨T, hT⟩ : ∃ T : Nat → Prop, T = fun q => S q ∧ q < w.heap.size := ⟨_, rfl⟩
  have hl' : RLbs T w l [v] := by rw [hT]; exact RLbs.good.mono hl fun b h1 h2 => ⟨h2, h1⟩
  have hx' : RLb T w x [.int .i64 x.g, vx] := by rw [hT]; exact RLb.good.mono hx fun b h1 h2 => ⟨h2, h1⟩
  have hT' : ∀ b, T b → b < w.heap.size + 1 := fun b hb => by rw [hT] at hb; have := hb.2; omega
  rw [← hT]
  have hbs := fun W (hW : ExtD w W) => bsearch_c T l x v _ W (RLbs.good.ext hl' hW) (RLb.good.ext hx' hW) (by omega)
  obtain ⟨A, c, rfl, _, _⟩ := hl.val
  obtain ⟨_, vx', hvx', hvx⟩ := id hx
  simp only [List.cons.injEq, true_and, and_true] at hvx'
  obtain rfl := hvx'
  obtain ⟨Ax, cx, rfl, _, _⟩ := hvx.val
  have HL := Lib.hid hl'
  have HX := Lib.hid hx'
  have hle := bsLb_le l x
  clear hl hx hvx hl' hx'
  go_enter Tryz.func147, Tryz.ntmps147
  go_wp2_with fail
  refine (hbs _ (by repeat (first | exact ExtD.refl _ | apply ExtD.alloc | apply ExtD.drew | apply ExtD.drewN | refine ExtD.trans ?_ (by assumption)))).mono ?_
  rintro e w1 ⟨rfl, h1⟩
  have hc1 := h1.ext.cells
  have hX1 : Ext w w1 := Ext.trans' ((Ext.refl w).alloc _) h1.ext
  have hz1 : w.heap.size + 1 ≤ w1.heap.size := by have := h1.ext.size; simp at this; omega
  go_wp2_with fail
  have b0 : w1.cell? ⟨w.heap.size, 0, none⟩ = some (.int .i64 x.g) := by rw [h1.ext.cell (by simp)]; simp
  have b1 : w1.cell? ⟨w.heap.size, 1, none⟩ = some (.slice Ax x.v.length cx) := by rw [h1.ext.cell (by simp)]; simp
  have keyA : ∀ (w2 : World) (A2 : Option Addr) (c2 : Nat), ROwn RLb 2 61 (World.heap w1.drew).size T w2 l (.slice A2 l.length c2) → Ext w1.drew w2 → Ext w (w2.alloc (.cells #[.int .i64 x.g, .slice Ax x.v.length cx] 61)) ∧ (Value.slice A2 l.length c2).ownBlock ≠ some w.heap.size ∧ (∀ b, (Value.slice A2 l.length c2).ownBlock = some b → w1.heap.size ≤ b) ∧
      Calls Tryz.prog 214 #[.slice A2 l.length c2, .int .i64 (bsLb l x : Int), .slice (some ⟨w2.heap.size, 0, none⟩) 1 1] (w2.alloc (.cells #[.int .i64 x.g, .slice Ax x.v.length cx] 61)) (InsPost w1.heap.size T (addL l x) (.slice A2 l.length c2) (w2.alloc (.cells #[.int .i64 x.g, .slice Ax x.v.length cx] 61))) := fun w2 A2 c2 ho hx => by
    have hsz2 : w1.heap.size ≤ w2.heap.size := by have := hx.size; exact this
    have hob : ∀ b, (Value.slice A2 l.length c2).ownBlock = some b → w1.heap.size ≤ b ∧ b < w2.heap.size := fun b hb => by
      obtain ⟨news, h9, _⟩ := ho
      have h10 := own_row_base h9 b hb
      exact h10
    have hXw2 : Ext w w2 := hX1.trans' (Ext.trans' (Ext.refl w1).drew hx)
    exact ⟨hXw2.alloc _, fun e => by have := (hob _ e).1; omega, fun b hb => (hob b hb).1, insert_c w1.heap.size T l x (.slice A2 l.length c2) (.slice Ax x.v.length cx) w2.heap.size (bsLb l x) _ (ho.ext RLb.good ((Ext.refl _).alloc _)) (fun b hb => Nat.lt_of_lt_of_le (hT' b hb) hz1) (by simp; omega) (World.alloc_heap_new _ _) (fun e => by have := (hob _ e).2; omega) (RLb.good.bel HX.out (hXw2.alloc _)) hlen hle⟩
  have keyB : ∀ (w2 : World) (A2 : Option Addr) (c2 : Nat), ROwn RLb 2 61 (World.heap (w1.alloc (.cells #[.int .i64 x.g, .slice Ax x.v.length cx] 61)).drew).size T w2 l (.slice A2 l.length c2) → Ext (w1.alloc (.cells #[.int .i64 x.g, .slice Ax x.v.length cx] 61)).drew w2 → Ext w w2 ∧ (Value.slice A2 l.length c2).ownBlock ≠ some w.heap.size ∧ (∀ b, (Value.slice A2 l.length c2).ownBlock = some b → w1.heap.size ≤ b) ∧
      Calls Tryz.prog 214 #[.slice A2 l.length c2, .int .i64 (bsLb l x : Int), .slice (some ⟨w1.heap.size, 0, none⟩) 1 1] w2 (InsPost w1.heap.size T (addL l x) (.slice A2 l.length c2) w2) := fun w2 A2 c2 ho hx => by
    have hsz2 : w1.heap.size ≤ w2.heap.size := by have := hx.size; have h : (w1.alloc (.cells #[.int .i64 x.g, .slice Ax x.v.length cx] 61)).drew.heap.size = w1.heap.size + 1 := (by show (World.heap (w1.alloc _)).size = _; simp); omega
    have hob : ∀ b, (Value.slice A2 l.length c2).ownBlock = some b → w1.heap.size ≤ b ∧ b < w2.heap.size ∧ w1.heap.size + 1 ≤ b := fun b hb => by
      obtain ⟨news, h9, _⟩ := ho
      have h10 := own_row_base h9 b hb
      have h : (w1.alloc (.cells #[.int .i64 x.g, .slice Ax x.v.length cx] 61)).drew.heap.size = w1.heap.size + 1 := (by show (World.heap (w1.alloc _)).size = _; simp); exact ⟨by omega, h10.2, by omega⟩
    have hXw2 : Ext w w2 := hX1.trans' (Ext.trans' ((Ext.refl w1).alloc _).drew hx)
    exact ⟨hXw2, fun e => by have := (hob _ e).1; omega, fun b hb => (hob b hb).1, insert_c w1.heap.size T l x (.slice A2 l.length c2) (.slice Ax x.v.length cx) w1.heap.size (bsLb l x) _ (ho.base (by show w1.heap.size ≤ (World.heap (w1.alloc _)).size; simp)) (fun b hb => Nat.lt_of_lt_of_le (hT' b hb) hz1) hsz2 ((Ext.kp (S := fun _ => True) hx).block _ (by show _ < (World.heap (w1.alloc _)).size; simp) trivial |>.trans (World.alloc_heap_new _ _)) (fun e => by have := (hob _ e).2; omega) (RLb.good.bel HX.out hXw2) hlen hle⟩
  have HA := Lib.hid keyA
  have HB := Lib.hid keyB
  clear keyA keyB
  have hcl := fun W (hW : Ext w W) => cloneLb T l _ W (RLbs.good.bel HL.out hW) (by omega)
  go_region_held3 (fun W => W.cell? ⟨w.heap.size, 0, none⟩ = some (.int .i64 x.g) ∧ W.cell? ⟨w.heap.size, 1, none⟩ = some (.slice Ax x.v.length cx))
    (first | (refine ⟨?_, ?_⟩ <;> go_simp <;> done) | exact Ext.k2 hx1 (by assumption) | exact Ext.k2 ((Ext.refl _).alloc _) (by assumption) | (have hq := hb3; have hq2 := hno; refine And.imp (fun h => Bt.cell hq h hq2) (fun h => Bt.cell hq h hq2) ?_; assumption))
    (first
    | (go_at_call 39; refine (hcl _ (by repeat (first | exact Ext.refl _ | apply Ext.alloc | apply Below.drew | apply Ext.drewN | refine Ext.trans' ?_ (by assumption) | refine Ext.trans' ?_ (ExtD.ext (by assumption))))).mono ?_; rintro e w2 ⟨v2, rfl, ho2, hx1⟩; obtain ⟨A2, c2, rfl, hc2, hc20⟩ := (ho2.sl RLb.good (by decide)).val; first | (have hx2 : Ext w1.drew w2 := hx1; obtain ⟨h71, hno, h73, h74⟩ := HA.out w2 A2 c2 ho2 hx2) | (have hx2 : Ext (w1.alloc (.cells #[.int .i64 x.g, .slice Ax x.v.length cx] 61)).drew w2 := hx1; obtain ⟨h71, hno, h73, h74⟩ := HB.out w2 A2 c2 ho2 hx2))
    | (go_at_call 214; refine h74.mono ?_; rintro e w3 ⟨A3, c3, rfl, ho3, hb3⟩))
  all_goals
    go_wp2_with fail
    go_ret
    have hXX : Ext w w3 := Bt.new h71 hb3 fun b _ hb => by have := h73 b hb; omega
    exact ⟨A3, c3, rfl, ho3.base (by omega), hXX⟩
end Go.Proofs.YtegenalcheooeaaGreat

/- suite.musts: walked. -/
set_option linter.unusedSectionVars false
set_option linter.unusedSimpArgs false
set_option linter.unusedVariables false
namespace Go.Proofs.YtegenalcheooeaaGreat
open Go.RowKit
attribute [local go_sem] cell?_exto
open Go.Shelf

/-! ### What it comes to -/
def stepRow (a m : List Lb) : List (List Lb) := if comB m a then [m] else a.map (addL m)
def nextRaw (ls : List (List Lb)) (a : List Lb) : List (List Lb) := ls.flatMap (stepRow a)
def nextS (ls : List (List Lb)) (a : List Lb) : List (List Lb) := cmpctS (sortS (nextRaw ls a))
def tooMany (n : List (List Lb)) : Bool := decide (2000 < n.length) || n.any fun m => decide (64 < m.length)
def mustsGo : List (List Lb) → List (List Lb) → Option (List (List Lb))
  | [], ls => some ls
  | a :: bs, ls => if tooMany (nextS ls a) then none else mustsGo bs (leastS (nextS ls a))
def mustsL (s : Sy) (sts : List Int) : Option (List (List Lb)) := if sts = [] then some [] else mustsGo (cmpctS (sortS (sts.map (accL s)))) [[]]
def errO {α : Type} : Option α → Int
  | none => 2
  | some _ => 0
def rowO {α : Type} : Option (List α) → List α
  | none => []
  | some l => l
/-- What it hands back. -/
def MustPost (P : Nat → Prop) (r : Option (List (List Lb))) (w : World) (e : Ending) (w' : World) : Prop :=
  ∃ A c, e = .returned (.tuple #[.slice A (rowO r).length c, .int .i64 (errO r)]) ∧ ROwn RLbs 1 22 w.heap.size P w' (rowO r) (.slice A (rowO r).length c) ∧ Ext w w'
theorem stepRow_len (a m : List Lb) (ha : a.length ≤ 4000) : (stepRow a m).length ≤ 4000 := by
  unfold stepRow
  split
  · simp
  · rw [List.length_map]; exact ha
theorem nextRaw_len (a : List Lb) (ha : a.length ≤ 4000) : ∀ ls : List (List Lb), (nextRaw ls a).length ≤ ls.length * 4000
  | [] => by simp [nextRaw]
  | m :: ls => by
    have h1 := nextRaw_len a ha ls
    have h2 := stepRow_len a m ha
    unfold nextRaw at *
    rw [List.flatMap_cons, List.length_append, List.length_cons]
    omega
theorem nextRaw_take (ls : List (List Lb)) (a : List Lb) (i : Nat) (h : i < ls.length) : nextRaw (ls.take (i + 1)) a = nextRaw (ls.take i) a ++ stepRow a ls[i] := by
  rw [List.take_succ_eq_append_getElem h, nextRaw, List.flatMap_append]
  simp [nextRaw]
theorem leastS_mem (l : List (List Lb)) (x : List Lb) (h : x ∈ leastS l) : x ∈ l := (sortB_mem l x).1 (compactB_mem eqSets _ x (List.mem_filter.1 h).1)
theorem leastS_len (l : List (List Lb)) : (leastS l).length ≤ l.length := by
  have h1 := List.length_filter_le (fun a => !((cmpctS (sortS l)).any (smaller a))) (cmpctS (sortS l))
  have h2 := cmpctS_len (sortS l)
  rw [sortS_len] at h2
  exact Nat.le_trans h1 h2
theorem tooMany_no {n : List (List Lb)} (h : tooMany n = false) : n.length ≤ 2000 ∧ ∀ m ∈ n, m.length ≤ 64 := by
  simp only [tooMany, Bool.or_eq_false_iff, decide_eq_false_iff_not, List.any_eq_false, decide_eq_true_eq] at h
  exact ⟨by omega, fun m hm => by have := h.2 m hm; omega⟩

theorem eg148 : ∀ args w, (callFunc 148 args).run Tryz.prog w = .ok (.enter 148 args) w := enters_of Tryz.func148 (by kernel_rfl) rfl
set_option maxHeartbeats 1000000 in
set_option maxRecDepth 100000 in
theorem musts1_c (S : Nat → Prop) (m : List Lb) (u : Value) (w : World) (hm : RLbs S w m [u]) : Calls Tryz.prog 148 #[u] w fun e w' => e = .returned (.bool (decide (64 < m.length))) ∧ Ext w w' := by
  obtain ⟨A, c, rfl, _, _⟩ := hm.val
  clear hm
  go_enter Tryz.func148, Tryz.ntmps148
  go_wp2_with fail
  go_ret
  refine ⟨?_, Ext.refl _⟩
  have : decide ((64 : Int) < (m.length : Int)) = decide (64 < m.length) := decide_eq_decide.2 (by omega)
  rw [← this]
  rfl

/-- append of one set to a row of one's own. -/
theorem sets_push {P : Nat → Prop} {base : Nat} {w w' : World} {xs : List (List Lb)} {y : List Lb} {v v' u : Value} {news : List Value} (hF : Flat RLbs 1 (fun b => P b ∧ v.ownBlock ≠ some b) w xs news) (hy : RLbs (fun b => P b ∧ v.ownBlock ≠ some b) w y [u])
    (hown : w'.ownsRow base 22 1 v' (xs.length + 1) (news ++ [u])) (hg : w.grownBy w' v.ownBlock) (hat : v'.ownBlock = v.ownBlock ∨ v'.ownBlock = some w.heap.size) : ROwn RLbs 1 22 base P w' (xs ++ [y]) v' :=
  ROwn.push RLbs.good hF (Flat.single hy rfl) hown hg hat

set_option maxHeartbeats 1000000 in
set_option maxRecDepth 100000 in
theorem musts_c (P S : Nat → Prop) (s : Sy) (hok : okSyP s) (g : Nat) (sts : List Int) (v : Value) (w : World) (hS : IsSys P w g s) (hP : ∀ b, w.heap.size ≤ b → P b) (hl : RSl RInt 1 S w sts [v]) (hlen : sts.length ≤ 1000000) :
    Calls Tryz.prog 80 #[.pointer (some ⟨g, 0, none⟩), v] w (MustPost P (mustsL s sts) w) := by
  obtain ⟨A0, c0, rfl, _, _⟩ := hl.val
  have HS : Hid (IsSys (fun b => P b ∧ b < w.heap.size) w g s) := hS.mono fun b hb h => ⟨h, hb⟩
  have HL := Lib.hid hl
  clear hS hl
  by_cases h0 : sts = []
  · subst h0
    have HV : Hid (mustsL s [] = some []) := rfl
    go_enter Tryz.func80, Tryz.ntmps80
    go_wp2_with fail
    go_ret2
    rw [HV.out]
    exact ⟨none, 0, rfl, ROwn.nil .., Ext.refl _⟩
  have hne : ((sts.length : Int) == 0) = false := beq_eq_false_iff_ne.2 fun e => h0 (List.length_eq_zero_iff.1 (by omega))
  have HV : Hid (mustsL s sts = mustsGo (cmpctS (sortS (sts.map (accL s)))) [[]]) := if_neg h0
  have hlb := infoLbsa
  obtain ⟨i3, hi3, hzz⟩ := Option.map_eq_some_iff.1 hlb
  simp only [Prod.mk.injEq] at hzz
  obtain ⟨hz0, hz1, hz2⟩ := hzz
  clear h0 hlb
  go_enter Tryz.func80, Tryz.ntmps80
  go_wp2_with fail
  go_loopw [6, 22] (fun vo vi wr => ∃ (k : Nat) (A : Option Addr) (c : Nat), k ≤ sts.length ∧ vi = .int .i64 k ∧ vo = .slice A k c ∧ ROwn RLbs 1 22 w.heap.size P wr ((sts.take k).map (accL s)) (.slice A k c) ∧ Ext w wr) (fun _ vi _ => sts.length - (intOf vi).toNat)
  case atStart => exact ⟨0, none, 0, Nat.zero_le _, rfl, rfl, ROwn.nil .., Ext.refl _⟩
  case round =>
    obtain ⟨k, A, c, hk, rfl, rfl, hown, hE⟩ := hrel
    by_cases hlt : k < sts.length
    · obtain ⟨b, off, cs, rfl, hb, hT, hl, hr, hcell⟩ := ((RSl.good RInt.good).bel HL.out hE).get k hlt
      obtain ⟨rfl, hi⟩ := hr
      have g0 := (by simpa using hcell.get 0 _ : wr.cell? ⟨b, off + k, none⟩ = some (.int .i64 sts[k]))
      have hac := accepts_c (fun b => P b ∧ b < w.heap.size) s hok g sts[k] wr hi (HS.out.bel hE)
      have hkl : Hid ((sts.take k).length = k) := by show _ = _; rw [List.length_take]; omega
      have hst : Hid ((sts.take (k + 1)).map (accL s) = (sts.take k).map (accL s) ++ [accL s sts[k]]) := by show _ = _; rw [List.take_succ_eq_append_getElem hlt, List.map_append]; rfl
      have HO := Lib.hid hown
      have hob := fun q hq => hown.own_lt (b := q) hq
      clear hcell hl hT hown
      go_wp2_with fail
      refine hac.mono ?_
      rintro e w3 ⟨A3, c3, rfl, ho3, hx3⟩
      have ho4 := HO.out.ext RLbs.good (hx3.alloc (.cells #[.slice A3 (accL s sts[k]).length c3] 22))
      obtain ⟨news, hrow, hF⟩ := ho4
      have hcc := cells_new w3 #[.slice A3 (accL s sts[k]).length c3] 22
      have hy : RLbs (fun b => P b ∧ (Value.slice A k c).ownBlock ≠ some b) (w3.alloc (.cells #[.slice A3 (accL s sts[k]).length c3] 22)) (accL s sts[k]) [.slice A3 (accL s sts[k]).length c3] :=
        RLbs.good.bel (RLbs.good.mono (ho3.sl RLb.good (by decide)) fun q _ hq => ⟨hq.elim (fun h => h.1.1) fun h => hP q (by have := hE.size; omega), fun e => by
          have := hob q e
          rcases hq with h | h
          · have h' : q < w.heap.size := h.1.2; omega
          · omega⟩) ((Ext.refl _).alloc _)
      have HF := Lib.hid hF
      have HY := Lib.hid hy
      have hsz3 := hx3.size
      have hszE := hE.size
      rw [List.length_map, hkl.out] at hrow
      clear hF hy ho3 hac
      go_wp2_with (at_builtin; refine wpList_append_own_at _ rfl _ _ 30 rfl w.heap.size 22 i3 _ 1 24 Tryz.underlying30 hi3 hz0 hz1 hz2 rfl (by decide) _ _ _ rfl hrow ⟨w3.heap.size, 0, none⟩ 1 1 [.slice A3 (accL s sts[k]).length c3] rfl rfl hcc (by simp [Value.oneCell']) (by unfold maxLen; omega) (by omega) (by simp; omega) ?_; intro v5 w5 hown5 hgrow5 hnil5 hat5; obtain ⟨g5, c5, rfl⟩ := ownsRow_succ hown5)
      have hp5 := Lib.hid (sets_push HF.out HY.out (by rw [List.length_map, hkl.out]; exact hown5) hgrow5 hat5)
      have hX5 : Ext w w5 := Below.grown ((hE.trans' hx3).alloc _) hgrow5 (by simp; omega) fun q hq => (hob q hq).1
      clear hown5 hgrow5 hat5 hnil5 hrow hcc
      go_wp2_with fail
      go_roundw
      case rel => exact ⟨k + 1, some ⟨g5, 0, none⟩, c5, by omega, by go_num, rfl, by rw [hst.out]; exact hp5.out, hX5⟩
      case measure => simp [intOf]; omega
    · obtain rfl : k = sts.length := by omega
      rw [List.take_length] at hown
      obtain ⟨wa, rfl⟩ : ∃ wa, wa = wr := ⟨_, rfl⟩
      obtain ⟨ac, hac⟩ : ∃ ac, sts.map (accL s) = ac := ⟨_, rfl⟩
      have hacl : ac.length = sts.length := by rw [← hac, List.length_map]
      have hace : ∀ a ∈ ac, a.length ≤ 4000 := fun a ha => by
        rw [← hac] at ha
        obtain ⟨t, _, rfl⟩ := List.mem_map.1 ha
        have := accL_len s t
        have := hok.2.2.1
        omega
      have HV2 : Hid (mustsL s sts = mustsGo (cmpctS (sortS ac)) [[]]) := by show _ = _; rw [HV.out, hac]
      rw [hac] at hown
      have hob := fun q hq => hown.own_lt (b := q) hq
      have hs := sortS_own w.heap.size _ ac _ wa hown (by omega)
      have hc1 := fun W (hW : ROwn RLbs 1 22 w.heap.size P W (sortS ac) (.slice A sts.length c)) => compactLbs_c w.heap.size _ (sortS ac) _ W hW (by rw [sortS_len]; omega)
      have HACL := Lib.hid hacl
      clear hacl hac hown HV
      go_wp2_with fail
      refine hs.mono ?_
      rintro e w1 ⟨rfl, ho1, hb1⟩
      have ho1' := ho1.ext RLbs.good ((Ext.refl w1).alloc (.cells #[.slice none 0 0] 22))
      go_wp2_with fail
      refine (hc1 _ ho1').mono ?_
      rintro e w2 ⟨A2, c2, rfl, ho2, hb2⟩
      have hz1 := hb1.size
      have hz2 := hb2.size
      simp only [World.size_alloc] at hz2
      have hlit : ROwn RLbs 1 22 w.heap.size P w2 [[]] (.slice (some ⟨w1.heap.size, 0, none⟩) 1 1) := by
        have h1 := World.ownsRow_lit (base := w.heap.size) (e := 22) (size := 1) w1 #[.slice none 0 0] 1 (by have := hE.size; omega) (by decide) rfl
        have h2 : ROwn RLbs 1 22 w.heap.size (fun _ => False) (w1.alloc (.cells #[.slice none 0 0] 22)) [[]] (.slice (some ⟨w1.heap.size, 0, none⟩) 1 1) := ⟨[.slice none 0 0], h1, [.slice none 0 0], [], rfl, rfl, ⟨none, 0, rfl, Nat.le_refl _, by decide, .inl rfl⟩, rfl⟩
        refine (h2.bt RLbs.good hb2 fun b _ hz => ⟨fun h => h, fun e => ?_⟩).mono RLbs.good fun _ _ h => h.elim
        have h3 := (hob b hz).2
        have h4 : w1.heap.size = b := by simpa [Value.ownBlock] using e
        omega
      obtain ⟨acs, hacs⟩ : ∃ acs, cmpctS (sortS ac) = acs := ⟨_, rfl⟩
      have hacn : acs.length ≤ 1000000 := by rw [← hacs]; have := cmpctS_len (sortS ac); rw [sortS_len, HACL.out] at this; omega
      have hace2 : ∀ a ∈ acs, a.length ≤ 4000 := fun a ha => hace a ((sortB_mem ac a).1 (compactB_mem eqSets _ a (by rw [← hacs] at ha; exact ha)))
      have hX2 : Ext w w2 := Bt.new (Z := fun b => w.heap.size ≤ b) hE (((hb1.mono fun b _ h => (hob b h).1).trans ((Bt.refl _ _).alloc _)).trans (hb2.mono fun b _ h => (hob b h).1)) fun _ _ h => h
      rw [hacs] at ho2 HV2 ⊢
      have HO2 := Lib.hid ho2
      have HLIT := Lib.hid hlit
      clear hacs hlit ho2 ho1 ho1' hs hc1 hb1 hb2 HACL hace hob hz1 hz2
      go_wp2_with fail
      go_loopw [9, 39] (fun vl vi wr => ∃ (k : Nat) (A : Option Addr) (c : Nat) (ls : List (List Lb)), k ≤ acs.length ∧ vi = .int .i64 k ∧ vl = .slice A ls.length c ∧ ROwn RLbs 1 22 w.heap.size P wr ls (.slice A ls.length c) ∧ ls.length ≤ 2000 ∧ (∀ m ∈ ls, m.length ≤ 64) ∧ Hid (mustsGo (acs.drop k) ls = mustsGo acs [[]]) ∧ Ext w2 wr) (fun _ vi _ => acs.length - (intOf vi).toNat)
      case atStart => exact ⟨0, some ⟨w1.heap.size, 0, none⟩, 1, [[]], Nat.zero_le _, rfl, rfl, HLIT.out, by decide, by simp, rfl, Ext.refl _⟩
      case round =>
        obtain ⟨k, A, c, ls, hk, rfl, rfl, hown, hln, hlm, hgo, hE2⟩ := hrel
        by_cases hlt : k < acs.length
        · obtain ⟨b, off, cs, rfl, hb, hT, hl, hr, hcell⟩ := ((RSl.good RLbs.good).bel ((RSl.good RLbs.good).mono (S' := fun b => P b ∧ b < w2.heap.size) (HO2.out.sl RLbs.good (by decide)) fun b hb h => ⟨h.elim id (hP b), hb⟩) hE2).get k hlt
          obtain ⟨Aa, ca, rfl, hra0, hra1, _⟩ := id hr
          have g0 := (by simpa using hcell.get 0 _ : wr.cell? ⟨b, off + k, none⟩ = some (.slice Aa acs[k].length ca))
          have ha := hace2 _ (List.getElem_mem hlt)
          obtain ⟨a, haa⟩ : ∃ a, acs[k] = a := ⟨_, rfl⟩
          have hstep : mustsGo (acs.drop k) ls = if tooMany (nextS ls a) then none else mustsGo (acs.drop (k + 1)) (leastS (nextS ls a)) := by rw [List.drop_eq_getElem_cons hlt, mustsGo, haa]
          rw [haa] at ha hr g0
          have HST := Lib.hid hstep
          have HRA := Lib.hid hr
          have HLS := Lib.hid hown
          have hob := fun q hq => hown.own_lt (b := q) hq
          obtain ⟨wb, rfl⟩ : ∃ wb, wb = wr := ⟨_, rfl⟩
          have hwb : w.heap.size ≤ wb.heap.size := by have := hX2.size; have := hE2.size; omega
          clear hstep hr hown hcell hl hT haa
          go_wp2_with fail
          go_loopw [12, 45] (fun vn vi wr => ∃ (i : Nat) (A' : Option Addr) (c' : Nat), i ≤ ls.length ∧ vi = .int .i64 i ∧ vn = .slice A' (nextRaw (ls.take i) a).length c' ∧ ROwn RLbs 1 22 wb.heap.size P wr (nextRaw (ls.take i) a) (.slice A' (nextRaw (ls.take i) a).length c') ∧ Ext wb wr) (fun _ vi _ => ls.length - (intOf vi).toNat)
          case atStart => exact ⟨0, none, 0, Nat.zero_le _, rfl, rfl, ROwn.nil .., Ext.refl _⟩
          case round =>
            obtain ⟨i, A', c', hi, rfl, rfl, hown, hE3⟩ := hrel
            by_cases hlt3 : i < ls.length
            · have hls2 := (RSl.good RLbs.good).mono (HLS.out.sl RLbs.good (by decide)) (S' := fun b => P b ∧ b < wb.heap.size) fun b hb h => ⟨h.elim id (hP b), hb⟩
              obtain ⟨b2, off2, cs2, rfl, hb2, hT2, hl2, hr2, hcell2⟩ := hls2.get i hlt3
              obtain ⟨Am, cm, rfl, hm0, hm1, _⟩ := id hr2
              have g2 := Ext.keep hE3 (by simpa using hcell2.get 0 _ : wb.cell? ⟨b2, off2 + i, none⟩ = some (.slice Am ls[i].length cm))
              have hml := hlm _ (List.getElem_mem hlt3)
              have hnt := nextRaw_take ls a i hlt3
              obtain ⟨m, hmm⟩ : ∃ m, ls[i] = m := ⟨_, rfl⟩
              rw [hmm] at hml hr2 g2 hnt
              have hrl := nextRaw_len a ha (ls.take i)
              rw [List.length_take, Nat.min_eq_left (by omega)] at hrl
              have HR2 := Lib.hid hr2
              have HNT := Lib.hid hnt
              have HOW := Lib.hid hown
              have hob3 := fun q hq => hown.own_lt (b := q) hq
              have hcom := common_c (fun _ => True) m a _ _ wr (RLbs.good.mono (RLbs.good.bel hr2 hE3) fun _ _ _ => trivial) (RLbs.good.mono (RLbs.good.bel HRA.out hE3) fun _ _ _ => trivial) (by omega)
              have hnr : (nextRaw (ls.take i) a).length ≤ 8000000 := by omega
              clear hr2 hnt hown hcell2 hl2 hT2 hls2 hmm hrl
              by_cases hco : comB m a = true
              · rw [hco] at hcom
                have hst : Hid (nextRaw (ls.take (i + 1)) a = nextRaw (ls.take i) a ++ [m]) := by show _ = _; rw [HNT.out, stepRow, if_pos hco]
                clear hco
                go_wp2_with fail
                refine hcom.mono ?_
                rintro e w3 ⟨rfl, hx3⟩
                have ho4 := HOW.out.ext RLbs.good (hx3.alloc (.cells #[.slice Am m.length cm] 22))
                obtain ⟨news, hrow, hF⟩ := ho4
                have hcc := cells_new w3 #[.slice Am m.length cm] 22
                have hy : RLbs (fun b => P b ∧ (Value.slice A' (nextRaw (ls.take i) a).length c').ownBlock ≠ some b) (w3.alloc (.cells #[.slice Am m.length cm] 22)) m [.slice Am m.length cm] :=
                  RLbs.good.bel (RLbs.good.mono HR2.out fun q _ hq => ⟨hq.1, fun e => by have := (hob3 q e).1; have h' : q < wb.heap.size := hq.2; omega⟩) ((hE3.trans' hx3).alloc _)
                have HF := Lib.hid hF
                have HY := Lib.hid hy
                have hsz3 := hx3.size
                have hszE := hE3.size
                clear hF hy hcom
                go_wp2_with (at_builtin; refine wpList_append_own_at _ rfl _ _ 30 rfl wb.heap.size 22 i3 _ 1 24 Tryz.underlying30 hi3 hz0 hz1 hz2 rfl (by decide) _ _ _ rfl hrow ⟨w3.heap.size, 0, none⟩ 1 1 [.slice Am m.length cm] rfl rfl hcc (by simp [Value.oneCell']) (by unfold maxLen; omega) (by omega) (by simp; omega) ?_; intro v5 w5 hown5 hgrow5 hnil5 hat5; obtain ⟨g5, c5, rfl⟩ := ownsRow_succ hown5)
                have hp5 := Lib.hid (sets_push HF.out HY.out hown5 hgrow5 hat5)
                have hX5 : Ext wb w5 := Below.grown ((hE3.trans' hx3).alloc _) hgrow5 (by simp; omega) fun q hq => (hob3 q hq).1
                clear hown5 hgrow5 hat5 hnil5 hrow hcc
                go_wp2_with fail
                go_roundw
                case rel => exact ⟨i + 1, some ⟨g5, 0, none⟩, c5, by omega, by go_num, by rw [hst.out, List.length_append]; rfl, by rw [hst.out, List.length_append]; exact hp5.out, hX5⟩
                case measure => simp [intOf]; omega
              · rw [eq_false_of_ne_true hco] at hcom
                have hst : Hid (nextRaw (ls.take (i + 1)) a = nextRaw (ls.take i) a ++ a.map (addL m)) := by show _ = _; rw [HNT.out, stepRow, if_neg hco]
                clear hco
                obtain ⟨wc, rfl⟩ : ∃ wc, wc = wr := ⟨_, rfl⟩
                go_wp2_with fail
                refine hcom.mono ?_
                rintro e w3 ⟨rfl, hx3⟩
                have hX3 := hE3.trans' hx3
                clear hcom
                obtain ⟨rj, hrj⟩ : ∃ rj : Nat → List (List Lb), rj = fun j => nextRaw (ls.take i) a ++ (a.take j).map (addL m) := ⟨_, rfl⟩
                have hr0 : Hid (rj 0 = nextRaw (ls.take i) a) := by show _ = _; rw [hrj]; simp
                have hr1 : Hid (∀ j, (h : j < a.length) → rj (j + 1) = rj j ++ [addL m a[j]]) := by
                  intro j h
                  rw [hrj]
                  simp only
                  rw [List.take_succ_eq_append_getElem h, List.map_append, List.append_assoc]
                  rfl
                have hr2 : Hid (rj a.length = nextRaw (ls.take (i + 1)) a) := by show _ = _; rw [hst.out, hrj]; simp only [List.take_length]
                have hr3 : Hid (∀ j, (rj j).length ≤ 8000000 + 4000) := by
                  intro j
                  rw [hrj]
                  simp only [List.length_append, List.length_map, List.length_take]
                  omega
                clear hrj
                go_wp2_with fail
                go_loopw [12, 58] (fun vn vi wr => ∃ (j : Nat) (A4 : Option Addr) (c4 : Nat), j ≤ a.length ∧ vi = .int .i64 j ∧ vn = .slice A4 (rj j).length c4 ∧ ROwn RLbs 1 22 wb.heap.size P wr (rj j) (.slice A4 (rj j).length c4) ∧ Ext wb wr) (fun _ vi _ => a.length - (intOf vi).toNat)
                case atStart => exact ⟨0, A', c', Nat.zero_le _, rfl, by rw [hr0.out], by rw [hr0.out]; exact HOW.out.ext RLbs.good hx3, hX3⟩
                case round =>
                  obtain ⟨j, A4, c4, hj, rfl, rfl, hown4, hE4⟩ := hrel
                  have hlj := hr3.out j
                  by_cases hlt4 : j < a.length
                  · obtain ⟨b5, off5, cs5, rfl, hb5, hT5, hl5, hr5, hcell5⟩ := (RLbs.good.bel HRA.out hE4).get j hlt4
                    obtain ⟨hxi, vx, rfl, hvx⟩ := id hr5
                    have a0 := hcell5.get 0 _
                    have a1 := hcell5.get 1 _
                    simp only [Nat.add_zero] at a0
                    obtain ⟨Ax, cx, rfl, _, _⟩ := hvx.val
                    have hst4 := Lib.hid (hr1.out j hlt4)
                    obtain ⟨x, hxx⟩ : ∃ x, a[j] = x := ⟨_, rfl⟩
                    rw [hxx] at hr5 a0 a1
                    have HST4 : Hid (rj (j + 1) = rj j ++ [addL m x]) := by show _ = _; rw [hst4.out, hxx]
                    have hw2b : w2.heap.size ≤ wb.heap.size := hE2.size
                    have had := added_c (fun b => P b ∧ b < wb.heap.size) m x (.slice Am m.length cm) (.slice Ax x.v.length cx) (wr.alloc (.cells #[.int .i64 x.g, .slice Ax x.v.length cx] 61))
                      (RLbs.good.bel HR2.out (hE4.alloc _)) (RLb.good.bel (RLb.good.mono hr5 fun q _ hq => ⟨hq.1, Nat.lt_of_lt_of_le hq.2 hw2b⟩) ((Ext.refl _).alloc _)) (by omega)
                    have hob4 := fun q hq => hown4.own_lt (b := q) hq
                    have HOW4 := Lib.hid hown4
                    clear hcell5 hl5 hT5 hr5 hvx hst4 hown4
                    clear hxx
                    go_wp2_with fail
                    refine had.mono ?_
                    rintro e w6 ⟨A6, c6, rfl, ho6, hx6⟩
                    have hx6' := Ext.trans' ((Ext.refl wr).alloc _) hx6
                    have ho7 := HOW4.out.ext RLbs.good (hx6'.alloc (.cells #[.slice A6 (addL m x).length c6] 22))
                    obtain ⟨news, hrow, hF⟩ := ho7
                    have hcc := cells_new w6 #[.slice A6 (addL m x).length c6] 22
                    have hsz6 := hx6'.size
                    have hszE := hE4.size
                    have hszE3 := hE3.size
                    have hy : RLbs (fun b => P b ∧ (Value.slice A4 (rj j).length c4).ownBlock ≠ some b) (w6.alloc (.cells #[.slice A6 (addL m x).length c6] 22)) (addL m x) [.slice A6 (addL m x).length c6] :=
                      RLbs.good.bel (RLbs.good.mono (ho6.sl RLb.good (by decide)) fun q _ hq => ⟨hq.elim (fun h => h.1.1) fun h => hP q (by simp at h; omega), fun e => by
                        have := hob4 q e
                        rcases hq with h | h
                        · have h' : q < wb.heap.size := h.1.2; omega
                        · simp at h; omega⟩) ((Ext.refl _).alloc _)
                    have HF := Lib.hid hF
                    have HY := Lib.hid hy
                    clear hF hy had ho6
                    go_wp2_with (at_builtin; refine wpList_append_own_at _ rfl _ _ 30 rfl wb.heap.size 22 i3 _ 1 24 Tryz.underlying30 hi3 hz0 hz1 hz2 rfl (by decide) _ _ _ rfl hrow ⟨w6.heap.size, 0, none⟩ 1 1 [.slice A6 (addL m x).length c6] rfl rfl hcc (by simp [Value.oneCell']) (by unfold maxLen; omega) (by omega) (by simp; omega) ?_; intro v8 w8 hown8 hgrow8 hnil8 hat8; obtain ⟨g8, c8, rfl⟩ := ownsRow_succ hown8)
                    have hp8 := Lib.hid (sets_push HF.out HY.out hown8 hgrow8 hat8)
                    have hX8 : Ext wb w8 := Below.grown ((hE4.trans' hx6').alloc _) hgrow8 (by simp; omega) fun q hq => (hob4 q hq).1
                    clear hown8 hgrow8 hat8 hnil8 hrow hcc
                    go_wp2_with fail
                    go_roundw
                    case rel => exact ⟨j + 1, some ⟨g8, 0, none⟩, c8, by omega, by go_num, by rw [HST4.out, List.length_append]; rfl, by rw [HST4.out, List.length_append]; exact hp8.out, hX8⟩
                    case measure => simp [intOf]; omega
                  · obtain rfl : j = a.length := by omega
                    rw [hr2.out] at hown4
                    have hr4 := Lib.hid hr2
                    have HOW4 := Lib.hid hown4
                    clear hown4
                    go_wp2_with fail
                    go_roundw
                    case rel => exact ⟨i + 1, A4, c4, by omega, by go_num, by rw [hr4.out.out], HOW4.out, hE4⟩
                    case measure => simp [intOf]; omega
            · obtain rfl : i = ls.length := by omega
              rw [List.take_length] at hown ⊢
              have hob3 := fun q hq => hown.own_lt (b := q) hq
              have hrl := nextRaw_len a ha ls
              have hnr : (nextRaw ls a).length ≤ 8000000 := by omega
              obtain ⟨nr, hnre⟩ : ∃ nr, nextRaw ls a = nr := ⟨_, rfl⟩
              have hns : Hid (nextS ls a = cmpctS (sortS nr)) := by show _ = _; rw [nextS, hnre]
              rw [hnre] at hown hob3 hnr ⊢
              clear hrl hnre
              have hs := sortS_own wb.heap.size _ nr _ wr hown (by omega)
              have hc1 := fun W (hW : ROwn RLbs 1 22 wb.heap.size P W (sortS nr) (.slice A' nr.length c')) => compactLbs_c wb.heap.size _ (sortS nr) _ W hW (by rw [sortS_len]; omega)
              obtain ⟨n, hn⟩ : ∃ n, cmpctS (sortS nr) = n := ⟨_, rfl⟩
              rw [hn] at hc1
              have HN : Hid (nextS ls a = n) := by show _ = _; rw [hns.out, hn]
              clear hn hown hns
              go_wp2_with fail
              refine hs.mono ?_
              rintro e w3 ⟨rfl, ho3, hb3⟩
              go_wp2_with fail
              refine (hc1 _ ho3).mono ?_
              rintro e w4 ⟨A4, c4, rfl, ho4, hb4⟩
              have hX4 : Ext wb w4 := Bt.new (Z := fun b => wb.heap.size ≤ b) hE3 ((hb3.mono fun b _ h => (hob3 b h).1).trans (hb4.mono fun b _ h => (hob3 b h).1)) fun _ _ h => h
              have hXw4 : Ext w w4 := hX2.trans' (hE2.trans' hX4)
              have hcon := conPLbs (fun m => decide (64 < m.length)) (fun _ => True) w4 n _ ((RSl.good RLbs.good).mono (ho4.sl RLbs.good (by decide)) fun _ _ _ => trivial) 148 #[] eg148 (fun m hm cs W hW hr => by
                obtain ⟨Am, cm, rfl, _⟩ := id hr
                exact musts1_c _ m _ W hr)
              have HO4 := Lib.hid ho4
              clear ho4 ho3 hb3 hb4 hs hc1
              by_cases hbig : 2000 < n.length
              · have hz := decide_eq_true (show (2000 : Int) < (n.length : Int) by omega)
                have HF : Hid (mustsL s sts = none) := by show _ = _; rw [HV2.out, ← hgo.out, HST.out, HN.out, if_pos (by simp [tooMany, hbig])]
                clear hcon
                go_wp2_with fail
                go_ret2
                rw [HF.out]
                exact ⟨none, 0, rfl, ROwn.nil .., hXw4⟩
              have hz := decide_eq_false (show ¬ (2000 : Int) < (n.length : Int) by omega)
              by_cases hany : (n.any fun m => decide (64 < m.length)) = true
              · have HF : Hid (mustsL s sts = none) := by show _ = _; rw [HV2.out, ← hgo.out, HST.out, HN.out, if_pos (by simp only [tooMany, hany, Bool.or_true])]
                rw [hany] at hcon
                clear hany
                go_wp2_with fail
                refine hcon.mono ?_
                rintro e w5 ⟨rfl, hx5⟩
                go_wp2_with fail
                go_ret2
                rw [HF.out]
                exact ⟨none, 0, rfl, ROwn.nil .., hXw4.trans' hx5⟩
              · have htm : tooMany n = false := by simp only [tooMany, eq_false_of_ne_true hany, decide_eq_false hbig, Bool.or_false]
                have hok2 := tooMany_no htm
                have hgo2 : Hid (mustsGo (acs.drop (k + 1)) (leastS n) = mustsGo acs [[]]) := by show _ = _; rw [← hgo.out, HST.out, HN.out, if_neg (by rw [htm]; decide)]
                rw [eq_false_of_ne_true hany] at hcon
                clear hany htm
                go_wp2_with fail
                refine hcon.mono ?_
                rintro e w5 ⟨rfl, hx5⟩
                have ho5 := HO4.out.ext RLbs.good hx5
                have hob5 := fun q hq => ho5.own_lt (b := q) hq
                have hle := least_c P wb.heap.size (fun b hb => hP b (by omega)) n _ w5 ho5 (by have := hX4.size; have := hx5.size; omega) (by omega) (fun m hm => Nat.le_trans (hok2.2 m hm) (by decide))
                clear ho5 hcon
                go_wp2_with fail
                refine hle.mono ?_
                rintro e w6 ⟨A6, c6, rfl, ho6, hb6⟩
                have hX6 : Ext wb w6 := Bt.new (hX4.trans' hx5) hb6 fun b _ h => (hob5 b h).1
                have HO6 := Lib.hid ho6
                have hll := leastS_len n
                have hz5 : w.heap.size ≤ w5.heap.size := by have := hXw4.size; have := hx5.size; omega
                clear ho6 hle hb6
                go_wp2_with fail
                go_roundw
                case rel => exact ⟨k + 1, A6, c6, leastS n, by omega, by go_num, rfl, HO6.out.base hz5, by omega, fun m hm => hok2.2 m (leastS_mem n m hm), hgo2.out, hE2.trans' hX6⟩
                case measure => simp [intOf]; omega
        · obtain rfl : k = acs.length := by omega
          have hfin : Hid (mustsL s sts = some ls) := by show _ = _; rw [HV2.out, ← hgo.out, List.drop_length, mustsGo]
          have HO := Lib.hid hown
          clear hown
          go_wp2_with fail
          go_ret2
          rw [hfin.out]
          exact ⟨A, c, rfl, HO.out, hX2.trans' hE2⟩
end Go.Proofs.YtegenalcheooeaaGreat

