/- Of the proof of a law of the suites: Verdicts. -/
import Derived.Test.YtegenalcheooeaaGreatB10
import Derived.Test.YtegenalcheooeaaGreatB36
import Derived.Maps.RangeRun
/- suite.Verdicts: walked (a range over a map, in whatever order). -/
set_option linter.unusedSectionVars false
set_option linter.unusedSimpArgs false
set_option linter.unusedVariables false
namespace Go.Proofs.YtegenalcheooeaaGreat
open Go.RowKit
attribute [local go_sem] cell?_exto
open Go.Shelf

def verdB (s : Sy) (t : Te) (n : Int) : Bool := if n = 1 then passB s t else if n = 2 then failB s t else openB s t
def verdL (s : Sy) (t : Te) : List Int := [1, 2, 3].filter (verdB s t)
/-- What has been collected behind the entries 'seen'. -/
def outV (s : Sy) (t : Te) (seen : List Nat) : List Int := (seen.map fun i : Nat => (i : Int) + 1).filter (verdB s t)
theorem sortI_of {xs l : List Int} (hp : xs.Perm l) (hs : Srt cmpI l) : sortI xs = l := by
  refine srt_unique ordI ((sortI_perm xs).trans hp) ?_ hs
  have h := sortI_sorted xs
  exact h.imp fun {a b} h => by
    have h' : a ≤ b := h
    unfold cmpI
    split
    · omega
    · split <;> omega
theorem outV_all (s : Sy) (t : Te) (seen : List Nat) (hn : seen.Nodup) (h3 : ∀ x ∈ seen, x < 3) (ha : ∀ i, i < 3 → i ∈ seen) : sortI (outV s t seen) = verdL s t := by
  refine sortI_of ?_ ?_
  · have hp : seen.Perm [0, 1, 2] := by
      rw [List.perm_ext_iff_of_nodup hn (by decide)]
      intro x
      constructor
      · intro hx
        have := h3 x hx
        simp
        omega
      · intro hx
        refine ha x ?_
        simp at hx
        omega
    exact (hp.map _).filter _
  · exact List.Pairwise.filter _ (show Srt cmpI [1, 2, 3] from by unfold Srt; decide)

theorem seen_len {seen : List Nat} (hn : seen.Nodup) (h3 : ∀ x ∈ seen, x < 3) : seen.length ≤ 3 := by
  have hp : seen.Perm ([0, 1, 2].filter fun x => decide (x ∈ seen)) := by
    rw [List.perm_ext_iff_of_nodup hn (List.Pairwise.filter _ (by decide))]
    intro x
    constructor
    · intro hx
      have := h3 x hx
      simp [hx]
      omega
    · intro hx
      simpa using (List.mem_filter.1 hx).2
  rw [hp.length_eq]
  exact List.length_filter_le _ _
theorem VM_left {seen : List Nat} (h : (leftOf VM seen.toArray).size = 0) : ∀ i, i < 3 → i ∈ seen := by
  intro i hi
  have h' : leftOf VM seen.toArray = #[] := Array.eq_empty_of_size_eq_zero h
  unfold leftOf at h'
  rw [Array.filter_eq_empty_iff] at h'
  match i, hi with
  | 0, _ => simpa using h' { key := .int .i64 1, val := .func (.func 168) #[] #[], born := 0 } (by simp [VM])
  | 1, _ => simpa using h' { key := .int .i64 2, val := .func (.func 170) #[] #[], born := 1 } (by simp [VM])
  | 2, _ => simpa using h' { key := .int .i64 3, val := .func (.func 171) #[] #[], born := 2 } (by simp [VM])

/-- What an entry's function tells. -/
theorem VM_at (s : Sy) (hok : okSyP s) (g : Nat) (t : Te) (v u : Value) (hn : NTe t) (seen : List Nat) (e : MapEntry) (he : e ∈ (leftOf VM seen.toArray).toList) :
    ∃ i f : Nat, i < 3 ∧ i ∉ seen ∧ e = { key := .int .i64 ((i : Int) + 1), val := .func (.func f) #[] #[], born := i } ∧ (∀ args w, (callFunc f args).run Tryz.prog w = .ok (.enter f args) w) ∧
      ∀ w, IsSys (fun _ => True) w g s → RLbs (fun _ => True) w t.tr [v] → RLbs (fun _ => True) w t.mu [u] → Calls Tryz.prog f #[.pointer (some ⟨g, 0, none⟩), .agg #[v, u]] w fun e w' => e = .returned (.bool (verdB s t ((i : Int) + 1))) ∧ Ext w w' := by
  simp only [leftOf, Array.mem_toList_iff, Array.mem_filter] at he
  obtain ⟨h1, h2⟩ := he
  simp only [VM, List.mem_toArray, List.mem_cons, List.not_mem_nil, or_false] at h1
  rcases h1 with rfl | rfl | rfl
  · exact ⟨0, 168, by decide, by simpa using h2, rfl, enters_of Tryz.func168 (by kernel_rfl) rfl, fun w hS h1 h2 => pass_c _ s hok g t v u w hS h1 h2 hn.1 hn.2⟩
  · exact ⟨1, 170, by decide, by simpa using h2, rfl, enters_of Tryz.func170 (by kernel_rfl) rfl, fun w hS h1 h2 => fail_c _ s hok g t v u w hS h1 h2 hn.1 hn.2⟩
  · exact ⟨2, 171, by decide, by simpa using h2, rfl, enters_of Tryz.func171 (by kernel_rfl) rfl, fun w hS h1 h2 => open_c _ s hok g t v u w hS h1 h2 hn.1⟩

/-- A step of the range. -/
theorem VM_next (s : Sy) (hok : okSyP s) (g : Nat) (t : Te) (v u : Value) (hn : NTe t) (w W : World) (r m : Nat) (seen : List Nat) (ty : TypeId) (hE : Ext w W) (hr : w.heap.size ≤ r) (hi : W.heap[r]? = some (.mapIter (some m) 3 seen.toArray 3)) (hm : W.heap[m]? = some (.map VM 3)) :
    ((∀ i, i < 3 → i ∈ seen) ∧ (Instr.next (.pointer (some ⟨r, 0, none⟩)) false ty).run Tryz.prog W = .ok (.tuple #[.bool false]) W) ∨
    ∃ (i f : Nat) (W' : World), i < 3 ∧ i ∉ seen ∧ (∀ args w, (callFunc f args).run Tryz.prog w = .ok (.enter f args) w) ∧
      (Instr.next (.pointer (some ⟨r, 0, none⟩)) false ty).run Tryz.prog W = .ok (.tuple #[.bool true, .int .i64 ((i : Int) + 1), .func (.func f) #[] #[]]) W' ∧
      (Instr.entry (.pointer (some ⟨r, 0, none⟩))).run Tryz.prog W' = .ok (.tuple #[.int .i64 ((i : Int) + 1), .func (.func f) #[] #[]]) W' ∧
      (∀ w, IsSys (fun _ => True) w g s → RLbs (fun _ => True) w t.tr [v] → RLbs (fun _ => True) w t.mu [u] → Calls Tryz.prog f #[.pointer (some ⟨g, 0, none⟩), .agg #[v, u]] w fun e w' => e = .returned (.bool (verdB s t ((i : Int) + 1))) ∧ Ext w w') ∧
      Bt (fun q => q = r) W W' ∧ W'.heap.size = W.heap.size ∧ W'.heap[r]? = some (.mapIter (some m) 3 (seen ++ [i]).toArray 3) := by
  rcases run_next_at (P := Tryz.prog) W ty r m 3 3 seen.toArray VM 3 hi hm (by decide) (Nat.le_refl _) with ⟨h0, h1⟩ | ⟨e, he, w1, hw1, hrun⟩
  · exact .inl ⟨VM_left h0, h1⟩
  · right
    obtain ⟨i, f, hi3, hs, rfl, eg, hc⟩ := VM_at s hok g t v u hn seen e he
    have hsz : r < W.heap.size := (Array.getElem?_eq_some_iff.1 hi).1
    have hw1h : w1.heap = W.heap := by rcases hw1 with rfl | rfl <;> rfl
    have hw1o : w1.os = W.os ∧ w1.tape = W.tape ∧ w1.output = W.output := by rcases hw1 with rfl | rfl <;> exact ⟨rfl, rfl, rfl⟩
    have hne : m ≠ r := by
      rintro rfl
      rw [hi] at hm
      cases hm
    have hrr : (ChangeMaps.setBlock w1 r (.mapIter (some m) 3 (seen.toArray.push i) 3)).heap[r]? = some (.mapIter (some m) 3 (seen.toArray.push i) 3) := by
      simp [ChangeMaps.setBlock, hw1h, hsz]
    have hmm : (ChangeMaps.setBlock w1 r (.mapIter (some m) 3 (seen.toArray.push i) 3)).heap[m]? = some (.map VM 3) := by
      rw [← hm]
      simp [ChangeMaps.setBlock, hw1h, Array.getElem?_setIfInBounds, Ne.symm hne]
    refine ⟨i, f, _, hi3, hs, eg, hrun, run_entry_at _ r m 3 seen.toArray VM 3 { key := .int .i64 ((i : Int) + 1), val := .func (.func f) #[] #[], born := i } hrr hmm ?_ (by decide), hc, ⟨hw1o.1, hw1o.2.1, hw1o.2.2, by simp [ChangeMaps.setBlock, hw1h], fun k hk hkr => ?_⟩, by simp [ChangeMaps.setBlock, hw1h], ?_⟩
    · simp only [leftOf, Array.mem_toList_iff, Array.mem_filter] at he
      simpa using he.1
    · have : r ≠ k := fun e => hkr e.symm
      simp [ChangeMaps.setBlock, hw1h, Array.getElem?_setIfInBounds, this]
    · rw [hrr]
      simp

theorem rsl_oneTe {S : Nat → Prop} {w : World} {t : Te} {v u : Value} (ht : RTe S w t [v, u]) {n : Nat} (hn : n = w.heap.size) (hS : S w.heap.size) : RSl RTe 2 S (w.alloc (.cells #[v, u] 40)) [t] [.slice (some ⟨n, 0, none⟩) 1 1] := by
  subst hn
  exact ⟨_, 1, rfl, by simp, by decide, .inr ⟨w.heap.size, 0, rfl, by simp, hS, ⟨[v, u], rfl, RTe.good.bel ht ((Ext.refl w).alloc _), fun i x h => by have := cells_new w #[v, u] 40 i x h; rwa [Addr.add_lit] at this⟩, trivial⟩⟩

open Classical in
noncomputable def verdR (s : Sy) (t : Te) : List Int := if askE s [t] = 0 then verdL s t else []
def IntsPost (r : List Int) (err : Int) (w : World) (e : Ending) (w' : World) : Prop := ∃ A c, e = .returned (.tuple #[.slice A r.length c, .int .i64 err]) ∧ ROwn RInt 1 3 w.heap.size (fun _ => False) w' r (.slice A r.length c) ∧ Ext w w'
set_option maxHeartbeats 1000000 in
set_option maxRecDepth 100000 in
theorem Verdicts_c (S : Nat → Prop) (s : Sy) (cs cst : List Value) (t : Te) (w : World) (hx : RSy S w s cs) (ht : RTe S w t cst) :
    Calls Tryz.prog 31 #[.agg cst.toArray, .agg cs.toArray] w (IntsPost (verdR s t) (askE s [t]) w) := by
  obtain ⟨vt, vu, rfl, hvt, hvu⟩ := id ht
  have hak := fun W (hW : Ext w W) v (hv : RSl RTe 2 (fun _ => True) W [t] [v]) => asked_c (fun _ => True) s cs [t] v W (RSy.good.bel (RSy.good.mono hx fun _ _ _ => trivial) hW) hv
  have hte := fun W (hW : Ext w W) n (hn : n = W.heap.size) => rsl_oneTe (S := fun _ => True) (RTe.good.bel (RTe.good.mono ht fun _ _ _ => trivial) hW) hn trivial
  obtain ⟨_, vl, ve, rfl, hvl, hve⟩ := id hx
  obtain ⟨Al, cl, rfl, _, _⟩ := hvl.val
  obtain ⟨Ae, ce, rfl, _, _⟩ := hve.val
  obtain ⟨A, c, rfl, hc, hc0⟩ := hvt.val
  obtain ⟨A', c', rfl, hc', hc0'⟩ := hvu.val
  have HTR := Lib.hid hvt
  have HMU := Lib.hid hvu
  clear hx ht hvl hve hvt hvu
  by_cases hE : askE s [t] = 0
  case neg =>
    have hv : verdR s t = [] := if_neg hE
    rw [hv]
    obtain ⟨er, her⟩ : ∃ er, askE s [t] = er := ⟨_, rfl⟩
    rw [her] at hak hE ⊢
    have hE' : (er == 0) = false := beq_eq_false_iff_ne.2 hE
    clear her hv
    go_enter Tryz.func31, Tryz.ntmps31
    go_wp2_with fail
    refine (hak _ (by repeat (first | exact Ext.refl _ | apply Ext.alloc | apply Below.drew | apply Ext.drewN | refine Ext.trans' ?_ (by assumption) | refine Ext.trans' ?_ (ExtD.ext (by assumption)))) _ (hte _ (by repeat (first | exact Ext.refl _ | apply Ext.alloc | apply Below.drew | apply Ext.drewN | refine Ext.trans' ?_ (by assumption) | refine Ext.trans' ?_ (ExtD.ext (by assumption)))) _ (by simp))).mono ?_
    rintro e w1 ⟨_, h1⟩
    obtain ⟨rfl, hx1⟩ := h1 hE
    have hX1 : Ext w w1 := (by repeat (first | exact Ext.refl _ | apply Ext.alloc | apply Below.drew | apply Ext.drewN | refine Ext.trans' ?_ (by assumption) | refine Ext.trans' ?_ (ExtD.ext (by assumption))))
    clear h1 hx1
    go_wp2_with fail
    go_ret2
    exact ⟨none, 0, rfl, ROwn.nil .., hX1⟩
  have hv : verdR s t = verdL s t := if_pos hE
  have hok := (askE_ok hE).1
  have hn : NTe t := NTe.of_test ((askE_ok hE).2.2 t (by simp))
  rw [hv, hE]
  rw [hE] at hak
  obtain ⟨i3, hi3, hzz⟩ := Option.map_eq_some_iff.1 info3a
  simp only [Prod.mk.injEq] at hzz
  obtain ⟨hz0, hz1, hz2⟩ := hzz
  clear hE hv
  go_enter Tryz.func31, Tryz.ntmps31
  go_wp2_with fail
  refine (hak _ (by repeat (first | exact Ext.refl _ | apply Ext.alloc | apply Below.drew | apply Ext.drewN | refine Ext.trans' ?_ (by assumption) | refine Ext.trans' ?_ (ExtD.ext (by assumption)))) _ (hte _ (by repeat (first | exact Ext.refl _ | apply Ext.alloc | apply Below.drew | apply Ext.drewN | refine Ext.trans' ?_ (by assumption) | refine Ext.trans' ?_ (ExtD.ext (by assumption)))) _ (by simp))).mono ?_
  rintro e w1 ⟨h1, _⟩
  obtain ⟨g, rfl, hx1, hg, hS⟩ := h1 rfl
  have hX1 : Ext w w1 := (by repeat (first | exact Ext.refl _ | apply Ext.alloc | apply Below.drew | apply Ext.drewN | refine Ext.trans' ?_ (by assumption) | refine Ext.trans' ?_ (ExtD.ext (by assumption))))
  have b1 : w1.cell? ⟨w.heap.size, 0, none⟩ = some (.slice A t.tr.length c) := Ext.keep hx1 (by go_simp)
  have b2 : w1.cell? ⟨w.heap.size, 1, none⟩ = some (.slice A' t.mu.length c') := Ext.keep hx1 (by go_simp)
  have HS := Lib.hid (hS.mono (S' := fun _ => True) fun _ _ _ => trivial)
  clear h1 hx1 hg hS hak
  go_wp2_with fail
  refine (verdicts_c _).mono ?_
  rintro e w2 ⟨m, rfl, hm, hm', h2⟩
  have hrange := run_range_map (P := Tryz.prog) w2 136 3 138 m VM 3 Tryz.underlying136 hm
  have hX2 : Ext w w2 := hX1.trans' h2
  have b1 := Ext.keep h2 b1
  have b2 := Ext.keep h2 b2
  have HS := Lib.hid (HS.out.bel h2)
  have hmlt : m < w2.heap.size := (Array.getElem?_eq_some_iff.1 hm).1
  go_wp2_with fail
  have hit : (w2.alloc (.mapIter (some m) 3 #[] 3)).heap[w2.heap.size]? = some (.mapIter (some m) 3 #[] 3) := World.alloc_heap_new w2 _
  have hXa : Ext w2 (w2.alloc (.mapIter (some m) 3 #[] 3)) := (Ext.refl _).alloc _
  have hsa : (w2.alloc (.mapIter (some m) 3 #[] 3)).heap.size = w2.heap.size + 1 := World.size_alloc ..
  have HM := Lib.hid hm
  obtain ⟨wa, hwa⟩ : ∃ wa, w2.alloc (.mapIter (some m) 3 #[] 3) = wa := ⟨_, rfl⟩
  rw [hwa] at hit hXa hsa ⊢
  clear hwa hrange hm
  go_loopw [8] (fun vo wr => ∃ (seen : List Nat) (A : Option Addr) (c : Nat), vo = .slice A (outV s t seen).length c ∧ ROwn RInt 1 3 wa.heap.size (fun _ => False) wr (outV s t seen) (.slice A (outV s t seen).length c) ∧ Hid (seen.Nodup ∧ (∀ x ∈ seen, x < 3) ∧ wr.heap[w2.heap.size]? = some (.mapIter (some m) 3 seen.toArray 3)) ∧ Ext w2 wr ∧ wa.heap.size ≤ wr.heap.size) (fun _ wr => match wr.heap[w2.heap.size]? with | some (.mapIter _ _ seen _) => ([0, 1, 2].filter fun i => decide (i ∉ seen.toList)).length | _ => 0)
  case atStart => exact ⟨[], none, 0, rfl, ROwn.nil .., ⟨List.nodup_nil, by simp, hit⟩, hXa, Nat.le_refl _⟩
  case round =>
    obtain ⟨seen, Ar, cr, rfl, hown, hseen, hE, hsz⟩ := hrel
    have HO := Lib.hid hown
    clear hown
    rcases VM_next s hok g t (.slice A t.tr.length c) (.slice A' t.mu.length c') hn w2 wr w2.heap.size m seen 0 hE (Nat.le_refl _) hseen.out.2.2 ((hE.block _ hmlt).trans HM.out) with ⟨hall, hnx⟩ | ⟨i, f, W3, hi3', hns, eg, hnx, hen, hcon, hb3, hsz3, hr3⟩
    · have hfin : Hid (sortI (outV s t seen) = verdL s t) := outV_all s t seen hseen.out.1 hseen.out.2.1 hall
      clear hall
      have hl3 : (outV s t seen).length < 4611686018427387904 := by rw [← sortI_len, hfin.out]; have := List.length_filter_le (verdB s t) [1, 2, 3]; simp only [List.length_cons, List.length_nil] at this; show ([1, 2, 3].filter (verdB s t)).length < _; omega
      go_wp2_with fail
      refine (sort_own _ _ _ _ wr HO.out hl3).mono ?_
      rintro e w4 ⟨rfl, ho4, hb4⟩
      have HO4 := Lib.hid ho4
      clear ho4
      go_wp2_with fail
      go_ret2
      have hlen : (outV s t seen).length = (verdL s t).length := by rw [← hfin.out, sortI_len]
      refine ⟨Ar, cr, by rw [← hlen]; rfl, ?_, ?_⟩
      · rw [← hlen, ← hfin.out]
        exact HO4.out.base (by have := hX2.size; omega)
      · exact Bt.new (hX2.trans' hE) hb4 fun k _ hk => by
          obtain ⟨news, h2, _⟩ := HO.out
          have := (own_row_base h2 k hk).1
          have := hX2.size
          omega
    · have hEX : Ext w2 W3 := Bt.new hE hb3 fun k _ hk => by have hk' : k = w2.heap.size := hk; omega
      have hO3 : ROwn RInt 1 3 wa.heap.size (fun _ => False) W3 (outV s t seen) (.slice Ar (outV s t seen).length cr) := HO.out.keep RInt.good (fun k hk h => hb3.block k hk (by have := h.resolve_left id; omega)) hb3.size
      have HO3 := Lib.hid hO3
      have hc2 := hcon
      have x1 := Ext.keep hEX b1
      have x2 := Ext.keep hEX b2
      have hXW : Ext w W3 := hX2.trans' hEX
      have hcon2 := fun X (hX : Ext W3 X) => hcon X (HS.out.bel (hEX.trans' hX)) (RLbs.good.bel (RLbs.good.mono HTR.out fun _ _ _ => trivial) (hXW.trans' hX)) (RLbs.good.bel (RLbs.good.mono HMU.out fun _ _ _ => trivial) (hXW.trans' hX))
      have hst : outV s t (seen ++ [i]) = if verdB s t ((i : Int) + 1) then outV s t seen ++ [(i : Int) + 1] else outV s t seen := by
        unfold outV
        rw [List.map_append, List.filter_append]
        simp only [List.map_cons, List.map_nil, List.filter_cons, List.filter_nil]
        split <;> simp
      have hr3' := Lib.hid hr3
      have hms : Hid ((([0, 1, 2].filter fun j => decide (j ∉ (seen ++ [i]).toArray.toList)).length < ([0, 1, 2].filter fun j => decide (j ∉ seen.toArray.toList)).length)) :=
        filter_lt_of (fun j => decide (j ∉ (seen ++ [i]).toArray.toList)) (fun j => decide (j ∉ seen.toArray.toList)) (fun x hx => by
          simp at hx ⊢; exact hx.1) [0, 1, 2] i (by simp; omega) (by simp) (by simpa using hns)
      have hsn := Lib.hid (show (seen ++ [i]).Nodup ∧ ∀ x ∈ seen ++ [i], x < 3 from ⟨by
        rw [List.nodup_append]
        exact ⟨hseen.out.1, by simp, by intro x hx y hy; simp at hy; subst hy; exact fun e => hns (e ▸ hx)⟩, fun x hx => by
        rcases List.mem_append.1 hx with h | h
        · exact hseen.out.2.1 x h
        · rw [List.mem_singleton.1 h]; exact hi3'⟩)
      have hI : I64 ((i : Int) + 1) := ⟨by omega, by omega⟩
      have hlo : (outV s t seen).length ≤ 3 := by have := seen_len hseen.out.1 hseen.out.2.1; unfold outV; exact Nat.le_trans (List.length_filter_le _ _) (by simpa using this)
      have hsO := Lib.hid hseen.out.2.2
      clear hc2 hcon hseen hb3 hr3 hO3
      cases hv : verdB s t ((i : Int) + 1) with
      | false =>
        rw [hv] at hcon2 hst
        have hst2 : Hid (outV s t (seen ++ [i]) = outV s t seen) := by show _ = _; rw [hst]; rfl
        clear hst hv
        go_wp2_with fail
        refine (hcon2 _ (by repeat (first | exact Ext.refl _ | apply Ext.alloc | apply Below.drew | apply Ext.drewN | refine Ext.trans' ?_ (by assumption) | refine Ext.trans' ?_ (ExtD.ext (by assumption))))).mono ?_
        rintro e w4 ⟨rfl, h4⟩
        have hz4 := h4.size
        go_wp2_with fail
        go_roundw
        case rel => exact ⟨seen ++ [i], Ar, cr, by rw [hst2.out], by rw [hst2.out]; exact HO3.out.ext RInt.good h4, ⟨hsn.out.1, hsn.out.2, (h4.block _ (by omega)).trans hr3'.out⟩, hEX.trans' h4, by omega⟩
        case measure =>
          rw [(h4.block _ (by omega)).trans hr3'.out, hsO.out]
          exact hms.out
      | true =>
        rw [hv] at hcon2 hst
        have hst2 : Hid (outV s t (seen ++ [i]) = outV s t seen ++ [(i : Int) + 1]) := by show _ = _; rw [hst]; rfl
        clear hst hv
        go_wp2_with fail
        refine (hcon2 _ (by repeat (first | exact Ext.refl _ | apply Ext.alloc | apply Below.drew | apply Ext.drewN | refine Ext.trans' ?_ (by assumption) | refine Ext.trans' ?_ (ExtD.ext (by assumption))))).mono ?_
        rintro e w4 ⟨rfl, h4⟩
        have hz4 := h4.size
        obtain ⟨news4, hrow4, hF4⟩ := HO3.out.ext RInt.good (h4.alloc (.cells #[.int .i64 ((i : Int) + 1)] 3))
        have HF := Lib.hid hF4
        clear hF4
        go_wp2_with (at_builtin; refine wpList_append_own_at _ rfl _ _ 53 rfl wa.heap.size 3 i3 (.int .i64 0) 1 8 Tryz.underlying53 hi3 hz0 hz1 hz2 rfl (by decide) _ _ _ rfl hrow4 ⟨w4.heap.size, 0, none⟩ 1 1 [.int .i64 ((i : Int) + 1)] rfl rfl (cell_one_new _ _ _) (by simp [Value.oneCell']) (by unfold maxLen; omega) (by omega) (by simp; omega) ?_; intro v5 w5 hown5 hgrow5 hnil5 hat5; obtain ⟨g5, c5, rfl⟩ := ownsRow_succ hown5)
        have hp5 := Lib.hid (ROwn.push RInt.good HF.out (Flat.single (⟨rfl, hI⟩ : RInt _ _ ((i : Int) + 1) _) rfl) hown5 hgrow5 hat5)
        have hX5 : Ext w2 w5 := Below.grown ((hEX.trans' h4).alloc _) hgrow5 (by simp; omega) fun q hq => by have := (own_row_base hrow4 q hq).1; omega
        have hr5 : w5.heap[w2.heap.size]? = some (.mapIter (some m) 3 (seen ++ [i]).toArray 3) := (hgrow5.block _ (by simp; omega) (fun e => by have := (own_row_base hrow4 _ e.symm).1; omega)).trans ((Below.heap_alloc _ _ _ (by omega)).trans ((h4.block _ (by omega)).trans hr3'.out))
        have hz5 := hgrow5.size
        have HR5 := Lib.hid hr5
        clear hown5 hgrow5 hat5 hnil5 hrow4 hr5
        go_wp2_with fail
        go_roundw
        case rel => exact ⟨seen ++ [i], some ⟨g5, 0, none⟩, c5, by rw [hst2.out, List.length_append]; rfl, by rw [hst2.out, List.length_append]; exact hp5.out, ⟨hsn.out.1, hsn.out.2, HR5.out⟩, hX5, by simp at hz5; omega⟩
        case measure =>
          rw [HR5.out, hsO.out]
          exact hms.out
end Go.Proofs.YtegenalcheooeaaGreat

