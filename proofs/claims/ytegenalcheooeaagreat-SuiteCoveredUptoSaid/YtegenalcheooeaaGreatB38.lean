/- Of the proof of a law of the suites: CoversE, OpenA, SayB. -/
import Derived.Test.YtegenalcheooeaaGreatB12
import Derived.Test.YtegenalcheooeaaGreatB35
import Derived.Test.YtegenalcheooeaaGreatB36
import Derived.Test.YtegenalcheooeaaGreatRows
import Derived.ProofKit
import Derived.OpenShut
import Derived.JoinedCond
import Derived.Deep.Strs
import Derived.ChangeStays
import Derived.ChangeBook
/- suite.Covers: walked. -/
set_option linter.unusedSectionVars false
set_option linter.unusedSimpArgs false
set_option linter.unusedVariables false
namespace Go.Proofs.YtegenalcheooeaaGreat
open Go.RowKit
attribute [local go_sem] cell?_exto
open Go.Shelf

def cv0 (s : Sy) : Cv := ⟨List.replicate s.ls.length false, List.replicate s.es.length false⟩
def covAll (s : Sy) (ts : List Te) : Cv := ts.foldl (fun c t => covL s t c) (cv0 s)
open Classical in
noncomputable def covR (s : Sy) (ts : List Te) : Cv := if askE s ts = 0 then covAll s ts else ⟨[], []⟩
theorem covFold_len (s : Sy) : ∀ (ts : List Te) (c : Cv), (ts.foldl (fun c t => covL s t c) c).l.length = c.l.length ∧ (ts.foldl (fun c t => covL s t c) c).e.length = c.e.length
  | [], _ => ⟨rfl, rfl⟩
  | t :: ts, c => by
    have h1 := covFold_len s ts (covL s t c)
    have h2 := covL_len s t c
    exact ⟨h1.1.trans h2.1, h1.2.trans h2.2⟩
theorem covAll_len (s : Sy) (ts : List Te) : (covAll s ts).l.length = s.ls.length ∧ (covAll s ts).e.length = s.es.length := by
  have h := covFold_len s ts (cv0 s)
  simpa [covAll, cv0] using h
def CvPost (c : Cv) (err : Int) (w : World) (e : Ending) (w' : World) : Prop := ∃ v1 v2, e = .returned (.tuple #[v1, v2, .int .i64 err]) ∧ RBs w.heap.size w' c.l v1 ∧ RBs w.heap.size w' c.e v2 ∧ Ext w w'
set_option maxHeartbeats 1000000 in
set_option maxRecDepth 100000 in
theorem Covers_c (S : Nat → Prop) (s : Sy) (cs : List Value) (ts : List Te) (v : Value) (w : World) (hx : RSy S w s cs) (ht : RSl RTe 2 S w ts [v]) :
    Calls Tryz.prog 48 #[.agg cs.toArray, v] w (CvPost (covR s ts) (askE s ts) w) := by
  have hak := fun W (hW : Ext w W) => asked_c S s cs ts v W (RSy.good.bel hx hW) ((RSl.good RTe.good).bel ht hW)
  obtain ⟨_, vl, ve, rfl, hvl, hve⟩ := id hx
  obtain ⟨Al, cl, rfl, _, _⟩ := hvl.val
  obtain ⟨Ae, ce, rfl, _, _⟩ := hve.val
  obtain ⟨A, c, rfl, hc, hc0⟩ := ht.val
  have HT := Lib.hid ht
  clear hx ht hvl hve
  by_cases hE : askE s ts = 0
  case neg =>
    have hv : covR s ts = ⟨[], []⟩ := if_neg hE
    rw [hv]
    obtain ⟨er, her⟩ : ∃ er, askE s ts = er := ⟨_, rfl⟩
    rw [her] at hak hE ⊢
    have hE' : (er == 0) = false := beq_eq_false_iff_ne.2 hE
    clear her hv
    go_enter Tryz.func48, Tryz.ntmps48
    go_wp2_with fail
    refine (hak _ (by repeat (first | exact Ext.refl _ | apply Ext.alloc | apply Below.drew | apply Ext.drewN | refine Ext.trans' ?_ (by assumption) | refine Ext.trans' ?_ (ExtD.ext (by assumption))))).mono ?_
    rintro e w1 ⟨_, h1⟩
    obtain ⟨rfl, hx1⟩ := h1 hE
    have hX1 : Ext w w1 := (by repeat (first | exact Ext.refl _ | apply Ext.alloc | apply Below.drew | apply Ext.drewN | refine Ext.trans' ?_ (by assumption) | refine Ext.trans' ?_ (ExtD.ext (by assumption))))
    clear h1 hx1
    go_wp2_with fail
    go_ret3
    exact ⟨.slice none 0 0, .slice none 0 0, rfl, ROwn.nil .., ROwn.nil .., hX1⟩
  have hv : covR s ts = covAll s ts := if_pos hE
  have hok := (askE_ok hE).1
  have hn : ∀ t ∈ ts, NTe t := fun t h => NTe.of_test ((askE_ok hE).2.2 t h)
  rw [hv, hE]
  rw [hE] at hak
  clear hE hv
  have hnc := fun W g (hg : IsSys (fun _ => True) W g s) => newCover_c (fun _ => True) s g W hg (by have := hok.2.2.1; omega) (by have := hok.2.2.2.1; omega)
  go_enter Tryz.func48, Tryz.ntmps48
  go_wp2_with fail
  refine (hak _ (by repeat (first | exact Ext.refl _ | apply Ext.alloc | apply Below.drew | apply Ext.drewN | refine Ext.trans' ?_ (by assumption) | refine Ext.trans' ?_ (ExtD.ext (by assumption))))).mono ?_
  rintro e w1 ⟨h1, _⟩
  obtain ⟨g, rfl, hx1, hg, hS⟩ := h1 rfl
  have hX1 : Ext w w1 := (by repeat (first | exact Ext.refl _ | apply Ext.alloc | apply Below.drew | apply Ext.drewN | refine Ext.trans' ?_ (by assumption) | refine Ext.trans' ?_ (ExtD.ext (by assumption))))
  have HS := Lib.hid (hS.mono (S' := fun k => k < w1.heap.size) fun k h _ => h)
  clear h1 hx1 hg hS hak
  go_wp2_with fail
  refine (hnc _ g (HS.out.mono fun _ _ _ => trivial)).mono ?_
  rintro e w2 ⟨v1, v2, rfl, hr1, hr2, hap, h2⟩
  obtain ⟨A1, k1, rfl, _, _⟩ := (hr1.sl RBool.good (by decide)).val
  obtain ⟨A2, k2, rfl, _, _⟩ := (hr2.sl RBool.good (by decide)).val
  have hR0 : RCv w1.heap.size w2 (cv0 s) (.slice A1 (List.replicate s.ls.length false).length k1) (.slice A2 (List.replicate s.es.length false).length k2) := ⟨hr1, hr2, hap⟩
  have hZ0 : ∀ q, ZCv (.slice A1 (List.replicate s.ls.length false).length k1) (.slice A2 (List.replicate s.es.length false).length k2) q → w1.heap.size ≤ q ∧ q < w2.heap.size := fun q h => by
    rcases h with h | h
    · exact rbs_lt hr1 h
    · exact rbs_lt hr2 h
  simp only [List.length_replicate] at hR0 hZ0 ⊢
  have HR0 := Lib.hid hR0
  have HZ0 := Lib.hid hZ0
  have HX1 := Lib.hid hX1
  have HX2 := Lib.hid h2
  have hsz2 := h2.size
  clear hr1 hr2 hap hR0 hZ0 h2 hnc
  have HT1 := Lib.hid ((RSl.good RTe.good).mono HT.out (S' := fun k => k < w1.heap.size) fun b hb _ => by have := hX1.size; omega)
  go_wp2_with fail
  obtain ⟨Wb, hWb⟩ : ∃ Wb, w2.alloc (.cells #[.slice A1 s.ls.length k1, .slice A2 s.es.length k2] 145) = Wb := ⟨_, rfl⟩
  have hXb : Ext w2 Wb := by rw [← hWb]; exact (Ext.refl _).alloc _
  have hb0 : Wb.cell? ⟨w2.heap.size, 0, none⟩ = some (.slice A1 s.ls.length k1) := by subst hWb; go_simp
  have hb1 : Wb.cell? ⟨w2.heap.size, 1, none⟩ = some (.slice A2 s.es.length k2) := by subst hWb; go_simp
  have hbs : w2.heap.size < Wb.heap.size := by rw [← hWb]; simp
  rw [hWb]
  clear hWb
  go_loopw [25] (fun vi wr => ∃ k : Nat, k ≤ ts.length ∧ vi = .int .i64 k ∧ RCv w1.heap.size wr ((ts.take k).foldl (fun c t => covL s t c) (cv0 s)) (.slice A1 s.ls.length k1) (.slice A2 s.es.length k2) ∧ wr.cell? ⟨w2.heap.size, 0, none⟩ = some (.slice A1 s.ls.length k1) ∧ wr.cell? ⟨w2.heap.size, 1, none⟩ = some (.slice A2 s.es.length k2) ∧ Hid (Ext w1 wr) ∧ w2.heap.size < wr.heap.size) (fun vi _ => ts.length - (intOf vi).toNat)
  case atStart => exact ⟨0, Nat.zero_le _, rfl, HR0.out.ext hXb, hb0, hb1, HX2.out.trans' hXb, hbs⟩
  case round =>
    obtain ⟨k, hk, rfl, hrc, q0, q1, hE, hsz⟩ := hrel
    have HRC := Lib.hid hrc
    clear hrc
    by_cases hlt : k < ts.length
    · obtain ⟨b, off, cs, rfl, hb, hS2, hl, hr, hcell⟩ := ((RSl.good RTe.good).bel HT1.out (HX1.out.trans' hE.out)).get k hlt
      obtain ⟨v0, v1, rfl, ha0, ha1⟩ := id hr
      have a0 := hcell.get 0 _
      have a1 := hcell.get 1 _
      simp only [Nat.add_zero] at a0
      have hnt := hn _ (List.getElem_mem hlt)
      have hfl := covFold_len s (ts.take k) (cv0 s)
      have hcv := fun X (hX : Ext wr X) => covers_c (fun k => k < w1.heap.size) s hok g ts[k] ((ts.take k).foldl (fun c t => covL s t c) (cv0 s)) w1.heap.size _ _ v0 v1 X (HS.out.bel (hE.out.trans' hX)) (HRC.out.ext hX) (fun _ h => h) (RLbs.good.bel ha0 hX) (RLbs.good.bel ha1 hX) (by rw [hfl.1]; simp [cv0]) (by rw [hfl.2]; simp [cv0]) hnt.1 hnt.2
      obtain ⟨B0, d0, rfl, _, _⟩ := ha0.val
      obtain ⟨B1, d1, rfl, _, _⟩ := ha1.val
      clear ha0 ha1 hr hl hcell hS2 hfl
      go_wp2_with fail
      refine (hcv _ (by repeat (first | exact Ext.refl _ | apply Ext.alloc | apply Below.drew | apply Ext.drewN | refine Ext.trans' ?_ (by assumption) | refine Ext.trans' ?_ (ExtD.ext (by assumption))))).mono ?_
      rintro e w5 ⟨rfl, hr5, hb5⟩
      have hx4 : Ext wr (wr.alloc (.cells #[.slice B0 ts[k].tr.length d0, .slice B1 ts[k].mu.length d1] 40)) := (Ext.refl wr).alloc _
      have hne : ¬ ZCv (.slice A1 s.ls.length k1) (.slice A2 s.es.length k2) w2.heap.size := fun h => by have := HZ0.out _ h; omega
      have q0' := hb5.cell (Ext.keep hx4 q0) hne
      have q1' := hb5.cell (Ext.keep hx4 q1) hne
      have hX5 : Ext w1 w5 := Bt.new (hE.out.trans' hx4) hb5 fun i _ h => (HZ0.out i h).1
      have hz5 := hb5.size
      have HR5 := Lib.hid hr5
      have HX5 := Lib.hid hX5
      clear hr5 hb5 hX5 q0 q1 hcv
      go_wp2_with fail
      go_roundw
      case rel =>
        refine ⟨k + 1, by omega, by go_num, ?_, q0', q1', HX5.out, by simp at hz5; omega⟩
        rw [List.take_succ_eq_append_getElem hlt, List.foldl_append]
        exact HR5.out
      case measure => simp [intOf]; omega
    · obtain rfl : k = ts.length := by omega
      rw [List.take_length] at HRC
      go_wp2_with fail
      (refine wp_region_ext (by kernel_rfl) (by kernel_rfl) ?_; (repeat (first | go_big_quiet_step ((fail)) | quiet_step ((fail)))); refine wpQuiet_nil ?_)
      intro w5 hx5
      have hX5 : Ext w w5 := HX1.out.trans' (hE.out.trans' hx5)
      go_wp2_with fail
      go_ret3
      refine ⟨.slice A1 s.ls.length k1, .slice A2 s.es.length k2, rfl, ?_, ?_, hX5⟩
      · exact (HRC.out.l.ext RBool.good hx5).base HX1.out.size
      · exact (HRC.out.e.ext RBool.good hx5).base HX1.out.size
end Go.Proofs.YtegenalcheooeaaGreat

/- The arguments read. -/
set_option linter.unusedSectionVars false
set_option linter.unusedSimpArgs false
set_option linter.unusedVariables false
namespace Go.Proofs.YtegenalcheooeaaGreat
open Go.RowKit
attribute [local go_sem] cell?_exto
open Go.ChangeShapes Go.WideShapes Go.ChangeAt

section
variable {H : Type} {enc : TypeId × Value → H} {W : World} {sp : Nat → Bool} {held : Bool}
theorem bulkAll_sum : ∀ (l : List Nat) (es : List (DataW H)), l.length = es.length → (∀ i, (h : i < l.length) → (h' : i < es.length) → l[i] ≤ Rows.uptoBulk es[i]) → l.sum ≤ Rows.uptoBulkAll es
  | [], [], _, _ => by simp [Rows.uptoBulkAll]
  | [], _ :: _, h, _ => by simp at h
  | _ :: _, [], h, _ => by simp at h
  | x :: l, e :: es, h, hi => by
    rw [List.sum_cons, Rows.uptoBulkAll]
    have h0 := hi 0 (by simp) (by simp)
    have := bulkAll_sum l es (by simpa using h) fun i h1 h2 => hi (i + 1) (Nat.succ_lt_succ h1) (Nat.succ_lt_succ h2)
    simp only [List.getElem_cons_zero] at h0
    omega
/-- A slice, its elements read one by one. -/
theorem open_sl {α : Type} {R : Rdr α} {k : Nat} (hk : 0 < k) {t te : TypeId} {fuel : Nat} {cs : List Value} {x : DataW H × List MemPlace} (sz : α → Nat) (ht : Tryz.prog.underlying t = some (.slice te)) (hc : Tryz.prog.cellsOf te = k)
    (h : DataW.trod enc Tryz.prog W 0 sp held fuel t cs = some x) (hel : ∀ n, n < fuel → ∀ cs y, DataW.trod enc Tryz.prog W 0 sp held n te cs = some y → cs.length = k ∧ ∃ a, R (fun _ => True) W a cs ∧ sz a ≤ Rows.uptoBulk y.1) :
    ∃ l v, cs = [v] ∧ RSl R k (fun _ => True) W l [v] ∧ (l.map sz).sum ≤ Rows.uptoBulk x.1 := by
  rcases DataW.trod_slice ht h with ⟨rfl, rfl⟩ | ⟨a, len, cap, elems, rest, n, rfl, rfl, rfl, _, h1, h2, h3, h4, _, _⟩
  · exact ⟨[], _, rfl, ⟨none, 0, rfl, Nat.le_refl _, by decide, .inl rfl⟩, by simp⟩
  · have hx : ∀ i : Fin len, ∃ a' ds, R (fun _ => True) W a' ds ∧ ds.length = k ∧ W.cells? 0 (a.add (i.1 * k)) k = some ds ∧ sz a' ≤ Rows.uptoBulk (elems[i.1]'(by omega)).1 := fun i => by
      have hi := h4 i.1 i.2
      rw [hc, List.getElem?_eq_getElem (by omega)] at hi
      obtain ⟨ds, hd, hy⟩ := Option.bind_eq_some_iff.1 hi
      obtain ⟨hl, a', ha, hs⟩ := hel n (Nat.lt_succ_self n) ds _ hy
      exact ⟨a', ds, ha, hl, hd, hs⟩
    obtain ⟨f, hf⟩ := Classical.axiomOfChoice hx
    have hlen : (List.ofFn f).length = len := List.length_ofFn
    have hget : ∀ i, (h : i < len) → (List.ofFn f)[i]'(by rw [hlen]; exact h) = f ⟨i, h⟩ := fun i h => by simp
    refine ⟨List.ofFn f, _, rfl, ⟨some a, cap, by rw [hlen], by rw [hlen]; exact h1, by unfold maxLen at h2; omega, ?_⟩, ?_⟩
    · by_cases h0 : len = 0
      · left
        exact List.length_eq_zero_iff.1 (by rw [hlen]; exact h0)
      · right
        obtain ⟨b, off, spot⟩ := a
        obtain ⟨ds, _, hl0, hc0, _⟩ := hf ⟨0, by omega⟩
        obtain ⟨_, _, hcell0⟩ := World.cells?_some hc0
        have g0 := hcell0 0 hk
        rw [List.getElem?_eq_getElem (by omega)] at g0
        have hspot : spot = none := by simpa [Addr.add] using World.cell?_spot g0
        subst hspot
        refine ⟨b, off, rfl, World.block_lt_of_cell? W _ (by simpa [Addr.add] using g0), trivial, RowAt.of_get fun i hi => ?_⟩
        rw [hlen] at hi
        obtain ⟨ds, hr, hl, hcs, _⟩ := hf ⟨i, hi⟩
        obtain ⟨_, _, hcell⟩ := World.cells?_some hcs
        refine ⟨ds, hl, by rw [hget i hi]; exact hr, fun j u hj => ?_⟩
        have hjk : j < k := by rw [← hl]; exact (List.getElem?_eq_some_iff.1 hj).1
        have := hcell j hjk
        rw [hj] at this
        rw [Addr.add_lit, Addr.add_lit] at this
        exact this
    · have hb := bulkAll_sum ((List.ofFn f).map sz) (elems.map (·.1)) (by simp [h3]) fun i h h' => by
        have hi : i < len := by simpa using h
        obtain ⟨_, _, _, _, hs⟩ := hf ⟨i, hi⟩
        simpa using hs
      simp only [Rows.uptoBulk]
      omega
theorem i64_of {n : Int} (h : (Lit.int .i64 n).wf = true) : I64 n := by
  simp only [Lit.wf, Bool.and_eq_true, decide_eq_true_eq] at h
  have h1 : IntKind.i64.min = -9223372036854775808 := by decide
  have h2 : IntKind.i64.max = 9223372036854775807 := by decide
  rw [h1, h2] at h
  unfold I64
  omega
theorem list2 {α : Type} : ∀ {l : List α}, l.length = 2 → ∃ a b, l = [a, b]
  | [a, b], _ => ⟨a, b, rfl⟩
theorem list3 {α : Type} : ∀ {l : List α}, l.length = 3 → ∃ a b c, l = [a, b, c]
  | [a, b, c], _ => ⟨a, b, c, rfl⟩
theorem k3 : Tryz.prog.cellsOf 3 = 1 := by kernel_rfl
theorem k59 : Tryz.prog.cellsOf 59 = 1 := by kernel_rfl
theorem k22 : Tryz.prog.cellsOf 22 = 1 := by kernel_rfl
theorem k23 : Tryz.prog.cellsOf 23 = 1 := by kernel_rfl
theorem k159 : Tryz.prog.cellsOf 159 = 3 := by kernel_rfl
theorem k61 : Tryz.prog.cellsOf 61 = 2 := by kernel_rfl
theorem k88 : Tryz.prog.cellsOf 88 = 3 := by kernel_rfl
theorem k25 : Tryz.prog.cellsOf 25 = 3 := by kernel_rfl
theorem sizes_sum : ∀ l : List Tm, (l.map Tm.size).sum = Tm.sizes l
  | [] => by rw [Tm.sizes]; rfl
  | t :: ts => by rw [Tm.sizes, List.map_cons, List.sum_cons, sizes_sum ts]
theorem open_tm : ∀ (fuel : Nat) (cs : List Value) (x : DataW H × List MemPlace), DataW.trod enc Tryz.prog W 0 sp held fuel 159 cs = some x → cs.length = 3 ∧ ∃ t : Tm, RTm (fun _ => True) W t cs ∧ t.size ≤ Rows.uptoBulk x.1 := by
  intro fuel
  induction fuel using Nat.strongRecOn with
  | _ fuel ih =>
  intro cs x h
  obtain ⟨xs, n, rfl, rfl, hl, hlen, hf⟩ := DataW.trod_struct Tryz.underlying159 h
  have hl3 : cs.length = 3 := by rw [hl, k159]
  obtain ⟨c0, c1, c2, rfl⟩ := list3 hl3
  obtain ⟨y0, y1, y2, rfl⟩ := list3 (show xs.length = 3 from hlen)
  clear hl hlen hl3
  have g0 : DataW.trod enc Tryz.prog W 0 sp held n 3 (([c0, c1, c2].drop 0).take (Tryz.prog.cellsOf 3)) = some y0 := hf 0 _ rfl
  rw [k3] at g0
  have g1 : DataW.trod enc Tryz.prog W 0 sp held n 3 (([c0, c1, c2].drop 1).take (Tryz.prog.cellsOf 3)) = some y1 := hf 1 _ rfl
  rw [k3] at g1
  have g2 : DataW.trod enc Tryz.prog W 0 sp held n 59 (([c0, c1, c2].drop 2).take (Tryz.prog.cellsOf 59)) = some y2 := hf 2 _ rfl
  rw [k59] at g2
  obtain ⟨n0, e0, _, w0⟩ := DataW.trod_int Tryz.underlying3 g0
  obtain ⟨n1, e1, _, w1⟩ := DataW.trod_int Tryz.underlying3 g1
  obtain ⟨l, v, e2, hr, hs⟩ := open_sl (R := RTm) (k := 3) (by decide) Tm.size Tryz.underlying59 k159 g2 (fun m hm cs y hy => ih m (by omega) cs y hy)
  have f0 : c0 = .int .i64 n0 := by injection e0
  have f1 : c1 = .int .i64 n1 := by injection e1
  have f2 : c2 = v := by injection e2
  subst f0 f1 f2
  refine ⟨rfl, .mk n0 n1 l, (RTm_iff ..).2 ⟨i64_of w0, i64_of w1, _, rfl, hr⟩, ?_⟩
  rw [sizes_sum] at hs
  rw [Tm.size]
  simp only [List.map_cons, List.map_nil, Rows.uptoBulk, Rows.uptoBulkAll]
  omega
theorem open_lb (fuel : Nat) (cs : List Value) (x : DataW H × List MemPlace) (h : DataW.trod enc Tryz.prog W 0 sp held fuel 61 cs = some x) : cs.length = 2 ∧ ∃ a : Lb, RLb (fun _ => True) W a cs ∧ a.size ≤ Rows.uptoBulk x.1 := by
  obtain ⟨xs, n, rfl, rfl, hl, hlen, hf⟩ := DataW.trod_struct Tryz.underlying61 h
  have hl3 : cs.length = 2 := by rw [hl, k61]
  obtain ⟨c0, c1, rfl⟩ := list2 hl3
  obtain ⟨y0, y1, rfl⟩ := list2 (show xs.length = 2 from hlen)
  clear hl hlen hl3
  have g0 : DataW.trod enc Tryz.prog W 0 sp held n 3 (([c0, c1].drop 0).take (Tryz.prog.cellsOf 3)) = some y0 := hf 0 _ rfl
  rw [k3] at g0
  have g1 : DataW.trod enc Tryz.prog W 0 sp held n 59 (([c0, c1].drop 1).take (Tryz.prog.cellsOf 59)) = some y1 := hf 1 _ rfl
  rw [k59] at g1
  obtain ⟨n0, e0, _, w0⟩ := DataW.trod_int Tryz.underlying3 g0
  obtain ⟨l, v, e2, hr, hs⟩ := open_sl (R := RTm) (k := 3) (by decide) Tm.size Tryz.underlying59 k159 g1 (fun m _ cs y hy => open_tm m cs y hy)
  have f0 : c0 = .int .i64 n0 := by injection e0
  have f2 : c1 = v := by injection e2
  subst f0 f2
  refine ⟨rfl, ⟨n0, l⟩, ⟨i64_of w0, _, rfl, hr⟩, ?_⟩
  rw [sizes_sum] at hs
  simp only [List.map_cons, List.map_nil, Rows.uptoBulk, Rows.uptoBulkAll]
  show Tm.sizes l ≤ _
  omega
theorem open_ed (fuel : Nat) (cs : List Value) (x : DataW H × List MemPlace) (h : DataW.trod enc Tryz.prog W 0 sp held fuel 88 cs = some x) : cs.length = 3 ∧ ∃ a : Ed, REd (fun _ => True) W a cs ∧ 1 ≤ Rows.uptoBulk x.1 := by
  obtain ⟨xs, n, rfl, rfl, hl, hlen, hf⟩ := DataW.trod_struct Tryz.underlying88 h
  have hl3 : cs.length = 3 := by rw [hl, k88]
  obtain ⟨c0, c1, c2, rfl⟩ := list3 hl3
  obtain ⟨y0, y1, y2, rfl⟩ := list3 (show xs.length = 3 from hlen)
  clear hl hlen hl3
  have g0 : DataW.trod enc Tryz.prog W 0 sp held n 3 (([c0, c1, c2].drop 0).take (Tryz.prog.cellsOf 3)) = some y0 := hf 0 _ rfl
  rw [k3] at g0
  have g1 : DataW.trod enc Tryz.prog W 0 sp held n 3 (([c0, c1, c2].drop 1).take (Tryz.prog.cellsOf 3)) = some y1 := hf 1 _ rfl
  rw [k3] at g1
  have g2 : DataW.trod enc Tryz.prog W 0 sp held n 3 (([c0, c1, c2].drop 2).take (Tryz.prog.cellsOf 3)) = some y2 := hf 2 _ rfl
  rw [k3] at g2
  obtain ⟨n0, e0, _, w0⟩ := DataW.trod_int Tryz.underlying3 g0
  obtain ⟨n1, e1, _, w1⟩ := DataW.trod_int Tryz.underlying3 g1
  obtain ⟨n2, e2, _, w2⟩ := DataW.trod_int Tryz.underlying3 g2
  have f0 : c0 = .int .i64 n0 := by injection e0
  have f1 : c1 = .int .i64 n1 := by injection e1
  have f2 : c2 = .int .i64 n2 := by injection e2
  subst f0 f1 f2
  refine ⟨rfl, ⟨n0, n1, n2⟩, ⟨i64_of w0, i64_of w1, i64_of w2, rfl⟩, ?_⟩
  simp only [Rows.uptoBulk]
  omega
theorem sum_mem : ∀ (l : List Nat) (n : Nat), n ∈ l → n ≤ l.sum
  | x :: l, n, h => by
    rw [List.sum_cons]
    rcases List.mem_cons.1 h with rfl | h
    · omega
    · have := sum_mem l n h; omega
theorem open_sy (fuel : Nat) (cs : List Value) (x : DataW H × List MemPlace) (h : DataW.trod enc Tryz.prog W 0 sp held fuel 25 cs = some x) : cs.length = 3 ∧ ∃ s : Sy, RSy (fun _ => True) W s cs ∧ (∀ a ∈ s.ls, a.size ≤ Rows.uptoBulk x.1) := by
  obtain ⟨xs, n, rfl, rfl, hl, hlen, hf⟩ := DataW.trod_struct Tryz.underlying25 h
  have hl3 : cs.length = 3 := by rw [hl, k25]
  obtain ⟨c0, c1, c2, rfl⟩ := list3 hl3
  obtain ⟨y0, y1, y2, rfl⟩ := list3 (show xs.length = 3 from hlen)
  clear hl hlen hl3
  have g0 : DataW.trod enc Tryz.prog W 0 sp held n 3 (([c0, c1, c2].drop 0).take (Tryz.prog.cellsOf 3)) = some y0 := hf 0 _ rfl
  rw [k3] at g0
  have g1 : DataW.trod enc Tryz.prog W 0 sp held n 22 (([c0, c1, c2].drop 1).take (Tryz.prog.cellsOf 22)) = some y1 := hf 1 _ rfl
  rw [k22] at g1
  have g2 : DataW.trod enc Tryz.prog W 0 sp held n 23 (([c0, c1, c2].drop 2).take (Tryz.prog.cellsOf 23)) = some y2 := hf 2 _ rfl
  rw [k23] at g2
  obtain ⟨n0, e0, _, w0⟩ := DataW.trod_int Tryz.underlying3 g0
  obtain ⟨ls, v, e1, hr1, hs1⟩ := open_sl (R := RLb) (k := 2) (by decide) Lb.size Tryz.underlying22 k61 g1 (fun m _ cs y hy => open_lb m cs y hy)
  obtain ⟨es, u, e2, hr2, hs2⟩ := open_sl (R := REd) (k := 3) (by decide) (fun _ => 1) Tryz.underlying23 k88 g2 (fun m _ cs y hy => open_ed m cs y hy)
  have f0 : c0 = .int .i64 n0 := by injection e0
  have f1 : c1 = v := by injection e1
  have f2 : c2 = u := by injection e2
  subst f0 f1 f2
  refine ⟨rfl, ⟨n0, ls, es⟩, ⟨i64_of w0, _, _, rfl, hr1, hr2⟩, fun a ha => ?_⟩
  have h9 : a.size ≤ (ls.map Lb.size).sum := sum_mem _ _ (List.mem_map_of_mem (f := Lb.size) (show a ∈ ls from ha))
  simp only [List.map_cons, List.map_nil, Rows.uptoBulk, Rows.uptoBulkAll]
  omega
end
end Go.Proofs.YtegenalcheooeaaGreat

/- What the statements of the laws of suites share. -/
set_option linter.unusedSectionVars false
set_option linter.unusedSimpArgs false
set_option linter.unusedVariables false
namespace Go.Proofs.YtegenalcheooeaaGreat
open Go.RowKit
attribute [local go_sem] cell?_exto
open Go.ChangeShapes Go.WideShapes Go.ChangeAt

theorem own : ownKnob Tryz.prog.godebug = none := by kernel_rfl
theorem laid : laidOutB Tryz.prog = true := by kernel_rfl
theorem stays {t : TypeId} (hrec : Tryz.prog.readableRec t = true) (hrow : t < Tryz.prog.types.size) {H : Type} {enc : TypeId × Value → H} {W W' : World} {v : Value} {d : DataW H} {ps : List MemPlace} (h : DataW.Trod enc Tryz.prog W 0 (fun _ => true) true t v d ps) (hx : Ext W W') (hlt : ∀ p ∈ ps, p.block < W.heap.size) (sp : Nat → Bool) (hs : ∀ p ∈ ps, sp p.block = true) : DataW.Trod enc Tryz.prog W' 0 sp true t v d ps := by
  obtain ⟨n, hn⟩ := h
  exact ⟨n, DataW.trod_stays (kids_book laid hrec) (book_sized hrec) (fun h => by cases h) ⟨hrow, book_self t⟩ hn (fun p hp => Below.same hx (hlt p hp)) hs⟩
/-- What is asked behind the call, where nothing that there was has turned. -/
theorem post_ext {H : Type} {enc : TypeId × Value → H} {P : Program} {f : Func} {s : ChangeSpec} {apart fresh handsOn again : Bool} {W W' : World} {args : Array Value} {v : Value} {ds gs : List (DataW H)} {before pa pv : List MemPlace}
    (hW : DataW.Whole enc P f.params.toList s.vars apart W args.toList ds gs before) (hX : Ext W W')
    (hres : ∀ (b : Nat) (sp : Nat → Bool) (hd : Bool), DataW.TrodAll enc P W' b sp hd f.resultTypes.toList (v.resultList f.resultTypes.size) (s.fn H (ds ++ gs)).results [])
    (hargs : ∀ sp : Nat → Bool, (∀ p ∈ before, sp p.block = true) → DataW.TrodAll enc P W' 0 sp true f.params.toList args.toList (s.fn H (ds ++ gs)).args pa)
    (hvars : ∀ sp : Nat → Bool, (∀ p ∈ before, sp p.block = true) → DataW.TrodVars enc P W' sp s.vars (s.fn H (ds ++ gs)).vars pv) (hps : before = pa ++ pv)
    (hok : ∀ (j : Nat) (t : TypeId) (r : Value), f.resultTypes[j]? = some t → (v.resultList f.resultTypes.size)[j]? = some r → Value.okWide P W' .any 0 t r) : s.post enc P f apart fresh handsOn again W args v W' := by
  have hlt := hW.lt
  have hold : ∀ p ∈ before, (fun b => decide (b < W.heap.size)) p.block = true := fun p hp => decide_eq_true (hlt p hp)
  refine ⟨ds, gs, before, [], pa, pv, hW, hres _ _ _, hargs _ hold, hvars _ hold, Below.frame hX _, fun _ => ⟨hok, _, _, ([] ++ pa) ++ pv, ⟨[] ++ pa, pv, trodAll_append (hargs _ fun _ _ => rfl) (hres _ _ _), hvars _ fun _ _ => rfl, rfl, fun b off hp => ?_, fun ha => ?_⟩, fun p hp _ => ?_⟩⟩
  · have hb : MemPlace.cell b off ∈ before := by rw [hps]; simpa using hp
    obtain ⟨_, _, _, _, _, hz, _⟩ := hW
    exact (Below.frozen hX (p := ⟨b, off, none⟩) (hlt _ hb)).trans (hz b off hb)
  · obtain ⟨_, _, _, _, _, _, hn⟩ := hW
    have := hn ha
    rw [hps] at this
    simpa using this
  · rw [hps]
    simpa using hp
section
variable {H : Type} {enc : TypeId × Value → H} {W : World} {sp : Nat → Bool} {held : Bool}
theorem k40 : Tryz.prog.cellsOf 40 = 2 := by kernel_rfl
theorem k22c : Tryz.prog.cellsOf 22 = 1 := by kernel_rfl
theorem open_lb1 (fuel : Nat) (cs : List Value) (x : DataW H × List MemPlace) (h : DataW.trod enc Tryz.prog W 0 sp held fuel 61 cs = some x) : cs.length = 2 ∧ ∃ a : Lb, RLb (fun _ => True) W a cs ∧ 1 ≤ Rows.uptoBulk x.1 := by
  obtain ⟨h1, a, h2, _⟩ := open_lb fuel cs x h
  obtain ⟨xs, n, rfl, rfl, hl, hlen, hf⟩ := DataW.trod_struct Tryz.underlying61 h
  refine ⟨h1, a, h2, ?_⟩
  simp only [Rows.uptoBulk]
  omega
theorem open_lbs (fuel : Nat) (cs : List Value) (x : DataW H × List MemPlace) (h : DataW.trod enc Tryz.prog W 0 sp held fuel 22 cs = some x) : cs.length = 1 ∧ ∃ l : List Lb, RLbs (fun _ => True) W l cs ∧ l.length ≤ Rows.uptoBulk x.1 := by
  obtain ⟨l, v, rfl, hr, hs⟩ := open_sl (R := RLb) (k := 2) (by decide) (fun _ => 1) Tryz.underlying22 k61 h (fun m _ cs y hy => open_lb1 m cs y hy)
  refine ⟨rfl, l, hr, ?_⟩
  have e : ∀ l : List Lb, (l.map fun _ => 1).sum = l.length := by
    intro l
    induction l with
    | nil => rfl
    | cons x l ih => rw [List.map_cons, List.sum_cons, ih, List.length_cons, Nat.add_comm]
  rw [e] at hs
  exact hs
theorem open_lbss (fuel : Nat) (cs : List Value) (x : DataW H × List MemPlace) (h : DataW.trod enc Tryz.prog W 0 sp held fuel 30 cs = some x) : ∃ l v, cs = [v] ∧ RSl RLbs 1 (fun _ => True) W l [v] ∧ ∀ m ∈ l, m.length ≤ Rows.uptoBulk x.1 := by
  obtain ⟨l, v, rfl, hr, hs⟩ := open_sl (R := RLbs) (k := 1) (by decide) List.length Tryz.underlying30 k22c h (fun m _ cs y hy => open_lbs m cs y hy)
  exact ⟨l, v, rfl, hr, fun m hm => Nat.le_trans (sum_mem _ _ (List.mem_map_of_mem (f := List.length) hm)) hs⟩
theorem open_te (fuel : Nat) (cs : List Value) (x : DataW H × List MemPlace) (h : DataW.trod enc Tryz.prog W 0 sp held fuel 40 cs = some x) : cs.length = 2 ∧ ∃ t : Te, RTe (fun _ => True) W t cs ∧ 1 ≤ Rows.uptoBulk x.1 := by
  obtain ⟨xs, n, rfl, rfl, hl, hlen, hf⟩ := DataW.trod_struct Tryz.underlying40 h
  have hl3 : cs.length = 2 := by rw [hl, k40]
  obtain ⟨c0, c1, rfl⟩ := list2 hl3
  obtain ⟨y0, y1, rfl⟩ := list2 (show xs.length = 2 from hlen)
  clear hl hlen hl3
  have g0 : DataW.trod enc Tryz.prog W 0 sp held n 22 (([c0, c1].drop 0).take (Tryz.prog.cellsOf 22)) = some y0 := hf 0 _ rfl
  rw [k22c] at g0
  have g1 : DataW.trod enc Tryz.prog W 0 sp held n 22 (([c0, c1].drop 1).take (Tryz.prog.cellsOf 22)) = some y1 := hf 1 _ rfl
  rw [k22c] at g1
  obtain ⟨_, l, hr, _⟩ := open_lbs n _ _ g0
  obtain ⟨_, m, hr2, _⟩ := open_lbs n _ _ g1
  refine ⟨rfl, ⟨l, m⟩, ⟨c0, c1, rfl, hr, hr2⟩, ?_⟩
  simp only [Rows.uptoBulk]
  omega
theorem open_tes (fuel : Nat) (cs : List Value) (x : DataW H × List MemPlace) (h : DataW.trod enc Tryz.prog W 0 sp held fuel 34 cs = some x) : ∃ l v, cs = [v] ∧ RSl RTe 2 (fun _ => True) W l [v] := by
  obtain ⟨l, v, rfl, hr, _⟩ := open_sl (R := RTe) (k := 2) (by decide) (fun _ => 1) Tryz.underlying34 k40 h (fun m _ cs y hy => open_te m cs y hy)
  exact ⟨l, v, rfl, hr⟩
end
end Go.Proofs.YtegenalcheooeaaGreat

