/- Of the proof of a law of the suites: Cover, Mark, Covers1. -/
import Derived.Test.YtegenalcheooeaaGreatB13
import Derived.Test.YtegenalcheooeaaGreatB19
import Derived.Test.YtegenalcheooeaaGreatB33
/- suite.newCover, mark: walked. -/
set_option linter.unusedSectionVars false
set_option linter.unusedSimpArgs false
set_option linter.unusedVariables false
namespace Go.Proofs.YtegenalcheooeaaGreat
open Go.RowKit
attribute [local go_sem] cell?_exto
open Go.Shelf

theorem results_cov {fn : Func} {p : Tmp} (h : fn.results = #[.cell p 145]) (tmps : Array Value) (w : World) (g : Nat) (v u : Value) (hp : tmps.getD p undef = .pointer (some ⟨g, 0, none⟩)) (h0 : w.cell? ⟨g, 0, none⟩ = some v) (h1 : w.cell? ⟨g, 1, none⟩ = some u) :
    (results fn tmps).run Tryz.prog w = .ok (.agg #[v, u]) w := by
  have hp' : tmps[p]?.getD undef = .pointer (some ⟨g, 0, none⟩) := by simpa using hp
  simp [results, h, hp', asAddr, go_sem, h0, h1]

/-- A row of truth values of one's own. -/
abbrev RBs (base : Nat) (w : World) (bs : List Bool) (v : Value) : Prop := ROwn RBool 1 4 base (fun _ => False) w bs v
theorem info4 : (Tryz.prog.info? 4).map (fun i => (i.zero, i.size, i.bytes)) = some (some (.bool false), 1, 1) := by kernel_rfl
theorem made_bools (n : Nat) : madeCells (Value.bool false).cells (n * 1) = Array.replicate n (.bool false) := by
  rw [Nat.mul_one]
  apply Array.ext
  · simp [size_madeCells]
  · intro i h1 h2
    have : i % 1 = 0 := Nat.mod_one i
    simp [madeCells, Value.cells, this]
theorem run_bools (W : World) (n : Nat) (hn : n ≤ 1000000) :
    (Instr.makeSlice 73 (.int .i64 (n : Int)) (.int .i64 (n : Int))).run Tryz.prog W = .ok (.slice (some ⟨W.heap.size, 0, none⟩) n n) (W.alloc (.cells (Array.replicate n (.bool false)) 4)) := by
  obtain ⟨i, hi, hz⟩ := Option.map_eq_some_iff.1 info4
  simp only [Prod.mk.injEq] at hz
  obtain ⟨h1, h2, h3⟩ := hz
  have h := run_makeSlice (P := Tryz.prog) (w := W) 73 4 i (.bool false) Tryz.underlying73 hi h1 .i64 .i64 n n (by omega) (Int.le_refl _) (by rw [h2]; simp; omega) (by rw [h3]; omega) (by omega)
  rw [h2] at h
  simp only [Int.toNat_natCast, made_bools] at h
  exact h
theorem flat_bools (S : Nat → Prop) (w : World) : ∀ bs : List Bool, Flat RBool 1 S w bs (bs.map Value.bool)
  | [] => rfl
  | b :: bs => ⟨[.bool b], _, rfl, rfl, rfl, flat_bools S w bs⟩
theorem row_bools (W : World) (base n : Nat) (hb : base ≤ W.heap.size) (hn : n ≤ 1000000) : RBs base (W.alloc (.cells (Array.replicate n (.bool false)) 4)) (List.replicate n false) (.slice (some ⟨W.heap.size, 0, none⟩) n n) := by
  refine ⟨(List.replicate n false).map Value.bool, ?_, flat_bools ..⟩
  have h := World.ownsRow_lit (base := base) (e := 4) (size := 1) W (Array.replicate n (.bool false)) n hb (by unfold maxLen; omega) (by simp)
  simpa using h

def CovPost (n1 n2 : Nat) (w : World) (e : Ending) (w' : World) : Prop := ∃ v1 v2, e = .returned (.agg #[v1, v2]) ∧ RBs w.heap.size w' (List.replicate n1 false) v1 ∧ RBs w.heap.size w' (List.replicate n2 false) v2 ∧ (∀ q, v1.ownBlock = some q → v2.ownBlock ≠ some q) ∧ Ext w w'
theorem cov_fin1 {fn : Func} {tmps : Array Value} {w : World} {n1 n2 : Nat} (h : fn.results = #[.cell 2 145]) (hp : tmps.getD 2 undef = .pointer (some ⟨w.heap.size, 0, none⟩)) (h1 : n1 ≤ 1000000) (h2 : n2 ≤ 1000000) :
    bodyPost Tryz.prog fn (CovPost n1 n2 w) .ret { tmps := tmps, defers := [] } ((((w.alloc (.cells #[.slice (some ⟨w.heap.size + 1, 0, none⟩) n1 n1, .slice (some ⟨w.heap.size + 1 + 1, 0, none⟩) n2 n2] 145)).alloc (.cells (Array.replicate n1 (.bool false)) 4)).alloc (.cells (Array.replicate n2 (.bool false)) 4)).drew) := by
  refine bodyPost_ret (results_cov h _ _ w.heap.size (.slice (some ⟨w.heap.size + 1, 0, none⟩) n1 n1) (.slice (some ⟨w.heap.size + 1 + 1, 0, none⟩) n2 n2) hp (by go_simp) (by go_simp)) rfl ?_
  obtain ⟨C, hC⟩ : ∃ C, Obj.cells #[.slice (some ⟨w.heap.size + 1, 0, none⟩) n1 n1, .slice (some ⟨w.heap.size + 1 + 1, 0, none⟩) n2 n2] 145 = C := ⟨_, rfl⟩
  rw [hC]
  have r1 := row_bools (w.alloc C) w.heap.size n1 (by simp) h1
  have r2 := row_bools ((w.alloc C).alloc (.cells (Array.replicate n1 (.bool false)) 4)) w.heap.size n2 (by simp; omega) h2
  rw [World.size_alloc] at r1 r2
  rw [World.size_alloc] at r2
  exact ⟨_, _, rfl, r1.ext RBool.good (Below.drew ((Ext.refl _).alloc _)), r2.ext RBool.good (Below.drew (Ext.refl _)), fun q e e' => by simp [Value.ownBlock] at e e'; omega, Below.drew ((((Ext.refl _).alloc _).alloc _).alloc _)⟩
theorem cov_fin2 {fn : Func} {tmps : Array Value} {w : World} {n1 n2 : Nat} (h : fn.results = #[.cell 2 145]) (hp : tmps.getD 2 undef = .pointer (some ⟨w.heap.size, 0, none⟩)) (h1 : n1 ≤ 1000000) (h2 : n2 ≤ 1000000) :
    bodyPost Tryz.prog fn (CovPost n1 n2 w) .ret { tmps := tmps, defers := [] } ((((w.alloc (.cells #[.slice (some ⟨w.heap.size + 1 + 1, 0, none⟩) n1 n1, .slice (some ⟨w.heap.size + 1, 0, none⟩) n2 n2] 145)).alloc (.cells (Array.replicate n2 (.bool false)) 4)).alloc (.cells (Array.replicate n1 (.bool false)) 4)).drew) := by
  refine bodyPost_ret (results_cov h _ _ w.heap.size (.slice (some ⟨w.heap.size + 1 + 1, 0, none⟩) n1 n1) (.slice (some ⟨w.heap.size + 1, 0, none⟩) n2 n2) hp (by go_simp) (by go_simp)) rfl ?_
  obtain ⟨C, hC⟩ : ∃ C, Obj.cells #[.slice (some ⟨w.heap.size + 1 + 1, 0, none⟩) n1 n1, .slice (some ⟨w.heap.size + 1, 0, none⟩) n2 n2] 145 = C := ⟨_, rfl⟩
  rw [hC]
  have r1 := row_bools (w.alloc C) w.heap.size n2 (by simp) h2
  have r2 := row_bools ((w.alloc C).alloc (.cells (Array.replicate n2 (.bool false)) 4)) w.heap.size n1 (by simp; omega) h1
  rw [World.size_alloc] at r1 r2
  rw [World.size_alloc] at r2
  exact ⟨_, _, rfl, r2.ext RBool.good (Below.drew (Ext.refl _)), r1.ext RBool.good (Below.drew ((Ext.refl _).alloc _)), fun q e e' => by simp [Value.ownBlock] at e e'; omega, Below.drew ((((Ext.refl _).alloc _).alloc _).alloc _)⟩
set_option maxHeartbeats 1000000 in
set_option maxRecDepth 100000 in
theorem newCover_c (S : Nat → Prop) (s : Sy) (g : Nat) (w : World) (hS : IsSys S w g s) (hl : s.ls.length ≤ 1000000) (he : s.es.length ≤ 1000000) :
    Calls Tryz.prog 112 #[.pointer (some ⟨g, 0, none⟩)] w (CovPost s.ls.length s.es.length w) := by
  obtain ⟨v, u, m, f, hg, hL, hE, hZg, hZm, hM, hno, hrow⟩ := hS.ex
  obtain ⟨Al, cl, rfl, _, _⟩ := hL.val
  obtain ⟨Ae, ce, rfl, _, _⟩ := hE.val
  have hglt := (Array.getElem?_eq_some_iff.1 hg).1
  have g1 : w.cell? ⟨g, 1, none⟩ = some (.slice Al s.ls.length cl) := cell_of_row w g 1 _ _ _ hg
  have g2 : w.cell? ⟨g, 2, none⟩ = some (.slice Ae s.es.length ce) := cell_of_row w g 2 _ _ _ hg
  clear hS hL hE hM hrow hno hg
  have hm1 := fun W => run_bools W s.ls.length hl
  have hm2 := fun W => run_bools W s.es.length he
  go_enter Tryz.func112, Tryz.ntmps112
  go_wp2_with fail
  go_region_with (fail)
  all_goals go_wp2_with fail
  all_goals first
    | exact cov_fin1 rfl rfl hl he
    | exact cov_fin2 rfl rfl hl he
end Go.Proofs.YtegenalcheooeaaGreat

/- suite.mark: walked. -/
set_option linter.unusedSectionVars false
set_option linter.unusedSimpArgs false
set_option linter.unusedVariables false
namespace Go.Proofs.YtegenalcheooeaaGreat
open Go.RowKit
attribute [local go_sem] cell?_exto
open Go.Shelf

def markL (s : Sy) (x : Lb) (bs : List Bool) : List Bool := if inLb x s.ls = true then bs.set (bsLb s.ls x) true else bs
theorem markL_len (s : Sy) (x : Lb) (bs : List Bool) : (markL s x bs).length = bs.length := by unfold markL; split <;> simp
theorem inLb_lt {s : Sy} {x : Lb} (h : inLb x s.ls = true) : bsLb s.ls x < s.ls.length := by
  by_cases hl : bsLb s.ls x < s.ls.length
  · exact hl
  · rw [inLb, isAt_end hl] at h; cases h
set_option maxHeartbeats 1000000 in
set_option maxRecDepth 100000 in
theorem mark_c (S : Nat → Prop) (s : Sy) (g : Nat) (x : Lb) (bs : List Bool) (base : Nat) (v1 v2 : Value) (cx : List Value) (w : World) (hS : IsSys S w g s) (hx : RLb S w x cx) (hr : RBs base w bs v1) (h2 : ∃ A n c, v2 = .slice A n c) (hlen : bs.length = s.ls.length) (hl : s.ls.length ≤ 1000000) :
    Calls Tryz.prog 174 #[.pointer (some ⟨g, 0, none⟩), .agg #[v1, v2], .agg cx.toArray] w fun e w' => e = .returned (.tuple #[]) ∧ RBs base w' (markL s x bs) v1 ∧ Bt (fun q => v1.ownBlock = some q) w w' := by
  obtain ⟨v, u, m, f, hg, hL, hE, hZg, hZm, hM, hno, hrow⟩ := hS.ex
  have hcon := fun W (hW : Ext w W) => bsearch_c S s.ls x v cx W (RLbs.good.bel hL hW) (RLb.good.bel hx hW) (by omega)
  obtain ⟨Al, cl, rfl, _, _⟩ := hL.val
  obtain ⟨_, vx, rfl, hvx⟩ := id hx
  obtain ⟨Ax, cx, rfl, _, _⟩ := hvx.val
  obtain ⟨A2, n2, c2, rfl⟩ := h2
  obtain ⟨A1, c1, rfl, _, _⟩ := (hr.sl RBool.good (by decide)).val
  have hglt := (Array.getElem?_eq_some_iff.1 hg).1
  have g1 : w.cell? ⟨g, 1, none⟩ = some (.slice Al s.ls.length cl) := cell_of_row w g 1 _ _ _ hg
  have HR := Lib.hid hr
  have hob : ∀ q, (Value.slice A1 bs.length c1).ownBlock = some q → base ≤ q ∧ q < w.heap.size := fun q hq => by obtain ⟨news, h2, _⟩ := hr; exact own_row_base h2 q hq
  have HLN := Lib.hid hlen
  clear hS hL hE hM hrow hno hg hx hvx hr hlen
  cases hin : inLb x s.ls with
  | false =>
    rw [hin] at hcon
    have HV := Lib.hid (show markL s x bs = bs from by unfold markL; rw [hin]; rfl)
    clear hin
    go_enter Tryz.func174, Tryz.ntmps174
    go_wp2_with fail
    obtain ⟨W, hW⟩ : ∃ W, (w.alloc (.cells #[.slice A1 bs.length c1, .slice A2 n2 c2] 145)).alloc (.cells #[.int .i64 x.g, .slice Ax x.v.length cx] 61) = W := ⟨_, rfl⟩
    have hXW : Ext w W := by rw [← hW]; exact ((Ext.refl w).alloc _).alloc _
    have y1 := Ext.keep hXW g1
    have y2 : W.cell? ⟨w.heap.size + 1, 0, none⟩ = some (.int .i64 x.g) := by subst hW; go_simp
    have y3 : W.cell? ⟨w.heap.size + 1, 1, none⟩ = some (.slice Ax x.v.length cx) := by subst hW; go_simp
    have y4 : W.cell? ⟨w.heap.size, 0, none⟩ = some (.slice A1 bs.length c1) := by subst hW; go_simp
    rw [hW]
    clear hW
    (refine wp_region_ext (by kernel_rfl) (by kernel_rfl) ?_; (repeat (first | go_big_quiet_step (exact quiet_extD (hcon _ (Ext.trans' hXW (exto_ext _ _)))) | quiet_step (exact quiet_extD (hcon _ (Ext.trans' hXW (exto_ext _ _)))))); refine wpQuiet_nil ?_)
    intro w3 hx3
    have hX3 : Ext w w3 := hXW.trans' hx3
    go_wp2_with fail
    go_end0
    rw [HV.out]
    exact ⟨rfl, HR.out.ext RBool.good hX3, hX3.bt⟩
  | true =>
    have hlt := inLb_lt hin
    rw [← HLN.out] at hlt
    rw [hin] at hcon
    have HV := Lib.hid (show markL s x bs = bs.set (bsLb s.ls x) true from by unfold markL; rw [hin]; rfl)
    obtain ⟨i, hi⟩ : ∃ i, bsLb s.ls x = i := ⟨_, rfl⟩
    rw [hi] at hcon hlt HV
    clear hin hi
    obtain ⟨news, hrow, _⟩ := id HR.out
    obtain ⟨gb, cap, he⟩ := Joins.ownsRow_form hrow (by omega)
    injection he with he1 _ he2
    subst he1
    obtain rfl := he2
    obtain ⟨u, gc, hu, gf⟩ := HR.out.get1 i (by omega)
    obtain rfl : u = .bool bs[i] := by simpa [RBool] using hu
    have hgb := hob gb rfl
    clear hrow hu
    go_enter Tryz.func174, Tryz.ntmps174
    go_wp2_with fail
    obtain ⟨W, hW⟩ : ∃ W, (w.alloc (.cells #[.slice (some ⟨gb, 0, none⟩) bs.length c1, .slice A2 n2 c2] 145)).alloc (.cells #[.int .i64 x.g, .slice Ax x.v.length cx] 61) = W := ⟨_, rfl⟩
    have hXW : Ext w W := by rw [← hW]; exact ((Ext.refl w).alloc _).alloc _
    have y1 := Ext.keep hXW g1
    have y2 : W.cell? ⟨w.heap.size + 1, 0, none⟩ = some (.int .i64 x.g) := by subst hW; go_simp
    have y3 : W.cell? ⟨w.heap.size + 1, 1, none⟩ = some (.slice Ax x.v.length cx) := by subst hW; go_simp
    have y4 : W.cell? ⟨w.heap.size, 0, none⟩ = some (.slice (some ⟨gb, 0, none⟩) bs.length c1) := by subst hW; go_simp
    rw [hW]
    clear hW
    (refine wp_region_ext (by kernel_rfl) (by kernel_rfl) ?_; (repeat (first | go_big_quiet_step (exact quiet_extD (hcon _ (Ext.trans' hXW (exto_ext _ _)))) | quiet_step (exact quiet_extD (hcon _ (Ext.trans' hXW (exto_ext _ _)))))); refine wpQuiet_nil ?_)
    intro w3 hx3
    have hX3 : Ext w w3 := hXW.trans' hx3
    have b0 : w3.cell? ⟨w.heap.size, 0, none⟩ = some (.slice (some ⟨gb, 0, none⟩) bs.length c1) := Ext.keep hx3 y4
    have gc3 := Ext.keep hX3 gc
    have gf3 := ext_fz hX3 (World.block_lt_of_cell? w _ gc) gf
    go_wp2_with fail
    go_end0
    rw [HV.out]
    refine ⟨rfl, ?_, Bt.set (Z := fun q => (Value.slice (some ⟨gb, 0, none⟩) bs.length c1).ownBlock = some q) (p := ⟨gb, i, none⟩) hX3.bt (.inr rfl) _⟩
    have hp := ROwn.put1 RBool.good (HR.out.ext RBool.good hX3) rfl i (.bool true) true (by omega) rfl
    exact hp
end Go.Proofs.YtegenalcheooeaaGreat

/- suite.covers: what it comes to. -/
set_option linter.unusedSectionVars false
set_option linter.unusedSimpArgs false
set_option linter.unusedVariables false
namespace Go.Proofs.YtegenalcheooeaaGreat
open Go.RowKit
attribute [local go_sem] cell?_exto
open Go.Shelf

/-! ### A drawn region with a call that writes, within a round -/
theorem anyIn_of_any {P : Program} {md : Region.Mode} {ops : Array Oper} {Q : Exit → Act → World → Prop} (l n : Nat) (hd : noDefer ops = true) (hno : ¬ LetsOut Q) : ∀ (fuel : Nat) (listed : Array Bool) (a : Act) (w : World),
    wpAny P md ops Q fuel listed a w → wpAnyIn (Fence.wide.inRound l) n P md ops Q fuel listed a w
  | 0, _, _, _, h => h
  | fuel + 1, listed, a, w, h => ⟨h.1, fun i hi => by
    have hh := wpOp_mono (fun a' w' h' => anyIn_of_any l n hd hno fuel _ a' w' h') (h.2 i hi)
    unfold wpOp at hh
    unfold wpOpIn
    cases ho : ops[i]? with
    | none =>
      simp only [ho] at hh ⊢
      exact hh
    | some o =>
      simp only [ho] at hh ⊢
      split
      · rename_i hw'
        simp only [hw', if_true] at hh
        exact opIn_round l n (noDefer_spec hd ho) (hh.resolve_right fun h => hno h.2)
      · rename_i hw'
        simp only [hw'] at hh
        exact ⟨fun _ _ => trivial, hh⟩⟩
theorem wpIn_region_held {P : Program} {l n id : Nat} {Q : Exit → Act → World → Prop} {a : Act} {w : World} {ls : List Oper} (S : World → Prop) (hm : P.follows .mixedOrders = true) (hd : noDefer ls.toArray = true) (hno : ¬ LetsOut Q) (hS : S w.drew)
    (h : S w.drew → wpAnyH P .any ls.toArray Q S ls.toArray.size (Array.replicate ls.toArray.size false) a w.drew) : (Code.region id ls.toArray true).wpIn (Fence.wide.inRound l) n P Q a w :=
  wpIn_region_any hm (anyIn_of_any l n hd hno _ _ _ _ (wpAny_of_held _ _ _ _ (h hS)))

/-- Which labels, which edges. -/
structure Cv where
  l : List Bool
  e : List Bool
/-- A test at its k-th beginning goes along an edge. -/
def hitAt (s : Sy) (tr : List Lb) (k : Nat) (l : Int) : Bool := lbHas s l fun y => decide (y.g = -1) || (match tr[k]? with
  | some x => visB y.g && decide (cmpLb y x = 0)
  | none => false)
def cvOne (s : Sy) (tr : List Lb) (k : Nat) (es : List Bool) (j : Fin s.es.length) : List Bool := if hitAt s tr k s.es[j].l = true then es.set j.1 true else es
def cvRow (s : Sy) (tr : List Lb) (k : Nat) (js : List (Fin s.es.length)) (es : List Bool) : List Bool := js.foldl (cvOne s tr k) es
def cvEs (s : Sy) (tr : List Lb) (k : Nat) (sts : List Int) (es : List Bool) : List Bool := sts.foldl (fun es st => cvRow s tr k (outN s.es st) es) es
def cvTr (s : Sy) (tr : List Lb) (k : Nat) (ls : List Bool) : List Bool := if k = 0 then ls else match tr[k - 1]? with
  | some x => markL s x ls
  | none => ls
def cvMus (s : Sy) (mu : List Lb) (ls : List Bool) : List Bool := mu.foldl (fun ls x => markL s x ls) ls
def cvMu (s : Sy) (t : Te) (k : Nat) (ls : List Bool) : List Bool := if k = t.tr.length then cvMus s t.mu ls else ls
def cvRound (s : Sy) (t : Te) (k : Nat) (c : Cv) : Cv := ⟨cvMu s t k (cvTr s t.tr k c.l), cvEs s t.tr k (afterL s (t.tr.take k)) c.e⟩
def cvGo (s : Sy) (t : Te) : Nat → Nat → Cv → Cv
  | 0, _, c => c
  | f + 1, k, c => if afterL s (t.tr.take k) = [] then c else cvGo s t f (k + 1) (cvRound s t k c)
/-- What a test covers, beside what was. -/
def covL (s : Sy) (t : Te) (c : Cv) : Cv := cvGo s t (t.tr.length + 1) 0 c
/-- Behind the first k rounds. -/
def cvUp (s : Sy) (t : Te) (c : Cv) : Nat → Cv
  | 0 => c
  | k + 1 => cvRound s t k (cvUp s t c k)
theorem cvOne_len (s : Sy) (tr : List Lb) (k : Nat) (es : List Bool) (j : Fin s.es.length) : (cvOne s tr k es j).length = es.length := by unfold cvOne; split <;> simp
theorem cvRow_len (s : Sy) (tr : List Lb) (k : Nat) : ∀ (js : List (Fin s.es.length)) (es : List Bool), (cvRow s tr k js es).length = es.length
  | [], _ => rfl
  | j :: js, es => (cvRow_len s tr k js _).trans (cvOne_len s tr k es j)
theorem cvRow_snoc (s : Sy) (tr : List Lb) (k : Nat) (js : List (Fin s.es.length)) (j : Fin s.es.length) (es : List Bool) : cvRow s tr k (js ++ [j]) es = cvOne s tr k (cvRow s tr k js es) j := by simp [cvRow]
theorem cvEs_len (s : Sy) (tr : List Lb) (k : Nat) : ∀ (sts : List Int) (es : List Bool), (cvEs s tr k sts es).length = es.length
  | [], _ => rfl
  | st :: sts, es => (cvEs_len s tr k sts _).trans (cvRow_len s tr k _ es)
theorem cvEs_snoc (s : Sy) (tr : List Lb) (k : Nat) (sts : List Int) (st : Int) (es : List Bool) : cvEs s tr k (sts ++ [st]) es = cvRow s tr k (outN s.es st) (cvEs s tr k sts es) := by simp [cvEs]
theorem cvTr_len (s : Sy) (tr : List Lb) (k : Nat) (ls : List Bool) : (cvTr s tr k ls).length = ls.length := by
  unfold cvTr
  split
  · rfl
  · split
    · exact markL_len ..
    · rfl
theorem cvMus_len (s : Sy) : ∀ (mu : List Lb) (ls : List Bool), (cvMus s mu ls).length = ls.length
  | [], _ => rfl
  | x :: mu, ls => (cvMus_len s mu _).trans (markL_len s x ls)
theorem cvMus_snoc (s : Sy) (mu : List Lb) (x : Lb) (ls : List Bool) : cvMus s (mu ++ [x]) ls = markL s x (cvMus s mu ls) := by simp [cvMus]
theorem cvRound_len (s : Sy) (t : Te) (k : Nat) (c : Cv) : (cvRound s t k c).l.length = c.l.length ∧ (cvRound s t k c).e.length = c.e.length := by
  constructor
  · show (cvMu s t k (cvTr s t.tr k c.l)).length = _
    unfold cvMu
    split
    · rw [cvMus_len, cvTr_len]
    · rw [cvTr_len]
  · exact cvEs_len ..
theorem cvUp_len (s : Sy) (t : Te) (c : Cv) : ∀ k, (cvUp s t c k).l.length = c.l.length ∧ (cvUp s t c k).e.length = c.e.length
  | 0 => ⟨rfl, rfl⟩
  | k + 1 => by
    have h1 := cvUp_len s t c k
    have h2 := cvRound_len s t k (cvUp s t c k)
    exact ⟨h2.1.trans h1.1, h2.2.trans h1.2⟩
theorem cvGo_len (s : Sy) (t : Te) : ∀ (f k : Nat) (c : Cv), (cvGo s t f k c).l.length = c.l.length ∧ (cvGo s t f k c).e.length = c.e.length
  | 0, _, _ => ⟨rfl, rfl⟩
  | f + 1, k, c => by
    rw [cvGo]
    split
    · exact ⟨rfl, rfl⟩
    · have h1 := cvGo_len s t f (k + 1) (cvRound s t k c)
      have h2 := cvRound_len s t k c
      exact ⟨h1.1.trans h2.1, h1.2.trans h2.2⟩
theorem covL_len (s : Sy) (t : Te) (c : Cv) : (covL s t c).l.length = c.l.length ∧ (covL s t c).e.length = c.e.length := cvGo_len ..

/-- The rows of a cover. -/
structure RCv (base : Nat) (w : World) (c : Cv) (v1 v2 : Value) : Prop where
  l : RBs base w c.l v1
  e : RBs base w c.e v2
  ap : ∀ q, v1.ownBlock = some q → v2.ownBlock ≠ some q
def ZCv (v1 v2 : Value) (q : Nat) : Prop := v1.ownBlock = some q ∨ v2.ownBlock = some q
theorem rbs_keep {base : Nat} {w w' : World} {bs : List Bool} {v : Value} {Z : Nat → Prop} (h : RBs base w bs v) (hb : Bt Z w w') (hz : ∀ q, v.ownBlock = some q → ¬ Z q) : RBs base w' bs v := by
  obtain ⟨news, ⟨h1, h2⟩, h3⟩ := h
  refine ⟨news, ⟨h1, h2.imp id ?_⟩, h3.imp fun x _ cs h => h⟩
  rintro ⟨g, cap, cur, rfl, hg, hh, hrest⟩
  exact ⟨g, cap, cur, rfl, hg, (hb.block g (Array.getElem?_eq_some_iff.1 hh).1 (hz g rfl)).trans hh, hrest⟩
theorem rbs_lt {base : Nat} {w : World} {bs : List Bool} {v : Value} (h : RBs base w bs v) {q : Nat} (hq : v.ownBlock = some q) : base ≤ q ∧ q < w.heap.size := by
  obtain ⟨news, h2, _⟩ := h
  exact own_row_base h2 q hq
theorem RCv.ext {base : Nat} {w w' : World} {c : Cv} {v1 v2 : Value} (h : RCv base w c v1 v2) (he : Ext w w') : RCv base w' c v1 v2 := ⟨h.l.ext RBool.good he, h.e.ext RBool.good he, h.ap⟩
theorem RCv.keep {base : Nat} {w w' : World} {c : Cv} {v1 v2 : Value} {Z : Nat → Prop} (h : RCv base w c v1 v2) (hb : Bt Z w w') (hz : ∀ q, ZCv v1 v2 q → ¬ Z q) : RCv base w' c v1 v2 :=
  ⟨rbs_keep h.l hb fun q e => hz q (.inl e), rbs_keep h.e hb fun q e => hz q (.inr e), h.ap⟩
theorem Bt.tail {Z Z' : Nat → Prop} {a b c : World} (h : Bt Z a b) (k : Bt Z' b c) (hz : ∀ i, Z' i → a.heap.size ≤ i) : Bt Z a c :=
  ⟨k.os.trans h.os, k.tape.trans h.tape, k.output.trans h.output, Nat.le_trans h.size k.size, fun i hi hn => (k.block i (Nat.lt_of_lt_of_le hi h.size) fun e => by have := hz i e; omega).trans (h.block i hi hn)⟩
theorem RCv.own {base B : Nat} {c : Cv} {v1 v2 : Value} {W0 : World} (h0 : RCv base W0 c v1 v2) (hB : W0.heap.size ≤ B) {X Y : World} {r : Option Nat} {c' : Cv} (h : RCv base X c' v1 v2) (hg : X.grownBy Y r) (hr : ∀ q, r = some q → B ≤ q) : RCv base Y c' v1 v2 := by
  have key : ∀ {bs v}, RBs base X bs v → (∀ q, v.ownBlock = some q → q < W0.heap.size) → RBs base Y bs v := fun h hq => rbs_keep h (Bt.of_grown hg) fun q e e' => by
    have := hq q e
    have := hr q e'.symm
    omega
  exact ⟨key h.l fun q e => (rbs_lt h0.l e).2, key h.e fun q e => (rbs_lt h0.e e).2, h.ap⟩
theorem rbs_own {base B : Nat} {bs0 bs : List Bool} {v : Value} {W0 : World} (h0 : RBs base W0 bs0 v) (hB : W0.heap.size ≤ B) {X Y : World} {r : Option Nat} (h : RBs base X bs v) (hg : X.grownBy Y r) (hr : ∀ q, r = some q → B ≤ q) : RBs base Y bs v := rbs_keep h (Bt.of_grown hg) fun q e e' => by
  have := (rbs_lt h0 e).2
  have := hr q e'.symm
  omega
end Go.Proofs.YtegenalcheooeaaGreat

