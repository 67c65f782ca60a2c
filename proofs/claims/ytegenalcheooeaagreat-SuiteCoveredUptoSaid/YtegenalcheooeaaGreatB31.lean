/- Of the proof of a law of the suites: LawS2, LawS3, LawFew, LawFew2, LawFew3. -/
import Derived.Test.YtegenalcheooeaaGreatB05
import Derived.Test.YtegenalcheooeaaGreatB22
import Derived.Test.YtegenalcheooeaaGreatB29
import Derived.Test.YtegenalcheooeaaGreatB30
import Derived.Laws.OwnMore
/- The law's words: labels, arcs, tests: walked. -/
set_option linter.unusedSectionVars false
set_option linter.unusedSimpArgs false
set_option linter.unusedVariables false
namespace Go.Proofs.YtegenalcheooeaaGreat
open Go.RowKit
attribute [local go_sem] cell?_exto
open Go.Shelf

theorem results_106 {fn : Func} {p : Tmp} (h : fn.results = #[.cell p 106]) (tmps : Array Value) (w : World) (g : Nat) (x y z u : Value) (hp : tmps.getD p undef = .pointer (some ⟨g, 0, none⟩)) (h0 : w.cell? ⟨g, 0, none⟩ = some x) (h1 : w.cell? ⟨g, 1, none⟩ = some y) (h2 : w.cell? ⟨g, 2, none⟩ = some z) (h3 : w.cell? ⟨g, 3, none⟩ = some u) :
    (results fn tmps).run Tryz.prog w = .ok (.agg #[x, y, z, u]) w := by
  have hp' : tmps[p]?.getD undef = .pointer (some ⟨g, 0, none⟩) := by simpa using hp
  simp [results, h, hp', asAddr, go_sem, h0, h1, h2, h3]
theorem results_40 {fn : Func} {p : Tmp} (h : fn.results = #[.cell p 40]) (tmps : Array Value) (w : World) (g : Nat) (x y : Value) (hp : tmps.getD p undef = .pointer (some ⟨g, 0, none⟩)) (h0 : w.cell? ⟨g, 0, none⟩ = some x) (h1 : w.cell? ⟨g, 1, none⟩ = some y) :
    (results fn tmps).run Tryz.prog w = .ok (.agg #[x, y]) w := by
  have hp' : tmps[p]?.getD undef = .pointer (some ⟨g, 0, none⟩) := by simpa using hp
  simp [results, h, hp', asAddr, go_sem, h0, h1]
theorem results_25 {fn : Func} {p : Tmp} (h : fn.results = #[.cell p 25]) (tmps : Array Value) (w : World) (g : Nat) (x y z : Value) (hp : tmps.getD p undef = .pointer (some ⟨g, 0, none⟩)) (h0 : w.cell? ⟨g, 0, none⟩ = some x) (h1 : w.cell? ⟨g, 1, none⟩ = some y) (h2 : w.cell? ⟨g, 2, none⟩ = some z) :
    (results fn tmps).run Tryz.prog w = .ok (.agg #[x, y, z]) w := by
  have hp' : tmps[p]?.getD undef = .pointer (some ⟨g, 0, none⟩) := by simpa using hp
  simp [results, h, hp', asAddr, go_sem, h0, h1, h2]

set_option maxHeartbeats 1000000 in
set_option maxRecDepth 100000 in
theorem at_c (g : Int) (w : World) : Calls Tryz.prog 73 #[.int .i64 g] w fun e w' => e = .returned (.agg #[.int .i64 g, .slice none 0 0]) ∧ Ext w w' := by
  go_enter Tryz.func73, Tryz.ntmps73
  go_wp2_with fail
  exact bodyPost_ret (results_61 rfl _ _ w.heap.size _ _ rfl (by go_simp) (by go_simp)) rfl ⟨rfl, (by repeat (first | exact Ext.refl _ | apply Ext.alloc | apply Below.drew | apply Ext.drewN | refine Ext.trans' ?_ (by assumption) | refine Ext.trans' ?_ (ExtD.ext (by assumption))))⟩
set_option maxHeartbeats 1000000 in
set_option maxRecDepth 100000 in
theorem arc_c (f g t : Int) (w : World) : Calls Tryz.prog 75 #[.int .i64 f, .int .i64 g, .int .i64 t] w fun e w' => e = .returned (.agg #[.int .i64 f, .int .i64 g, .slice none 0 0, .int .i64 t]) ∧ Ext w w' := by
  go_enter Tryz.func75, Tryz.ntmps75
  go_wp2_with fail
  refine (at_c g _).mono ?_
  rintro e w1 ⟨rfl, h1⟩
  have hB : BoxL w1 w.heap.size 106 [.int .i64 0, .int .i64 0, .slice none 0 0, .int .i64 0] := (BoxL.new w 106 _).ext h1
  have c0 := hB.cell 0 _
  have c1 := hB.cell 1 _
  have c2 := hB.cell 2 _
  have c3 := hB.cell 3 _
  have f0 := hB.frozen 0
  have f1 := hB.frozen 1
  have f2 := hB.frozen 2
  have f3 := hB.frozen 3
  have hX : Ext w w1 := (by repeat (first | exact Ext.refl _ | apply Ext.alloc | apply Below.drew | apply Ext.drewN | refine Ext.trans' ?_ (by assumption) | refine Ext.trans' ?_ (ExtD.ext (by assumption))))
  go_wp2_with fail
  have hB4 := (((hB.set 0 (.int .i64 f)).set 1 (.int .i64 g)).set 2 (.slice none 0 0)).set 3 (.int .i64 t)
  exact bodyPost_ret (results_106 rfl _ _ w.heap.size _ _ _ _ rfl (hB4.cell 0 _) (hB4.cell 1 _) (hB4.cell 2 _) (hB4.cell 3 _)) rfl ⟨rfl, (((hX.set (p := ⟨w.heap.size, 0, none⟩) (Nat.le_refl _) _).set (p := ⟨w.heap.size, 1, none⟩) (Nat.le_refl _) _).set (p := ⟨w.heap.size, 2, none⟩) (Nat.le_refl _) _).set (p := ⟨w.heap.size, 3, none⟩) (Nat.le_refl _) _⟩
set_option maxHeartbeats 1000000 in
set_option maxRecDepth 100000 in
theorem test_c (v u : Value) (A B : Option Addr) (m n c d : Nat) (hv : v = .slice A m c) (hu : u = .slice B n d) (w : World) : Calls Tryz.prog 76 #[v, u] w fun e w' => e = .returned (.agg #[v, u]) ∧ Ext w w' := by
  subst hv hu
  go_enter Tryz.func76, Tryz.ntmps76
  go_wp2_with fail
  exact bodyPost_ret (results_40 rfl _ _ w.heap.size _ _ rfl (by go_simp) (by go_simp)) rfl ⟨rfl, (by repeat (first | exact Ext.refl _ | apply Ext.alloc | apply Below.drew | apply Ext.drewN | refine Ext.trans' ?_ (by assumption) | refine Ext.trans' ?_ (ExtD.ext (by assumption))))⟩
end Go.Proofs.YtegenalcheooeaaGreat

/- The law's built: walked. -/
set_option linter.unusedSectionVars false
set_option linter.unusedSimpArgs false
set_option linter.unusedVariables false
namespace Go.Proofs.YtegenalcheooeaaGreat
open Go.RowKit
attribute [local go_sem] cell?_exto
open Go.Shelf

def BuiltPost (s : Sy) (w : World) (e : Ending) (w' : World) : Prop := ∃ cs, e = .returned (.agg cs.toArray) ∧ RSy (fun b => w.heap.size ≤ b) w' s cs ∧ Ext w w'
set_option maxHeartbeats 1000000 in
set_option maxRecDepth 100000 in
theorem built_c (S : Nat → Prop) (n : Int) (hn : 1 ≤ n ∧ n ≤ 20000) (rs : List Ar) (v : Value) (w : World) (hx : RSl RAr 4 S w rs [v]) (hin : ∀ a ∈ rs, (0 ≤ a.f ∧ a.f < n) ∧ 0 ≤ a.t ∧ a.t < n) (hok : ∀ a ∈ rs, okLb a.l = true ∧ a.l.size ≤ 1000000000) (hlen : rs.length ≤ 100000)
    (hl : (addAll rs [] []).1.length ≤ 12) (hnd : noDup (sortB cmpEd (edR (addAll rs [] []).1 (addAll rs [] []).2))) : Calls Tryz.prog 74 #[.int .i64 n, v] w (BuiltPost (buildS n rs) w) := by
  obtain ⟨A, c, rfl, hc, hc0⟩ := hx.val
  have hcon := fun W (hW : Ext w W) => build_c S n hn rs _ W ((RSl.good RAr.good).bel hx hW) hin hok hlen hl hnd
  obtain ⟨s, hs⟩ : ∃ s, buildS n rs = s := ⟨_, rfl⟩
  have HS := Lib.hid hs
  clear hx hin hok hnd hs
  go_enter Tryz.func74, Tryz.ntmps74
  go_wp2_with fail
  refine (hcon _ (by repeat (first | exact Ext.refl _ | apply Ext.alloc | apply Below.drew | apply Ext.drewN | refine Ext.trans' ?_ (by assumption) | refine Ext.trans' ?_ (ExtD.ext (by assumption))))).mono ?_
  rintro e w1 ⟨cs, rfl, hsy, hx1⟩
  rw [HS.out] at hsy
  obtain ⟨j1, v1, v2, rfl, hv1, hv2⟩ := id hsy
  obtain ⟨A1, c1, rfl, _, _⟩ := hv1.val
  obtain ⟨A2, c2, rfl, _, _⟩ := hv2.val
  have hB : BoxL w1 w.heap.size 25 [.int .i64 0, .slice none 0 0, .slice none 0 0] := (BoxL.new w 25 _).ext hx1
  have r0 := hB.cell 0 _
  have r1 := hB.cell 1 _
  have r2 := hB.cell 2 _
  have rz0 := hB.frozen 0
  have rz1 := hB.frozen 1
  have rz2 := hB.frozen 2
  have hRl := hB.lt
  have HB := Lib.hid hB
  have HSY := Lib.hid hsy
  have HX : Hid (Ext w w1) := ((Ext.refl w).alloc _).trans' hx1
  clear hv1 hv2 hsy hB hx1 hcon
  go_wp2_with fail
  have hB3 := ((HB.out.set 0 (.int .i64 s.n)).set 1 (.slice A1 s.ls.length c1)).set 2 (.slice A2 s.es.length c2)
  have sAll : Bt (fun q => q = w.heap.size) w1 (((w1.setCell ⟨w.heap.size, 0, none⟩ (.int .i64 s.n)).setCell ⟨w.heap.size, 1, none⟩ (.slice A1 s.ls.length c1)).setCell ⟨w.heap.size, 2, none⟩ (.slice A2 s.es.length c2)) :=
    Bt.set (Z := fun q => q = w.heap.size) (p := ⟨w.heap.size, 2, none⟩) (Bt.set (Z := fun q => q = w.heap.size) (p := ⟨w.heap.size, 1, none⟩) (Bt.set (Z := fun q => q = w.heap.size) (p := ⟨w.heap.size, 0, none⟩) (Bt.refl _ _) (.inr rfl) _) (.inr rfl) _) (.inr rfl) _
  have hB4 := hB3.ext ((Ext.refl _).alloc (.cells #[.int .i64 s.n, .slice A1 s.ls.length c1, .slice A2 s.es.length c2] 25))
  refine bodyPost_ret (results_25 rfl _ _ w.heap.size _ _ _ rfl (hB4.cell 0 _) (hB4.cell 1 _) (hB4.cell 2 _)) rfl ⟨[.int .i64 s.n, .slice A1 s.ls.length c1, .slice A2 s.es.length c2], rfl, ?_, (Bt.new HX.out sAll fun q _ h => by omega).alloc _⟩
  rw [HS.out]
  refine RSy.good.mono (RSy.good.bel (RSy.good.move HSY.out (sAll.kp fun q _ h h' => ?_)) ((Ext.refl _).alloc _)) fun b _ h => ?_
  · simp only [World.size_alloc] at h; omega
  · simp only [World.size_alloc] at h; omega
end Go.Proofs.YtegenalcheooeaaGreat

/- The law's few, slight, small, light: walked. -/
set_option linter.unusedSectionVars false
set_option linter.unusedSimpArgs false
set_option linter.unusedVariables false
namespace Go.Proofs.YtegenalcheooeaaGreat
open Go.RowKit
attribute [local go_sem] cell?_exto
open Go.Shelf

mutual
def visT : Tm → Int → Int → Bool × Int
  | .mk _ _ l, d, c => if 0 ≤ IntKind.i64.wrap (c - 1) ∧ d < 100 then (!(visL l (d + 1) (IntKind.i64.wrap (c - 1))).1, (visL l (d + 1) (IntKind.i64.wrap (c - 1))).2) else (false, IntKind.i64.wrap (c - 1))
def visL : List Tm → Int → Int → Bool × Int
  | [], _, c => (false, c)
  | t :: ts, d, c => if !(visT t d c).1 then (true, (visT t d c).2) else visL ts d (visT t d c).2
end
theorem visT_eq (t : Tm) (d c : Int) : visT t d c = if 0 ≤ IntKind.i64.wrap (c - 1) ∧ d < 100 then (!(visL t.l (d + 1) (IntKind.i64.wrap (c - 1))).1, (visL t.l (d + 1) (IntKind.i64.wrap (c - 1))).2) else (false, IntKind.i64.wrap (c - 1)) := by cases t; rw [visT]; rfl
def visStep (d : Int) (c : Int) (t : Tm) : Bool × Int := (!(visT t d c).1, (visT t d c).2)
theorem visL_any (d : Int) : ∀ (l : List Tm) (c : Int), anyS (visStep d) c l = visL l d c
  | [], c => by rw [visL]; rfl
  | t :: ts, c => by
    rw [anyS, visL, visL_any d ts]
    rfl

/-- What lies in memory while terms are being counted. -/
structure CntI (Bc Bf : Nat) (W0 : World) (c : Int) (W : World) : Prop where
  bt : Bt (fun q => q = Bc) W0 W
  box : BoxL W Bc 3 [.int .i64 c]
  i64 : I64 c
  fn : W0.cell? ⟨Bf, 0, none⟩ = some (.func (.func 136) #[] #[.pointer (some ⟨Bc, 0, none⟩), .pointer (some ⟨Bf, 0, none⟩)])
  ne : Bf ≠ Bc
theorem CntI.ext {Bc Bf : Nat} {W0 W W' : World} {c : Int} (h : CntI Bc Bf W0 c W) (he : Ext W W') : CntI Bc Bf W0 c W' := ⟨h.bt.ext he, h.box.ext he, h.i64, h.fn, h.ne⟩
theorem CntI.fn' {Bc Bf : Nat} {W0 W : World} {c : Int} (h : CntI Bc Bf W0 c W) : W.cell? ⟨Bf, 0, none⟩ = some (.func (.func 136) #[] #[.pointer (some ⟨Bc, 0, none⟩), .pointer (some ⟨Bf, 0, none⟩)]) := h.bt.cell h.fn h.ne
theorem wrap_i64 (n : Int) : I64 (IntKind.i64.wrap n) := by unfold I64; simp [IntKind.wrap, IntKind.bits, IntKind.signed]; omega
theorem eg138 : ∀ args w, (callFunc 138 args).run Tryz.prog w = .ok (.enter 138 args) w := enters_of Tryz.func138 (by kernel_rfl) rfl
theorem eg139 : ∀ args w, (callFunc 139 args).run Tryz.prog w = .ok (.enter 139 args) w := enters_of Tryz.func139 (by kernel_rfl) rfl

def VisC (t : Tm) : Prop := ∀ (S : Nat → Prop) (Bc Bf : Nat) (W0 W : World) (cs : List Value) (d c : Int), RTm S W t cs → (∀ q, S q → q ≠ Bc) → 0 ≤ d → d ≤ 100 → CntI Bc Bf W0 c W →
  Calls Tryz.prog 136 #[.agg cs.toArray, .int .i64 d, .pointer (some ⟨Bc, 0, none⟩), .pointer (some ⟨Bf, 0, none⟩)] W fun e w' => e = .returned (.bool (visT t d c).1) ∧ CntI Bc Bf W0 (visT t d c).2 w' ∧ Bt (fun q => q = Bc) W w'
set_option maxHeartbeats 1000000 in
set_option maxRecDepth 100000 in
theorem vis2_c (t : Tm) (ht : VisC t) (S : Nat → Prop) (Bc Bf Bd : Nat) (W0 W : World) (cs : List Value) (d c : Int) (hx : RTm S W t cs) (hS : ∀ q, S q → q ≠ Bc) (hd0 : 0 ≤ d) (hd1 : d < 100) (hI : CntI Bc Bf W0 c W) (hd : W.cell? ⟨Bd, 0, none⟩ = some (.int .i64 d)) :
    Calls Tryz.prog 138 #[.agg cs.toArray, .pointer (some ⟨Bf, 0, none⟩), .pointer (some ⟨Bd, 0, none⟩)] W fun e w' => e = .returned (.bool (visStep (d + 1) c t).1) ∧ CntI Bc Bf W0 (visStep (d + 1) c t).2 w' ∧ Bt (fun q => q = Bc) W w' := by
  obtain ⟨i1, i2, v, rfl, hv⟩ := (RTm_iff ..).1 hx
  obtain ⟨A, k, rfl, _, _⟩ := hv.val
  have hrec := fun W' (hW : Ext W W') => ht S Bc Bf W0 W' _ (d + 1) c (RTm.good.bel hx hW) hS (by omega) (by omega) (hI.ext hW)
  have f0 := hI.fn'
  have hBf := World.block_lt_of_cell? W _ f0
  have hBd := World.block_lt_of_cell? W _ hd
  unfold visStep
  obtain ⟨r, hr⟩ : ∃ r, visT t (d + 1) c = r := ⟨_, rfl⟩
  rw [hr] at hrec ⊢
  obtain ⟨b, c'⟩ := r
  clear hx hv hI hr ht
  go_enter Tryz.func138, Tryz.ntmps138
  go_wp2_with fail
  refine (hrec _ (by repeat (first | exact Ext.refl _ | apply Ext.alloc | apply Below.drew | apply Ext.drewN | refine Ext.trans' ?_ (by assumption) | refine Ext.trans' ?_ (ExtD.ext (by assumption))))).mono ?_
  rintro e w1 ⟨rfl, h1, hb1⟩
  have H1 := Lib.hid h1
  have HB1 : Hid (Bt (fun q => q = Bc) W w1) := Bt.trans (by exact (by repeat (first | exact Bt.refl _ _ | assumption | apply Bt.alloc | apply Bt.drew | apply Bt.drewN | refine Bt.set ?_ (by first | (right; rfl) | (left; simp; omega) | (right; simp; omega)) _ | refine Bt.ext ?_ (by assumption) | refine Bt.trans ?_ (by assumption)))) hb1
  clear h1 hb1
  go_wp2_with fail
  go_ret
  exact ⟨rfl, H1.out, HB1.out⟩
set_option maxHeartbeats 1000000 in
set_option maxRecDepth 100000 in
theorem vis_of (t : Tm) (ht : ∀ x ∈ t.l, VisC x) : VisC t := by
  intro S Bc Bf W0 w cs d c hx hS hd0 hd1 hI
  obtain ⟨i1, i2, v, rfl, hv⟩ := (RTm_iff ..).1 hx
  obtain ⟨A, k, rfl, _, _⟩ := hv.val
  have q0 := hI.box.cell 0 _
  have qf := hI.box.frozen 0
  have hBl := hI.box.lt
  obtain ⟨c1, hc1⟩ : ∃ c1, IntKind.i64.wrap (c - 1) = c1 := ⟨_, rfl⟩
  have hi1 : I64 c1 := hc1 ▸ wrap_i64 _
  have hvt := visT_eq t d c
  rw [hc1] at hvt
  by_cases hcc : 0 ≤ c1 ∧ d < 100
  · rw [if_pos hcc] at hvt
    have hB : ∀ W, Ext w W → CntI Bc Bf W0 c1 (W.setCell ⟨Bc, 0, none⟩ (.int .i64 c1)) := fun W hW => ⟨Bt.set (Z := fun q => q = Bc) (p := ⟨Bc, 0, none⟩) (hI.bt.ext hW) (.inr rfl) _, (hI.box.ext hW).set 0 _, hi1, hI.fn, hI.ne⟩
    have hset : ∀ W : World, Bt (fun q => q = Bc) W (W.setCell ⟨Bc, 0, none⟩ (.int .i64 c1)) := fun W => Bt.set (Z := fun q => q = Bc) (p := ⟨Bc, 0, none⟩) (Bt.refl _ _) (.inr rfl) _
    have hcon := fun (W : World) (Bd : Nat) (hW : CntI Bc Bf W0 c1 W) (hl : RTms S W t.l [.slice A t.l.length k]) (hdc : W.cell? ⟨Bd, 0, none⟩ = some (.int .i64 d)) (hdn : ¬ Bd = Bc) =>
      conFTm (fun s W' => CntI Bc Bf W0 s W' ∧ Bt (fun q => q = Bc) W W') (visStep (d + 1)) S W t.l _ hl 138 #[.pointer (some ⟨Bf, 0, none⟩), .pointer (some ⟨Bd, 0, none⟩)] eg138 (fun s W' h => h.2.kp fun q _ hq => hS q hq)
        (fun x hx s cs W' hs hr => (vis2_c x (ht x hx) S Bc Bf Bd W0 W' cs d s hr hS hd0 hcc.2 hs.1 (hs.2.cell hdc hdn)).mono fun e w' h => ⟨h.1, h.2.1, hs.2.trans h.2.2⟩) c1 ⟨hW, Bt.refl _ _⟩
    rw [visL_any] at hcon
    obtain ⟨r, hr⟩ : ∃ r, visL t.l (d + 1) c1 = r := ⟨_, rfl⟩
    rw [hr] at hcon hvt
    have HVT := Lib.hid hvt
    have hc3 := hcc.1
    have hc4 := hcc.2
    obtain ⟨Ws, hWs⟩ : ∃ Ws, w.setCell ⟨Bc, 0, none⟩ (.int .i64 c1) = Ws := ⟨_, rfl⟩
    have hset : Bt (fun q => q = Bc) w Ws := by rw [← hWs]; exact Bt.set (Z := fun q => q = Bc) (p := ⟨Bc, 0, none⟩) (Bt.refl _ _) (.inr rfl) _
    have hbs : BoxL Ws Bc 3 [.int .i64 c1] := by rw [← hWs]; exact hI.box.set 0 _
    have hss : Ws.heap.size = w.heap.size := by rw [← hWs]; simp [World.setCell]
    obtain ⟨Wc, hWc, hc0, hc1', hXc, hsc⟩ := alloc2 Ws (.cells #[.int .i64 t.k, .int .i64 t.n, .slice A t.l.length k] 159) (.cells #[.int .i64 d] 3)
    have hbt : Bt (fun q => q = Bc) w Wc := hset.ext hXc
    have hC1 : CntI Bc Bf W0 c1 Wc := ⟨hI.bt.trans hbt, hbs.ext hXc, hi1, hI.fn, hI.ne⟩
    have hl1 : RTms S Wc t.l [.slice A t.l.length k] := RTms.good.move hv (hbt.kp fun q _ hq => hS q hq)
    have hBdl : BoxL Wc (w.heap.size + 1) 3 [.int .i64 d] := by rw [← hss]; exact hc1'
    have hcc2 := hcon Wc (w.heap.size + 1) hC1 hl1 (hBdl.cell 0 _) (by omega)
    have HBT := Lib.hid hbt
    have HWs := Lib.hid hWs
    have HWc := Lib.hid hWc
    clear hWs hWc
    clear hx hv hI hvt hr ht hcc hcon hset hbs hc0 hc1' hXc hC1 hl1 hBdl
    go_enter Tryz.func136, Tryz.ntmps136
    go_wp2_with fail
    rw [HWs.out, HWc.out]
    refine hcc2.mono ?_
    rintro e w5 ⟨rfl, h5, hb5⟩
    have H5 := Lib.hid h5
    have HB5 := Lib.hid hb5
    obtain ⟨rb, rc⟩ := r
    clear h5 hb5
    go_wp2_with fail
    go_ret
    exact ⟨by rw [HVT.out]; rfl, by rw [HVT.out]; exact H5.out, HBT.out.trans HB5.out⟩
  · rw [if_neg hcc] at hvt
    have HVT := Lib.hid hvt
    have HI := Lib.hid hI
    have hset : Bt (fun q => q = Bc) w (w.setCell ⟨Bc, 0, none⟩ (.int .i64 c1)) := Bt.set (Z := fun q => q = Bc) (p := ⟨Bc, 0, none⟩) (Bt.refl _ _) (.inr rfl) _
    have HF : Hid (∀ W, Ext (w.setCell ⟨Bc, 0, none⟩ (.int .i64 c1)) W → CntI Bc Bf W0 c1 W ∧ Bt (fun q => q = Bc) w W) := fun W hW => ⟨⟨(hI.bt.trans hset).ext hW, (hI.box.set 0 _).ext hW, hi1, hI.fn, hI.ne⟩, hset.ext hW⟩
    clear hx hv hI hvt ht hset
    by_cases h0 : 0 ≤ c1
    · have hd : ¬ d < 100 := fun h => hcc ⟨h0, h⟩
      clear hcc
      go_enter Tryz.func136, Tryz.ntmps136
      go_wp2_with fail
      go_ret
      rw [HVT.out]
      exact ⟨rfl, HF.out _ (by repeat (first | exact Ext.refl _ | apply Ext.alloc | apply Below.drew | apply Ext.drewN | refine Ext.trans' ?_ (by assumption) | refine Ext.trans' ?_ (ExtD.ext (by assumption))))⟩
    · clear hcc
      go_enter Tryz.func136, Tryz.ntmps136
      go_wp2_with fail
      go_ret
      rw [HVT.out]
      exact ⟨rfl, HF.out _ (by repeat (first | exact Ext.refl _ | apply Ext.alloc | apply Below.drew | apply Ext.drewN | refine Ext.trans' ?_ (by assumption) | refine Ext.trans' ?_ (ExtD.ext (by assumption))))⟩
theorem vis_c : ∀ t, VisC t := Tm.ind fun t ih => vis_of t ih
end Go.Proofs.YtegenalcheooeaaGreat

/- The law's few, slight: walked. -/
set_option linter.unusedSectionVars false
set_option linter.unusedSimpArgs false
set_option linter.unusedVariables false
namespace Go.Proofs.YtegenalcheooeaaGreat
open Go.RowKit
attribute [local go_sem] cell?_exto
open Go.Shelf

set_option maxHeartbeats 1000000 in
set_option maxRecDepth 100000 in
theorem few2_c (t : Tm) (S : Nat → Prop) (Bc Bf : Nat) (W0 W : World) (cs : List Value) (c : Int) (hx : RTm S W t cs) (hS : ∀ q, S q → q ≠ Bc) (hI : CntI Bc Bf W0 c W) :
    Calls Tryz.prog 139 #[.agg cs.toArray, .pointer (some ⟨Bf, 0, none⟩)] W fun e w' => e = .returned (.bool (visStep 0 c t).1) ∧ CntI Bc Bf W0 (visStep 0 c t).2 w' ∧ Bt (fun q => q = Bc) W w' := by
  obtain ⟨i1, i2, v, rfl, hv⟩ := (RTm_iff ..).1 hx
  obtain ⟨A, k, rfl, _, _⟩ := hv.val
  have hrec := fun W' (hW : Ext W W') => vis_c t S Bc Bf W0 W' _ 0 c (RTm.good.bel hx hW) hS (by omega) (by omega) (hI.ext hW)
  have f0 := hI.fn'
  have hBf := World.block_lt_of_cell? W _ f0
  unfold visStep
  obtain ⟨r, hr⟩ : ∃ r, visT t 0 c = r := ⟨_, rfl⟩
  rw [hr] at hrec ⊢
  obtain ⟨b, c'⟩ := r
  clear hx hv hI hr
  go_enter Tryz.func139, Tryz.ntmps139
  go_wp2_with fail
  refine (hrec _ (by repeat (first | exact Ext.refl _ | apply Ext.alloc | apply Below.drew | apply Ext.drewN | refine Ext.trans' ?_ (by assumption) | refine Ext.trans' ?_ (ExtD.ext (by assumption))))).mono ?_
  rintro e w1 ⟨rfl, h1, hb1⟩
  have H1 := Lib.hid h1
  have HB1 : Hid (Bt (fun q => q = Bc) W w1) := Bt.trans (by exact (by repeat (first | exact Bt.refl _ _ | assumption | apply Bt.alloc | apply Bt.drew | apply Bt.drewN | refine Bt.set ?_ (by first | (right; rfl) | (left; simp; omega) | (right; simp; omega)) _ | refine Bt.ext ?_ (by assumption) | refine Bt.trans ?_ (by assumption)))) hb1
  clear h1 hb1
  go_wp2_with fail
  go_ret
  exact ⟨rfl, H1.out, HB1.out⟩
def fewB (n : Int) (l : List Tm) : Bool := !(anyS (visStep 0) n l).1
set_option maxHeartbeats 1000000 in
set_option maxRecDepth 100000 in
theorem few_c (S : Nat → Prop) (n : Int) (hn : I64 n) (l : List Tm) (v : Value) (w : World) (hx : RTms S w l [v]) : Calls Tryz.prog 77 #[.int .i64 n, v] w fun e w' => e = .returned (.bool (fewB n l)) ∧ Ext w w' := by
  obtain ⟨A, k, rfl, _, _⟩ := hx.val
  have hx2 : RTms (fun q => q < w.heap.size) w l [.slice A l.length k] := RTms.good.mono hx fun b hb _ => hb
  have hcon : ∀ (Bc Bf : Nat) (W : World), Ext w W → Bc = w.heap.size → CntI Bc Bf W n W → Calls Tryz.prog 137 #[.slice A l.length k, .func (.func 139) #[] #[.pointer (some ⟨Bf, 0, none⟩)]] W fun e w' => e = .returned (.bool (anyS (visStep 0) n l).1) ∧ Bt (fun q => q = Bc) W w' := fun Bc Bf W hW hB hI =>
    (conFTm (fun s W' => CntI Bc Bf W s W' ∧ Bt (fun q => q = Bc) W W') (visStep 0) (fun q => q < w.heap.size) W l _ (RTms.good.bel hx2 hW) 139 #[.pointer (some ⟨Bf, 0, none⟩)] eg139 (fun s W' h => h.2.kp fun q _ hq hz => by omega)
      (fun x _ s cs W' hs hr => (few2_c x _ Bc Bf W W' cs s hr (fun q hq => by omega) hs.1).mono fun e w' h => ⟨h.1, h.2.1, hs.2.trans h.2.2⟩) n ⟨hI, Bt.refl _ _⟩).mono fun e w' h => ⟨h.1, h.2.2⟩
  obtain ⟨r, hr⟩ : ∃ r, (anyS (visStep 0) n l).1 = r := ⟨_, rfl⟩
  rw [hr] at hcon
  have HFB : Hid (fewB n l = !r) := by show _ = _; rw [← hr]; rfl
  clear hx hx2 hr
  go_enter Tryz.func77, Tryz.ntmps77
  go_wp2_with fail
  obtain ⟨W2, hW2, h20, h21, hX2, hs2⟩ := alloc2 w (.cells #[.int .i64 n] 3) (.cells #[.func (.func 136) #[] #[.pointer (some ⟨w.heap.size, 0, none⟩), .pointer (some ⟨w.heap.size + 1, 0, none⟩)]] 179)
  rw [hW2]
  clear hW2
  have hI : CntI w.heap.size (w.heap.size + 1) W2 n W2 := ⟨Bt.refl _ _, h20, hn, BoxL.cell (show BoxL W2 (w.heap.size + 1) 179 _ from h21) 0 _, by omega⟩
  refine (hcon _ _ W2 hX2 rfl hI).mono ?_
  rintro e w5 ⟨rfl, hb5⟩
  have HX : Hid (Ext w w5) := Bt.new hX2 hb5 fun q _ h => by omega
  clear hb5 hI h20 h21 hX2 hcon
  go_wp2_with fail
  go_ret
  exact ⟨by rw [HFB.out]; rfl, HX.out⟩

/-- A whole slice appended to a row of one's own. -/
theorem pushN {α : Type} {R : Rdr α} {k : Nat} (hR : Good R k) (hk : 0 < k) (base : Nat) (e ts : TypeId) (z : Value) (bs : Nat) (hu : Tryz.prog.underlying ts = some (.slice e)) (hi : (Tryz.prog.info? e).map (fun i => (i.zero, i.size, i.bytes)) = some (some z, k, bs)) (hzs : z.cells.size = k) (hbs : bs ≤ 1000)
    (T : Nat → Prop) (w : World) (xs ys : List α) (v u : Value) (hown : ROwn R k e base T w xs v) (hy : RSl R k (fun b => T b ∧ v.ownBlock ≠ some b) w ys [u]) (hbase : base ≤ w.heap.size) (hl : xs.length + ys.length ≤ 100000000) :
    ∃ A c w', (Builtin.append_ #[ts, ts] ts #[v, u]).run Tryz.prog w = .ok (.slice A (xs ++ ys).length c) w' ∧ ROwn R k e base T w' (xs ++ ys) (.slice A (xs ++ ys).length c) ∧ Bt (fun q => v.ownBlock = some q) w w' := by
  obtain ⟨i, hi, hzz⟩ := Option.map_eq_some_iff.1 hi
  simp only [Prod.mk.injEq] at hzz
  obtain ⟨hz0, hz1, hz2⟩ := hzz
  obtain ⟨A, c, hv, hc, hc0, h⟩ := hy
  injection hv with hv
  subst hv
  rcases A with _ | a
  · have hys : ys = [] := by
      rcases h with h | ⟨b, off, h, _⟩
      · exact h
      · cases h
    subst hys
    obtain ⟨A', c', rfl, _, _⟩ := (hown.sl hR hk).val
    rw [List.append_nil]
    refine ⟨A', c', w, ?_, hown, Bt.refl _ _⟩
    obtain ⟨news, hrow, _⟩ := hown
    rcases hrow.2 with ⟨h1, h2⟩ | ⟨g, cap, cur, h1, _, _, hnc, _⟩
    · rw [h1]
      simp [Builtin.append_, run_underlying hu, sizeOf, typeInfo, hi, Builtin.lenOf, Builtin.firstCells]
    · rw [h1]
      simp [Builtin.append_, run_underlying hu, sizeOf, typeInfo, hi, Builtin.lenOf, Builtin.firstCells, hnc, storeCells]
  · obtain ⟨news, hrow, hF⟩ := hown
    obtain ⟨cs, hG, hcell⟩ : ∃ cs, Flat R k (fun b => T b ∧ v.ownBlock ≠ some b) w ys cs ∧ ∀ j u, cs[j]? = some u → w.cell? (a.add j) = some u := by
      rcases h with rfl | ⟨b, off, ha, hb, hS, hr⟩
      · exact ⟨[], rfl, fun j u h => by simp at h⟩
      · obtain ⟨cs, h1, h2⟩ := hr.flat
        injection ha with ha
        subst ha
        exact ⟨cs, h1, fun j u hj => by rw [Addr.add_lit]; exact h2 j u hj⟩
    obtain ⟨v', w', hr, h1, h2, _, h4⟩ := run_append_own_at (P := Tryz.prog) w base ts ts e i z k bs hu hi hz0 hz1 hz2 hzs hk v xs.length news hrow a ys.length c cs hG.len hcell (hG.one hR)
      (by unfold maxLen; omega) (Nat.le_trans (Nat.mul_le_mul (show xs.length + ys.length ≤ 100000000 from hl) hbs) (by decide)) hbase
    have hp := ROwn.push hR hF hG h1 h2 h4
    obtain ⟨A', c', hv', _, _⟩ := (hp.sl hR hk).val
    subst hv'
    exact ⟨A', c', w', hr, hp, (Bt.of_grown h2).mono fun q _ h => h.symm⟩
end Go.Proofs.YtegenalcheooeaaGreat

/- The law's slight, small, light: walked. -/
set_option linter.unusedSectionVars false
set_option linter.unusedSimpArgs false
set_option linter.unusedVariables false
namespace Go.Proofs.YtegenalcheooeaaGreat
open Go.RowKit
attribute [local go_sem] cell?_exto
open Go.Shelf

theorem wpList_append_run {P : Program} {w w' : World} {ops : Array Oper} {rest : List Oper} {o : Oper} {a : Act} {Q : Exit → Act → World → Prop} (hgd : o.guard = none) (s x : Operand) (t : TypeId)
    (ho : o.op = .call { callee := .builtin .append, args := #[s, x], argTypes := #[t, t] }) (v u r : Value) (hs : a.eval s = v) (hx : a.eval x = u) (hr : (Builtin.append_ #[t, t] o.type #[v, u]).run P w = .ok r w')
    (h : wpList P ops Q rest (a.put o.dst r) w') : wpList P ops Q (o :: rest) a w := by
  refine wpList_plain hgd fun K hK => ?_
  unfold Oper.wp execOp
  simp only [ho, resolve, invoke, builtin, Sem.run_bind, Sem.run_pure, Result.andThen_ok, List.map_toArray, List.map_cons, List.map_nil, hs, hx, hr]
  exact hK _ _ h

def BoolPost (w : World) (e : Ending) (w' : World) : Prop := ∃ b, e = .returned (.bool b) ∧ Ext w w'
/-- slight -/
def slightB (ls : List Lb) : Bool := !(ls.any fun x => decide (20 < x.v.length)) && (decide (ls.length ≤ 100) && fewB 600 (ls.flatMap (·.v)))
theorem slightB_len {ls : List Lb} (h : slightB ls = true) : ls.length ≤ 100 := by
  simp only [slightB, Bool.and_eq_true, decide_eq_true_eq] at h
  exact h.2.1
theorem take_map {ls : List Lb} {k : Nat} (h : k < ls.length) : (ls.take k).flatMap (·.v) ++ ls[k].v = (ls.take (k + 1)).flatMap (·.v) ∧ (ls.take (k + 1)).any (fun x => decide (20 < x.v.length)) = ((ls.take k).any (fun x => decide (20 < x.v.length)) || decide (20 < ls[k].v.length)) := by
  rw [List.take_succ_eq_append_getElem h, List.flatMap_append, List.any_append]
  refine ⟨?_, ?_⟩
  · rw [List.flatMap_cons, List.flatMap_nil, List.append_nil]
  · rw [List.any_cons, List.any_nil, Bool.or_false]
set_option maxHeartbeats 1000000 in
set_option maxRecDepth 100000 in
theorem slight_c (S : Nat → Prop) (ls : List Lb) (v : Value) (w : World) (hx : RLbs S w ls [v]) (hlen : ls.length ≤ 4000000) : Calls Tryz.prog 16 #[v] w fun e w' => e = .returned (.bool (slightB ls)) ∧ Ext w w' := by
  obtain ⟨A, c, rfl, hc, hc0⟩ := hx.val
  have hx2 : RLbs (fun q => q < w.heap.size) w ls [.slice A ls.length c] := RLbs.good.mono hx fun b hb _ => hb
  have HX := Lib.hid hx2
  clear hx hx2
  go_enter Tryz.func16, Tryz.ntmps16
  go_wp2_with fail
  go_loopw [3, 8] (fun v3 vi wr => ∃ (k : Nat) (ys : List Tm) (Ao : Option Addr) (co : Nat), k ≤ ls.length ∧ vi = .int .i64 k ∧ v3 = .slice Ao ys.length co ∧ ys.length ≤ 20 * k ∧ Ext w wr ∧ Hid (ROwn RTm 3 159 w.heap.size (fun q => q < w.heap.size) wr ys (.slice Ao ys.length co)) ∧ Hid (ys = (ls.take k).flatMap (·.v) ∧ (ls.take k).any (fun x => decide (20 < x.v.length)) = false)) (fun _ vi _ => ls.length - (intOf vi).toNat)
  case atStart => exact ⟨0, [], none, 0, Nat.zero_le _, rfl, rfl, by simp, Ext.refl _, ROwn.nil .., by simp, by simp⟩
  case round =>
    obtain ⟨k, ys, Ao, co, hk, rfl, rfl, hyl, hE, hO, hY⟩ := hrel
    by_cases hlt : k < ls.length
    · obtain ⟨b, off, cs, rfl, hb, hSb, hl, hr, hcell⟩ := (RLbs.good.bel HX.out hE).get k hlt
      obtain ⟨j1, u, rfl, hu⟩ := id hr
      have a0 := hcell.get 0 _
      have a1 := hcell.get 1 _
      simp only [Nat.add_zero] at a0
      obtain ⟨Au, cu, rfl, hcu, hcu0⟩ := hu.val
      have HTM := Lib.hid (take_map hlt)
      have HIN := Lib.hid (List.getElem_mem hlt)
      obtain ⟨x, hxe⟩ : ∃ x, ls[k] = x := ⟨_, rfl⟩
      rw [hxe] at a0 a1 hu hcu HTM HIN
      by_cases h20 : 20 < x.v.length
      · have HV : Hid (slightB ls = false) := by
          show _ = _
          have : ls.any (fun x => decide (20 < x.v.length)) = true := List.any_eq_true.2 ⟨x, HIN.out, decide_eq_true h20⟩
          rw [slightB, this]
          rfl
        clear hr hu hl hcell hSb hxe hO hY HTM HIN
        go_wp2_with fail
        go_ret
        exact ⟨by rw [HV.out]; rfl, (by repeat (first | exact Ext.refl _ | apply Ext.alloc | apply Below.drew | apply Ext.drewN | refine Ext.trans' ?_ (by assumption) | refine Ext.trans' ?_ (ExtD.ext (by assumption))))⟩
      · have hEa : Ext wr (wr.alloc (.cells #[.int .i64 x.g, .slice Au x.v.length cu] 61)) := (Ext.refl wr).alloc _
        obtain ⟨A2, c2, w2, hr2, ho2, hb2⟩ := pushN RTm.good (by decide) w.heap.size 159 59 (.agg #[.int .i64 0, .int .i64 0, .slice none 0 0]) 40 Tryz.underlying59 infoTma rfl (by decide) (fun q => q < w.heap.size) _ ys x.v (.slice Ao ys.length co) _ (hO.out.ext RTm.good hEa)
          ((RSl.good RTm.good).mono ((RSl.good RTm.good).bel hu hEa) fun b _ h => ⟨h, fun e => by have := (hO.out.own_lt e).1; omega⟩) (by have := hE.size; simp; omega) (by omega)
        have HO2 := Lib.hid ho2
        have hlo : ∀ q, (Value.slice Ao ys.length co).ownBlock = some q → w.heap.size ≤ q := fun q e => (hO.out.own_lt e).1
        have HB2 : Hid (Ext w w2) := Bt.new (hE.trans' hEa) hb2 fun q _ h => hlo q h
        have hyl2 : (ys ++ x.v).length ≤ 20 * (k + 1) := by rw [List.length_append]; omega
        have HY2 : Hid (ys ++ x.v = (ls.take (k + 1)).flatMap (·.v) ∧ (ls.take (k + 1)).any (fun x => decide (20 < x.v.length)) = false) := by
          refine ⟨?_, ?_⟩
          · rw [← HTM.out.1, hY.out.1]
          · rw [HTM.out.2, hY.out.2, decide_eq_false h20]
            rfl
        clear hr hu hl hcell hSb hxe hO ho2 hb2 hlo hY HTM HIN
        go_wp2_with (at_builtin; refine wpList_append_run rfl _ _ _ rfl _ _ _ rfl rfl hr2 ?_; clear hr2)
        go_roundw
        case rel => exact ⟨k + 1, ys ++ x.v, A2, c2, by omega, by go_num, by rw [List.length_append], hyl2, HB2.out, HO2.out, HY2.out⟩
        case measure => simp [intOf]; omega
    · have hfew := fun W (hW : Ext wr W) => few_c _ 600 (by unfold I64; omega) ys _ W ((RSl.good RTm.good).bel (hO.out.sl RTm.good (by decide)) hW)
      have HV : Hid (slightB ls = (decide (ls.length ≤ 100) && fewB 600 ys)) := by
        show _ = _
        have h1 := hY.out.1
        have h2 := hY.out.2
        rw [List.take_of_length_le (by omega)] at h1 h2
        rw [slightB, h2, h1]
        rfl
      by_cases h100 : ls.length ≤ 100
      · have HV2 : Hid (slightB ls = fewB 600 ys) := by
          show _ = _
          rw [HV.out, decide_eq_true h100, Bool.true_and]
        clear hO hY HV
        go_wp2_with fail
        refine (hfew _ (by repeat (first | exact Ext.refl _ | apply Ext.alloc | apply Below.drew | apply Ext.drewN | refine Ext.trans' ?_ (by assumption) | refine Ext.trans' ?_ (ExtD.ext (by assumption))))).mono ?_
        rintro e w5 ⟨rfl, h5⟩
        go_wp2_with fail
        go_ret
        exact ⟨by rw [HV2.out]; rfl, (by repeat (first | exact Ext.refl _ | apply Ext.alloc | apply Below.drew | apply Ext.drewN | refine Ext.trans' ?_ (by assumption) | refine Ext.trans' ?_ (ExtD.ext (by assumption))))⟩
      · have HV2 : Hid (slightB ls = false) := by
          show _ = _
          rw [HV.out, decide_eq_false h100, Bool.false_and]
        clear hO hY HV
        go_wp2_with fail
        go_ret
        exact ⟨by rw [HV2.out]; rfl, (by repeat (first | exact Ext.refl _ | apply Ext.alloc | apply Below.drew | apply Ext.drewN | refine Ext.trans' ?_ (by assumption) | refine Ext.trans' ?_ (ExtD.ext (by assumption))))⟩

set_option maxHeartbeats 1000000 in
set_option maxRecDepth 100000 in
theorem small_c (S : Nat → Prop) (m : Int) (xs : List Sy) (v : Value) (w : World) (hx : RSl RSy 3 S w xs [v]) : Calls Tryz.prog 15 #[.int .i64 m, v] w (BoolPost w) := by
  obtain ⟨A, c, rfl, hc, hc0⟩ := hx.val
  have HX := Lib.hid hx
  clear hx
  go_enter Tryz.func15, Tryz.ntmps15
  go_wp2_with fail
  go_loopw [9] (fun vi wr => ∃ k : Nat, k ≤ xs.length ∧ vi = .int .i64 k ∧ Ext w wr) (fun vi _ => xs.length - (intOf vi).toNat)
  case atStart => exact ⟨0, Nat.zero_le _, rfl, Ext.refl _⟩
  case round =>
    obtain ⟨k, hk, rfl, hE⟩ := hrel
    by_cases hlt : k < xs.length
    · obtain ⟨b, off, cs, rfl, hb, hSb, hl, hr, hcell⟩ := ((RSl.good RSy.good).bel HX.out hE).get k hlt
      obtain ⟨j1, u1, u2, rfl, hu1, hu2⟩ := id hr
      have a0 := hcell.get 0 _
      have a1 := hcell.get 1 _
      have a2 := hcell.get 2 _
      simp only [Nat.add_zero] at a0
      obtain ⟨A1, c1, rfl, hc1, hc10⟩ := hu1.val
      obtain ⟨A2, c2, rfl, hc2, hc20⟩ := hu2.val
      have hsl := fun (h : xs[k].ls.length ≤ 16) W (hW : Ext wr W) => slight_c S _ _ W (RLbs.good.bel hu1 hW) (by omega)
      obtain ⟨s, hse⟩ : ∃ s, xs[k] = s := ⟨_, rfl⟩
      rw [hse] at a0 a1 a2 hsl hc1 hc2
      clear hr hu1 hu2 hl hcell hSb hse
      by_cases h1 : m < s.n
      all_goals by_cases h2 : s.n ≤ 20000
      all_goals by_cases h3 : 16 < s.ls.length
      all_goals by_cases h4 : 120 < s.es.length
      all_goals first
        | (have hs2 := hsl (by omega)
           clear hsl
           go_wp2_with fail
           refine (hs2 _ (by repeat (first | exact Ext.refl _ | apply Ext.alloc | apply Below.drew | apply Ext.drewN | refine Ext.trans' ?_ (by assumption) | refine Ext.trans' ?_ (ExtD.ext (by assumption))))).mono ?_
           rintro e w5 ⟨rfl, h5⟩
           obtain ⟨bb, hbb⟩ : ∃ bb, slightB s.ls = bb := ⟨_, rfl⟩
           rw [hbb]
           clear hbb
           cases bb
           · go_wp2_with fail
             go_ret
             exact ⟨_, rfl, (by repeat (first | exact Ext.refl _ | apply Ext.alloc | apply Below.drew | apply Ext.drewN | refine Ext.trans' ?_ (by assumption) | refine Ext.trans' ?_ (ExtD.ext (by assumption))))⟩
           · go_wp2_with fail
             go_roundw
             case rel => exact ⟨k + 1, by omega, by go_num, (by repeat (first | exact Ext.refl _ | apply Ext.alloc | apply Below.drew | apply Ext.drewN | refine Ext.trans' ?_ (by assumption) | refine Ext.trans' ?_ (ExtD.ext (by assumption))))⟩
             case measure => simp [intOf]; omega)
        | (clear hsl
           go_wp2_with fail
           go_ret
           exact ⟨_, rfl, (by repeat (first | exact Ext.refl _ | apply Ext.alloc | apply Below.drew | apply Ext.drewN | refine Ext.trans' ?_ (by assumption) | refine Ext.trans' ?_ (ExtD.ext (by assumption))))⟩)
    · go_wp2_with fail
      go_ret
      exact ⟨_, rfl, hE⟩
set_option maxHeartbeats 1000000 in
set_option maxRecDepth 100000 in
theorem light_c (S : Nat → Prop) (s : Sy) (cs : List Value) (d : Int) (w : World) (hx : RSy S w s cs) : Calls Tryz.prog 17 #[.agg cs.toArray, .int .i64 d] w (BoolPost w) := by
  obtain ⟨j1, u1, u2, rfl, hu1, hu2⟩ := hx
  obtain ⟨A1, c1, rfl, hc1, hc10⟩ := hu1.val
  obtain ⟨A2, c2, rfl, hc2, hc20⟩ := hu2.val
  have HX := Lib.hid hu1
  clear hu1 hu2
  go_enter Tryz.func17, Tryz.ntmps17
  go_wp2_with fail
  go_loopw [5, 11] (fun v5 vi wr => ∃ (k : Nat) (q : Int), k ≤ s.ls.length ∧ vi = .int .i64 k ∧ v5 = .int .i64 q ∧ 0 ≤ q ∧ q ≤ k ∧ Ext w wr) (fun _ vi _ => s.ls.length - (intOf vi).toNat)
  case atStart => exact ⟨0, 0, Nat.zero_le _, rfl, rfl, by omega, by omega, (by repeat (first | exact Ext.refl _ | apply Ext.alloc | apply Below.drew | apply Ext.drewN | refine Ext.trans' ?_ (by assumption) | refine Ext.trans' ?_ (ExtD.ext (by assumption))))⟩
  case round =>
    obtain ⟨k, q, hk, rfl, rfl, hq0, hq1, hE⟩ := hrel
    by_cases hlt : k < s.ls.length
    · obtain ⟨b, off, cs, rfl, hb, hSb, hl, hr, hcell⟩ := (RLbs.good.bel HX.out hE).get k hlt
      obtain ⟨j2, u, rfl, hu⟩ := id hr
      have a0 := hcell.get 0 _
      have a1 := hcell.get 1 _
      simp only [Nat.add_zero] at a0
      obtain ⟨Au, cu, rfl, _, _⟩ := hu.val
      obtain ⟨x, hxe⟩ : ∃ x, s.ls[k] = x := ⟨_, rfl⟩
      rw [hxe] at a0 a1
      clear hr hu hl hcell hSb hxe
      by_cases h1 : 0 ≤ x.g
      all_goals by_cases h2 : x.g = -2
      all_goals try (exfalso; omega)
      all_goals go_wp2_with fail
      all_goals go_roundw
      all_goals first
        | exact ⟨k + 1, q + 1, by omega, by go_num, by go_num, by omega, by omega, (by repeat (first | exact Ext.refl _ | apply Ext.alloc | apply Below.drew | apply Ext.drewN | refine Ext.trans' ?_ (by assumption) | refine Ext.trans' ?_ (ExtD.ext (by assumption))))⟩
        | exact ⟨k + 1, q, by omega, by go_num, by go_num, by omega, by omega, (by repeat (first | exact Ext.refl _ | apply Ext.alloc | apply Below.drew | apply Ext.drewN | refine Ext.trans' ?_ (by assumption) | refine Ext.trans' ?_ (ExtD.ext (by assumption))))⟩
        | (simp [intOf]; omega)
    · by_cases h1 : d ≤ 2
      all_goals by_cases h2 : 8 < d
      all_goals by_cases h3 : q ≤ 3
      all_goals by_cases h4 : d ≤ 4
      all_goals try (exfalso; omega)
      all_goals go_wp2_with fail
      all_goals go_ret
      all_goals first
        | exact ⟨_, rfl, hE⟩
        | omega
end Go.Proofs.YtegenalcheooeaaGreat

