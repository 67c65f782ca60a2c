/- Of the proof of a law of the suites: Sys2, Row, Clone, Copied. -/
import Derived.Test.YtegenalcheooeaaGreatM02
import Derived.Test.YtegenalcheooeaaGreatM03
import Derived.Lib.SliceRun
import Derived.Deep.RegionWith
import Derived.Laws.OwnMore
import Derived.Lib.SmallJoins
import Derived.RangeFuncBox
/- suite.newSystem, walked. -/
set_option linter.unusedSectionVars false
set_option linter.unusedSimpArgs false
set_option linter.unusedVariables false
namespace Go.Proofs.YtegenalcheooeaaGreat
open Go.RowKit
attribute [local go_sem] cell?_exto

theorem Rows.look {w : World} {base : Nat} {f : Int → Option Value} {g : Int → List Int} (h : Rows w base f g) (n : Int) : w.ownsRow base 3 1 ((f n).getD (.slice none 0 0)) (g n).length ((g n).map (Value.int .i64)) := by
  cases hn : f n with
  | none => rw [h.no n hn]; exact ⟨by simp, .inl ⟨rfl, rfl⟩⟩
  | some v => exact h.own n v hn
theorem Rows.congr {w : World} {base : Nat} {f : Int → Option Value} {g g' : Int → List Int} (h : Rows w base f g) (e : ∀ n, g' n = g n) : Rows w base f g' := by
  have : g' = g := funext e
  rw [this]; exact h

/-- append, run: as one step of a region that draws. -/
theorem step_append_run {P : Program} {ops : Array Oper} {o : Oper} {a : Act} {w w' : World} {K : Act → World → Prop} {Q : Exit → Act → World → Prop} {E : Prop} (hg : o.guard = none) (s x : Operand) (t : TypeId)
    (hop : o.op = Op.call { callee := Callee.builtin Builtin.append, args := #[s, x], argTypes := #[t, t] }) (v xv v' : Value) (hs : a.eval s = v) (hx : a.eval x = xv)
    (hrun : (Builtin.append_ #[t, t] o.type #[v, xv]).run P w = .ok v' w') (hK : K (a.put o.dst v') w') :
    if Region.wanted o (yielded ops a.tmps) = true then Oper.wp P o a w K Q else E := by
  have hw : Region.wanted o (yielded ops a.tmps) = true := by simp [Region.wanted, hg]
  rw [if_pos hw]
  unfold Oper.wp
  simp [execOp, hop, resolve, invoke, builtin, hs, hx, hrun, Result.andThen]
  exact hK

/-- What newSystem hands back. -/
def SysPost (S : Nat → Prop) (s : Sy) (w : World) (e : Ending) (w' : World) : Prop :=
  ∃ g, e = .returned (.tuple #[.pointer (some ⟨g, 0, none⟩), .int .i64 0]) ∧ Ext w w' ∧ w.heap.size ≤ g ∧ IsSys (fun k => S k ∨ w.heap.size ≤ k) w' g s

set_option maxHeartbeats 1000000 in
set_option maxRecDepth 100000 in
theorem newSystem_no (S : Nat → Prop) (s : Sy) (cs : List Value) (w : World) (hx : RSy S w s cs) (h : ¬ okSyP s) :
    Calls Tryz.prog 78 #[.agg cs.toArray] w fun e w' => e = .returned (.tuple #[.pointer none, .int .i64 8]) ∧ Ext w w' := by
  have hcon := fun W h => Check_c S s cs W h
  rw [ckSy_no h] at hcon
  obtain ⟨_, v, u, rfl, hv, hu⟩ := id hx
  have HX := Lib.hid hx
  clear hx hv hu h
  go_enter Tryz.func78, Tryz.ntmps78
  go_wp2_with fail
  refine (hcon _ (RSy.good.bel HX.out (by repeat (first | exact Ext.refl _ | apply Ext.alloc | apply Below.drew | apply Ext.drewN | refine Ext.trans' ?_ (by assumption) | refine Ext.trans' ?_ (ExtD.ext (by assumption)))))).mono ?_
  rintro e w1 ⟨rfl, h1⟩
  go_wp2_with fail
  go_ret2
  exact ⟨rfl, (by repeat (first | exact Ext.refl _ | apply Ext.alloc | apply Below.drew | apply Ext.drewN | refine Ext.trans' ?_ (by assumption) | refine Ext.trans' ?_ (ExtD.ext (by assumption))))⟩

theorem info3a : (Tryz.prog.info? 3).map (fun i => (i.zero, i.size, i.bytes)) = some (some (.int .i64 0), 1, 8) := by kernel_rfl
set_option maxHeartbeats 1000000 in
set_option maxRecDepth 100000 in
theorem newSystem_ok (S : Nat → Prop) (s : Sy) (cs : List Value) (w : World) (hx : RSy S w s cs) (h : okSyP s) :
    Calls Tryz.prog 78 #[.agg cs.toArray] w (SysPost S s w) := by
  have hcon := fun W h => Check_c S s cs W h
  rw [ckSy_yes h] at hcon
  have b4 : s.es.length ≤ 100000 := h.2.2.2.1
  obtain ⟨_, v, u, rfl, hv, hu⟩ := id hx
  obtain ⟨A', c', rfl, hc', hc0'⟩ := hu.val
  have HX := Lib.hid hx
  have HL := Lib.hid hv
  have HE := Lib.hid hu
  obtain ⟨i3, hi3, hzz⟩ := Option.map_eq_some_iff.1 info3a
  simp only [Prod.mk.injEq] at hzz
  obtain ⟨hz0, hz1, hz2⟩ := hzz
  have I3 := Lib.hid (And.intro hi3 (And.intro hz0 (And.intro hz1 hz2)))
  clear hx hv hu h hi3 hz0 hz1 hz2
  have hmm := @run_makeMap Tryz.prog
  go_enter Tryz.func78, Tryz.ntmps78
  go_wp2_with fail
  refine (hcon _ (RSy.good.bel HX.out (by repeat (first | exact Ext.refl _ | apply Ext.alloc | apply Below.drew | apply Ext.drewN | refine Ext.trans' ?_ (by assumption) | refine Ext.trans' ?_ (ExtD.ext (by assumption)))))).mono ?_
  rintro e w1 ⟨rfl, h1⟩
  have hc1 := h1.cells
  have hz : w.heap.size < w1.heap.size := by have := h1.size; simp at this; omega
  go_wp2_with fail
  have hsz1 : w1.heap.size < ((w1.alloc (Obj.map #[] 0)).alloc (Obj.cells #[Value.int IntKind.i64 s.n, v, Value.slice A' s.es.length c', Value.map (some w1.heap.size)] 184)).heap.size := by simp; omega
  have hst : ((w1.alloc (Obj.map #[] 0)).alloc (Obj.cells #[Value.int IntKind.i64 s.n, v, Value.slice A' s.es.length c', Value.map (some w1.heap.size)] 184)).heap[w1.heap.size + 1]? = some (Obj.cells #[Value.int IntKind.i64 s.n, v, Value.slice A' s.es.length c', Value.map (some w1.heap.size)] 184) := by
    have := Array.getElem?_push_size (xs := (w1.alloc (Obj.map #[] 0)).heap) (x := Obj.cells #[Value.int IntKind.i64 s.n, v, Value.slice A' s.es.length c', Value.map (some w1.heap.size)] 184)
    rwa [World.size_alloc] at this
  have hmp : IsMap (Value.int .i64) ((w1.alloc (Obj.map #[] 0)).alloc (Obj.cells #[Value.int IntKind.i64 s.n, v, Value.slice A' s.es.length c', Value.map (some w1.heap.size)] 184)) w1.heap.size (fun _ => none) :=
    (IsMap.new (Value.int .i64) w1).move (Below.heap_alloc _ _ _ (by simp))
  have HST := Lib.hid hst
  have HMP := Lib.hid hmp
  clear hst hmp
  go_loopw [20] (fun i wr => ∃ k : Nat, k ≤ s.es.length ∧ i = .int .i64 k ∧ Ext w1 wr ∧ w1.heap.size + 2 ≤ wr.heap.size ∧ Hid (wr.heap[w1.heap.size + 1]? = some (Obj.cells #[Value.int IntKind.i64 s.n, v, Value.slice A' s.es.length c', Value.map (some w1.heap.size)] 184)) ∧
    Hid (∃ f, IsMap (Value.int .i64) wr w1.heap.size f ∧ Rows wr (w1.heap.size + 2) f (outIx (s.es.take k)))) (fun i _ => s.es.length - (intOf i).toNat)
  case atStart => exact ⟨0, Nat.zero_le _, rfl, (by repeat (first | exact Ext.refl _ | apply Ext.alloc | apply Below.drew | apply Ext.drewN | refine Ext.trans' ?_ (by assumption) | refine Ext.trans' ?_ (ExtD.ext (by assumption)))), by simp, HST.out, fun _ => none, HMP.out, ⟨fun _ _ => rfl, fun _ _ h => by simp at h, fun _ _ _ _ _ h => by simp at h⟩⟩
  case round =>
    clear hsz1 hc1
    obtain ⟨k, hk, rfl, hX, hzr, hg, f, hf, hrows⟩ := hrel
    by_cases hlt : k < s.es.length
    · obtain ⟨b, off, cs, rfl, hb, hS, hl, hr, hcell⟩ := (REds.good.bel HE.out (((Ext.refl w).alloc (Obj.cells #[Value.int IntKind.i64 s.n, v, Value.slice A' s.es.length c'] 25)).trans' (h1.trans' hX))).get k hlt
      obtain ⟨i1, i2, i3', rfl⟩ := id hr
      have g0 := hcell.get 0 _
      have g1 := hcell.get 1 _
      have g2 := hcell.get 2 _
      simp only [Nat.add_zero] at g0
      have c3 : wr.cell? ⟨w1.heap.size + 1, 3, none⟩ = some (.map (some w1.heap.size)) := cell_of_row wr _ 3 _ _ _ hg.out
      have hz3 : w1.heap.size + 1 < wr.heap.size := by omega
      -- the worlds behind the loop's box and the literal
      obtain ⟨wa, hwa⟩ : ∃ wa, wa = wr.alloc (Obj.cells #[Value.int .i64 s.es[k].f, Value.int .i64 s.es[k].l, Value.int .i64 s.es[k].t] 88) := ⟨_, rfl⟩
      obtain ⟨wb, hwb⟩ : ∃ wb, wb = wa.alloc (Obj.cells #[Value.int .i64 k] 3) := ⟨_, rfl⟩
      have hma : wa.heap[w1.heap.size]? = wr.heap[w1.heap.size]? := by rw [hwa]; exact Below.heap_alloc _ _ _ (by omega)
      have hmb : wb.heap[w1.heap.size]? = wr.heap[w1.heap.size]? := by rw [hwb, Below.heap_alloc _ _ _ (by rw [hwa]; simp; omega)]; exact hma
      have hla := (hf.move (W' := wa.drew) hma).lookup Tryz.underlying182 keyInt (z := .slice none 0 0) (by kernel_rfl) s.es[k].f
      have hlb := (hf.move (W' := wb.drew) hmb).lookup Tryz.underlying182 keyInt (z := .slice none 0 0) (by kernel_rfl) s.es[k].f
      have hrow := hrows.look s.es[k].f
      have hrw := (hrow.alloc (Obj.cells #[Value.int .i64 s.es[k].f, Value.int .i64 s.es[k].l, Value.int .i64 s.es[k].t] 88))
      rw [← hwa] at hrw
      have hrw2 := hrw.alloc (Obj.cells #[Value.int .i64 (k : Int)] 3)
      rw [← hwb] at hrw2
      obtain ⟨hi3, hz0, hz1, hz2⟩ := I3.out
      have hout : (outIx (s.es.take k) s.es[k].f).length ≤ 100000 := by have := outFrom_len s.es[k].f (s.es.take k) 0; rw [List.length_take] at this; unfold outIx; omega
      have hzb : wb.heap.size = wr.heap.size + 2 := by rw [hwb, hwa]; simp
      obtain ⟨v', w2, hr2, hown2, hg2, _, hat2⟩ := run_append_own_at (P := Tryz.prog) wb.drew (w1.heap.size + 2) 53 53 3 i3 (.int .i64 0) 1 8 Tryz.underlying53 hi3 hz0 hz1 hz2 rfl (by decide) _ _ _ hrw2.drew ⟨wr.heap.size + 1, 0, none⟩ 1 1 [.int .i64 (k : Int)] rfl
        (fun j u hu => by
          rcases j with _ | j
          · simp at hu; subst hu
            show wb.cell? _ = _
            rw [hwb]
            have : wr.heap.size + 1 = wa.heap.size := by rw [hwa]; simp
            rw [Addr.add_lit, this]
            simp
          · simp at hu) (by simp [Value.oneCell']) (by unfold maxLen; omega) (by omega) (by show _ ≤ wb.heap.size; omega)
      have hblk : ∀ q, ((f s.es[k].f).getD (.slice none 0 0)).ownBlock = some q → w1.heap.size + 2 ≤ q ∧ q < wr.heap.size := fun q hq => own_row_base hrow q hq
      have hm2 : w2.heap[w1.heap.size]? = wr.heap[w1.heap.size]? := (hg2.block _ (by show _ < wb.heap.size; omega) (by intro e; have := hblk _ e.symm; omega)).trans hmb
      have hmp2 := hf.move hm2
      obtain ⟨w3, hr3, hmp3, hg3⟩ := hmp2.store (P := Tryz.prog) Tryz.underlying182 keyInt s.es[k].f v'
      have hgb : wb.heap[w1.heap.size + 1]? = wr.heap[w1.heap.size + 1]? := by rw [hwb, Below.heap_alloc _ _ _ (by rw [hwa]; simp; omega), hwa]; exact Below.heap_alloc _ _ _ (by omega)
      have hgw2 : w2.heap[w1.heap.size + 1]? = wr.heap[w1.heap.size + 1]? := (hg2.block _ (by show _ < wb.heap.size; omega) (by intro e; have := hblk _ e.symm; omega)).trans hgb
      have hsz2 : wb.heap.size ≤ w2.heap.size := hg2.size
      have hsz3 : w2.heap.size ≤ w3.heap.size := hg3.size
      have hgw3 : w3.heap[w1.heap.size + 1]? = wr.heap[w1.heap.size + 1]? := (hg3.block _ (by omega) (by intro e; injection e with e; omega)).trans hgw2
      have hbox : wb.heap[wr.heap.size]? = some (Obj.cells #[Value.int .i64 s.es[k].f, Value.int .i64 s.es[k].l, Value.int .i64 s.es[k].t] 88) := by
        rw [hwb, Below.heap_alloc _ _ _ (by rw [hwa]; simp), hwa]; exact Array.getElem?_push_size
      have hbox2 : w2.heap[wr.heap.size]? = some (Obj.cells #[Value.int .i64 s.es[k].f, Value.int .i64 s.es[k].l, Value.int .i64 s.es[k].t] 88) := (hg2.block _ (by show _ < wb.heap.size; omega) (by intro e; have := hblk _ e.symm; omega)).trans hbox
      have hbox3 : w3.heap[wr.heap.size]? = some (Obj.cells #[Value.int .i64 s.es[k].f, Value.int .i64 s.es[k].l, Value.int .i64 s.es[k].t] 88) := (hg3.block _ (by omega) (by intro e; injection e with e; omega)).trans hbox2
      have q2a : w2.cell? ⟨w1.heap.size + 1, 3, none⟩ = some (.map (some w1.heap.size)) := cell_of_row w2 _ 3 _ _ _ (hgw2.trans hg.out)
      have q3a : w3.cell? ⟨w1.heap.size + 1, 3, none⟩ = some (.map (some w1.heap.size)) := cell_of_row w3 _ 3 _ _ _ (hgw3.trans hg.out)
      have q2b : w2.cell? ⟨wr.heap.size, 0, none⟩ = some (.int .i64 s.es[k].f) := cell_of_row w2 _ 0 _ _ _ hbox2
      have q3b : w3.cell? ⟨wr.heap.size, 0, none⟩ = some (.int .i64 s.es[k].f) := cell_of_row w3 _ 0 _ _ _ hbox3
      have qba : wb.drew.cell? ⟨w1.heap.size + 1, 3, none⟩ = some (.map (some w1.heap.size)) := cell_of_row wb.drew _ 3 _ _ _ (hgb.trans hg.out)
      have qbb : wb.drew.cell? ⟨wr.heap.size, 0, none⟩ = some (.int .i64 s.es[k].f) := cell_of_row wb.drew _ 0 _ _ _ hbox
      -- what holds behind the round
      have eb : Ext wr wb.drew := by rw [hwb, hwa]; exact (((Ext.refl wr).alloc _).alloc _).drew
      have hX3 : Ext w1 w3 := by
        refine Bt.new (Z := fun q => w1.heap.size ≤ q) hX ?_ (fun _ _ h => h)
        exact (eb.bt.trans ((Bt.of_grown hg2).mono (fun q _ e => by have := hblk q e.symm; omega))).trans ((Bt.of_grown hg3).mono (fun q _ e => by injection e with e; omega))
      have hrows3 : Rows w3 (w1.heap.size + 2) (fun b => if b = s.es[k].f then some v' else f b) (outIx (s.es.take (k + 1))) := by
        have r1 : Rows wb.drew (w1.heap.size + 2) f (outIx (s.es.take k)) := hrows.kept (row := none) ⟨eb.os, eb.tape, eb.output, eb.size, fun q hq _ => eb.block q hq⟩ (fun _ h => by cases h)
        have r2 := (r1.put s.es[k].f (k : Int) hown2 hg2 (hat2.imp id fun h => ⟨_, h, Nat.le_refl _⟩)).kept hg3 (fun q hq => by injection hq with hq; omega)
        refine r2.congr fun n => ?_
        rw [outIx_snoc s.es k hlt n]
        by_cases e : n = s.es[k].f
        · subst e; simp
        · rw [if_neg (Ne.symm e), if_neg e]
      have HX3 := Lib.hid hX3
      have HR3 := Lib.hid hrows3
      have HM3 := Lib.hid hmp3
      have HG3 := Lib.hid (hgw3.trans hg.out)
      have hsz4 : w1.heap.size + 2 ≤ w3.heap.size := by omega
      have b4' : (k : Int) < 100000 := by omega
      subst hwb
      subst hwa
      clear hma hmb hrow hrw hrw2 hown2 hg2 hat2 hzb hblk hm2 hmp2 hgb hgw2 hsz2 hsz3 hgw3 hbox hbox2 hbox3 eb hX3 hrows3 hmp3 hg3 hi3 hz0 hz1 hz2 hf hrows hout hr hl hS hcell
      go_wp2_with fail
      go_region_held3 (fun W => W.cell? ⟨w1.heap.size + 1, 3, none⟩ = some (.map (some w1.heap.size)) ∧ W.cell? ⟨wr.heap.size, 0, none⟩ = some (.int .i64 s.es[k].f))
        (first | (refine ⟨?_, ?_⟩ <;> go_simp <;> done) | (refine ⟨?_, ?_⟩ <;> assumption))
        (refine step_append_run rfl _ _ _ rfl _ _ _ rfl rfl hr2 ?_)
      all_goals clear hla hlb hr2 hr3 q2a q2b q3a q3b qba qbb
      all_goals go_wp2_with fail
      all_goals go_roundw
      all_goals first
        | exact ⟨k + 1, by omega, by go_num, HX3.out, hsz4, HG3.out, _, HM3.out, HR3.out⟩
        | (simp [intOf]; omega)
    · have hE2 : Ext w wr := (((Ext.refl w).alloc (Obj.cells #[Value.int IntKind.i64 s.n, v, Value.slice A' s.es.length c'] 25)).trans' (h1.trans' hX))
      have hle : w.heap.size ≤ w1.heap.size := by omega
      have hkk : s.es.take k = s.es := List.take_of_length_le (by omega)
      rw [hkk] at hrows
      have HF := Lib.hid hf
      have HR := Lib.hid hrows
      clear hf hrows hkk
      go_wp2_with fail
      go_ret2
      refine ⟨w1.heap.size + 1, rfl, hE2, by omega, ⟨v, .slice A' s.es.length c', w1.heap.size, f, hg.out, ?_, ?_, .inr (by omega), .inr hle, HF.out, HR.out.no, fun n x hx => ?_⟩⟩
      · exact RLbs.good.mono (RLbs.good.bel HL.out hE2) (fun _ _ h => .inl h)
      · exact REds.good.mono (REds.good.bel HE.out hE2) (fun _ _ h => .inl h)
      · refine own_read (HR.out.own n x hx) (fun y hy => ?_) _ (fun q hq => .inr (by omega))
        obtain ⟨j, hj, rfl, _⟩ := outFrom_mem n s.es 0 y hy
        exact ⟨by omega, by omega⟩
end Go.Proofs.YtegenalcheooeaaGreat

/- Slices that a call has made itself: appended to, cloned. -/
set_option linter.unusedSectionVars false
set_option linter.unusedSimpArgs false
set_option linter.unusedVariables false
namespace Go.Proofs.YtegenalcheooeaaGreat
open Go.RowKit
attribute [local go_sem] cell?_exto

/-- The cells of elements, one behind the other. -/
def Flat {α : Type} (R : Rdr α) (k : Nat) (S : Nat → Prop) (w : World) : List α → List Value → Prop
  | [], cs => cs = []
  | x :: xs, cs => ∃ c1 c2, cs = c1 ++ c2 ∧ c1.length = k ∧ R S w x c1 ∧ Flat R k S w xs c2
section
variable {α : Type} {R : Rdr α} {k : Nat}
theorem Flat.len {S : Nat → Prop} {w : World} : ∀ {xs : List α} {cs : List Value}, Flat R k S w xs cs → cs.length = xs.length * k
  | [], cs, h => by rw [show cs = [] from h]; simp
  | x :: xs, cs, ⟨c1, c2, h1, h2, _, h4⟩ => by
    rw [h1, List.length_append, h2, h4.len, List.length_cons, Nat.add_mul]; omega
theorem Flat.imp {S S' : Nat → Prop} {w w' : World} : ∀ {xs : List α} {cs : List Value}, Flat R k S w xs cs → (∀ x ∈ xs, ∀ cs, R S w x cs → R S' w' x cs) → Flat R k S' w' xs cs
  | [], cs, h, _ => h
  | x :: xs, cs, ⟨c1, c2, h1, h2, h3, h4⟩, hR => ⟨c1, c2, h1, h2, hR x (by simp) _ h3, h4.imp fun y hy => hR y (by simp [hy])⟩
theorem Flat.append {S : Nat → Prop} {w : World} : ∀ {xs ys : List α} {cs ds : List Value}, Flat R k S w xs cs → Flat R k S w ys ds → Flat R k S w (xs ++ ys) (cs ++ ds)
  | [], ys, cs, ds, h, h' => by rw [show cs = [] from h]; exact h'
  | x :: xs, ys, cs, ds, ⟨c1, c2, h1, h2, h3, h4⟩, h' => ⟨c1, c2 ++ ds, by rw [h1, List.append_assoc], h2, h3, h4.append h'⟩
theorem Flat.single {S : Nat → Prop} {w : World} {x : α} {cs : List Value} (h : R S w x cs) (hl : cs.length = k) : Flat R k S w [x] cs := ⟨cs, [], by simp, hl, h, rfl⟩
theorem Flat.one (hR : Good R k) {S : Nat → Prop} {w : World} : ∀ {xs : List α} {cs : List Value}, Flat R k S w xs cs → ∀ u ∈ cs, u.oneCell' = true
  | [], cs, h, u, hu => by rw [show cs = [] from h] at hu; simp at hu
  | x :: xs, cs, ⟨c1, c2, h1, h2, h3, h4⟩, u, hu => by
    rw [h1, List.mem_append] at hu
    exact hu.elim (hR.one h3 u) (h4.one hR u)
/-- Of a row in memory its cells. -/
theorem RowAt.flat {S : Nat → Prop} {w : World} {b : Nat} : ∀ {off : Nat} {xs : List α}, RowAt R k S w b off xs → ∃ cs, Flat R k S w xs cs ∧ CellsAt w b off cs
  | _, [], _ => ⟨[], rfl, fun i v h => by simp at h⟩
  | off, x :: xs, ⟨⟨c1, h1, h2, h3⟩, h4⟩ => by
    obtain ⟨c2, h5, h6⟩ := RowAt.flat h4
    refine ⟨c1 ++ c2, ⟨c1, c2, rfl, h1, h2, h5⟩, fun i v h => ?_⟩
    rw [List.getElem?_append] at h
    split at h
    · exact h3 i v h
    · rename_i hlt
      have := h6 _ v h
      rwa [show off + k + (i - c1.length) = off + i from by omega] at this
theorem Flat.row {S : Nat → Prop} {w : World} {b : Nat} : ∀ {off : Nat} {xs : List α} {cs : List Value}, Flat R k S w xs cs → CellsAt w b off cs → RowAt R k S w b off xs
  | _, [], _, _, _ => trivial
  | off, x :: xs, cs, ⟨c1, c2, h1, h2, h3, h4⟩, hc => by
    subst h1
    refine ⟨⟨c1, h2, h3, fun i v h => hc i v ?_⟩, h4.row fun i v h => ?_⟩
    · have := (List.getElem?_eq_some_iff.1 h).1
      rw [List.getElem?_append_left this]; exact h
    · have := hc (k + i) v (by rw [List.getElem?_append_right (by omega), show k + i - c1.length = i from by omega]; exact h)
      rwa [show off + (k + i) = off + k + i from by omega] at this

/-- A slice that has been made since 'base': its cells; what they tell. T: where the elements' own memory may lie. -/
def ROwn {α : Type} (R : Rdr α) (k : Nat) (e : TypeId) (base : Nat) (T : Nat → Prop) (w : World) (xs : List α) (v : Value) : Prop :=
  ∃ news, w.ownsRow base e k v xs.length news ∧ Flat R k (fun b => T b ∧ v.ownBlock ≠ some b) w xs news
variable {e : TypeId} {base : Nat} {T : Nat → Prop} {w w' : World} {xs : List α} {v : Value}
theorem ROwn.nil (base : Nat) (T : Nat → Prop) (w : World) : ROwn R k e base T w [] (.slice none 0 0) := ⟨[], World.ownsRow_nil .., rfl⟩
theorem ROwn.sl (h : ROwn R k e base T w xs v) (hR : Good R k) (hk : 0 < k) : RSl R k (fun b => T b ∨ base ≤ b) w xs [v] := by
  obtain ⟨news, ⟨h1, h2⟩, h3⟩ := h
  rcases h2 with ⟨rfl, h2⟩ | ⟨g, cap, cur, rfl, hb, hh, hc, hm, hs, ht⟩
  · have : xs = [] := List.length_eq_zero_iff.1 h2
    subst this
    exact ⟨none, 0, rfl, Nat.le_refl _, by decide, .inl rfl⟩
  · refine ⟨some ⟨g, 0, none⟩, cap, rfl, hc, hm, .inr ⟨g, 0, rfl, (Array.getElem?_eq_some_iff.1 hh).1, .inr hb, ?_⟩⟩
    refine Flat.row (cs := news) (h3.imp fun x _ cs hx => hR.mono hx fun b _ hb' => .inl hb'.1) fun i u hi => ?_
    have hi' : cur[i]? = some u := by
      rw [← ht, List.getElem?_take] at hi
      split at hi
      · simpa using hi
      · cases hi
    rw [Nat.zero_add]
    exact (cell_of_row w g i cur e (0, 0) hh).trans hi'
theorem ROwn.keep (h : ROwn R k e base T w xs v) (hR : Good R k) (hk : ∀ b, b < w.heap.size → (T b ∨ base ≤ b) → w'.heap[b]? = w.heap[b]?) (hs : w.heap.size ≤ w'.heap.size) : ROwn R k e base T w' xs v := by
  obtain ⟨news, ⟨h1, h2⟩, h3⟩ := h
  refine ⟨news, ⟨h1, h2.imp id ?_⟩, h3.imp fun x _ cs hx => hR.move hx ⟨hs, fun b hb hb' => hk b hb (.inl hb'.1)⟩⟩
  rintro ⟨g, cap, cur, rfl, hb, hh, h⟩
  exact ⟨g, cap, cur, rfl, hb, (hk g (Array.getElem?_eq_some_iff.1 hh).1 (.inr hb)).trans hh, h⟩
theorem ROwn.ext (h : ROwn R k e base T w xs v) (hR : Good R k) (he : Ext w w') : ROwn R k e base T w' xs v :=
  h.keep hR (fun b hb _ => (Ext.kp (S := fun _ => True) he).block b hb trivial) he.size
theorem ROwn.mono {T' : Nat → Prop} (h : ROwn R k e base T w xs v) (hR : Good R k) (hT : ∀ b, b < w.heap.size → T b → T' b) : ROwn R k e base T' w xs v := by
  obtain ⟨news, h1, h3⟩ := h
  exact ⟨news, h1, h3.imp fun x _ cs hx => hR.mono hx fun b hb hb' => ⟨hT b hb hb'.1, hb'.2⟩⟩
/-- What append leaves, of what 'run_append_own_at' says. -/
theorem ROwn.push (hR : Good R k) {news cs : List Value} {ys : List α} {v' : Value} (hF : Flat R k (fun b => T b ∧ v.ownBlock ≠ some b) w xs news) (hG : Flat R k (fun b => T b ∧ v.ownBlock ≠ some b) w ys cs)
    (hown : w'.ownsRow base e k v' (xs.length + ys.length) (news ++ cs)) (hg : w.grownBy w' v.ownBlock) (hat : v'.ownBlock = v.ownBlock ∨ v'.ownBlock = some w.heap.size) : ROwn R k e base T w' (xs ++ ys) v' := by
  refine ⟨news ++ cs, by rw [List.length_append]; exact hown, ?_⟩
  have mv : ∀ {zs : List α} {ds}, Flat R k (fun b => T b ∧ v.ownBlock ≠ some b) w zs ds → Flat R k (fun b => T b ∧ v'.ownBlock ≠ some b) w' zs ds := fun h => h.imp fun x _ cs hx => by
    refine hR.mono (S := fun b => (T b ∧ v.ownBlock ≠ some b) ∧ b < w.heap.size) (hR.move (hR.mono hx fun b hb hb' => ⟨hb', hb⟩) ⟨hg.size, fun b hb hb' => hg.block b hb (fun e => hb'.1.2 e.symm)⟩) ?_
    rintro b _ ⟨⟨h1, h2⟩, h3⟩
    refine ⟨h1, ?_⟩
    rcases hat with hat | hat
    · rw [hat]; exact h2
    · rw [hat]; simp; omega
  exact (mv hF).append (mv hG)
end

/-! ### slices.Clone -/
/-- What Clone hands back. -/
def ClonePost {α : Type} (R : Rdr α) (k : Nat) (t : TypeId) (S : Nat → Prop) (xs : List α) (w : World) (e : Ending) (w' : World) : Prop :=
  ∃ v, e = .returned v ∧ ROwn R k t w.heap.size S w' xs v ∧ Ext w w'
end Go.Proofs.YtegenalcheooeaaGreat

/- slices.Clone at each element type. -/
set_option linter.unusedSectionVars false
set_option linter.unusedSimpArgs false
set_option linter.unusedVariables false
namespace Go.Proofs.YtegenalcheooeaaGreat
open Go.RowKit
attribute [local go_sem] cell?_exto

theorem infoLba : (Tryz.prog.info? 61).map (fun i => (i.zero, i.size, i.bytes)) = some (some (.agg #[.int .i64 0, .slice none 0 0]), 2, 32) := by kernel_rfl
set_option maxHeartbeats 1000000 in
set_option maxRecDepth 100000 in
/-- slices.Clone at Lb. -/
theorem cloneLb (S : Nat → Prop) (xs : List (Lb)) (v : Value) (w : World) (hx : RSl RLb 2 S w xs [v]) (hbig : xs.length * 32 ≤ 140737488355328) :
    Calls Tryz.prog 39 #[v] w (ClonePost RLb 2 61 S xs w) := by
  obtain ⟨A, c, hv, hc, hc0, h⟩ := hx
  injection hv with hv
  subst hv
  have qn : ∀ (w : World) (a : Option Addr) (n c n' c' : Nat), (binOp .eql 22 (.slice a n c) (.slice none n' c')).run Tryz.prog w = .ok (.bool a.isNone) w := fun w a n c n' c' => Lib.run_eql_slice_nil w _ _ a n c n' c' Tryz.underlying22
  rcases A with _ | a
  · have hxs : xs = [] := by
      rcases h with h | ⟨b, off, h, _⟩
      · exact h
      · cases h
    subst hxs
    go_enter Tryz.func39, Tryz.ntmps39
    go_wp2
    go_ret
    exact ⟨_, rfl, ROwn.nil .., Ext.refl _⟩
  · obtain ⟨news, hF, hcell⟩ : ∃ news, Flat RLb 2 S w xs news ∧ ∀ j u, news[j]? = some u → w.cell? (a.add j) = some u := by
      rcases h with rfl | ⟨b, off, ha, hb, hS, hr⟩
      · exact ⟨[], rfl, fun j u h => by simp at h⟩
      · obtain ⟨news, h1, h2⟩ := hr.flat
        injection ha with ha
        subst ha
        exact ⟨news, h1, fun j u hj => by rw [Addr.add_lit]; exact h2 j u hj⟩
    obtain ⟨i3, hi3, hzz⟩ := Option.map_eq_some_iff.1 infoLba
    simp only [Prod.mk.injEq] at hzz
    obtain ⟨hz0, hz1, hz2⟩ := hzz
    have HF := Lib.hid hF
    have HC := Lib.hid hcell
    clear hF hcell h
    go_enter Tryz.func39, Tryz.ntmps39
    go_wp2_with (at_builtin; refine wpList_append_own_at _ rfl _ _ 22 rfl w.heap.size 61 i3 _ 2 32 Tryz.underlying22 hi3 hz0 hz1 hz2 rfl (by decide) _ _ _ rfl (World.ownsRow_made w #[] 0 (Nat.le_refl _) (Nat.zero_le _) (by simp)) a xs.length c news rfl HF.out.len (fun j u hj => Lib.cell?_alloc_some _ (HC.out j u hj)) (HF.out.one RLb.good) (by unfold maxLen; omega) (by omega) (by simp) ?_)
    intro v' w1 hown hgrow hnil hat
    go_wp2
    go_ret
    have he : Ext w (w.alloc (.cells #[] 61)) := (Ext.refl w).alloc _
    refine ⟨v', rfl, ?_, (he.grown hgrow (by simp) (by intro k hk; simp [Value.ownBlock] at hk; omega))⟩
    have hp := ROwn.push (xs := []) RLb.good (T := S) (v := .slice (some ⟨w.heap.size, 0, none⟩) 0 0) (w := w.alloc (.cells #[] 61)) (news := []) (cs := news) (ys := xs) rfl
      (HF.out.imp fun x _ cs hx => RLb.good.bel (RLb.good.mono hx fun b hb hb' => ⟨hb', by simp [Value.ownBlock]; omega⟩) he) (by simpa using hown) hgrow (by rw [World.size_alloc]; exact hat)
    exact hp

theorem infoTma : (Tryz.prog.info? 159).map (fun i => (i.zero, i.size, i.bytes)) = some (some (.agg #[.int .i64 0, .int .i64 0, .slice none 0 0]), 3, 40) := by kernel_rfl
set_option maxHeartbeats 1000000 in
set_option maxRecDepth 100000 in
/-- slices.Clone at Tm. -/
theorem cloneTm (S : Nat → Prop) (xs : List (Tm)) (v : Value) (w : World) (hx : RSl RTm 3 S w xs [v]) (hbig : xs.length * 40 ≤ 140737488355328) :
    Calls Tryz.prog 152 #[v] w (ClonePost RTm 3 159 S xs w) := by
  obtain ⟨A, c, hv, hc, hc0, h⟩ := hx
  injection hv with hv
  subst hv
  have qn : ∀ (w : World) (a : Option Addr) (n c n' c' : Nat), (binOp .eql 59 (.slice a n c) (.slice none n' c')).run Tryz.prog w = .ok (.bool a.isNone) w := fun w a n c n' c' => Lib.run_eql_slice_nil w _ _ a n c n' c' Tryz.underlying59
  rcases A with _ | a
  · have hxs : xs = [] := by
      rcases h with h | ⟨b, off, h, _⟩
      · exact h
      · cases h
    subst hxs
    go_enter Tryz.func152, Tryz.ntmps152
    go_wp2
    go_ret
    exact ⟨_, rfl, ROwn.nil .., Ext.refl _⟩
  · obtain ⟨news, hF, hcell⟩ : ∃ news, Flat RTm 3 S w xs news ∧ ∀ j u, news[j]? = some u → w.cell? (a.add j) = some u := by
      rcases h with rfl | ⟨b, off, ha, hb, hS, hr⟩
      · exact ⟨[], rfl, fun j u h => by simp at h⟩
      · obtain ⟨news, h1, h2⟩ := hr.flat
        injection ha with ha
        subst ha
        exact ⟨news, h1, fun j u hj => by rw [Addr.add_lit]; exact h2 j u hj⟩
    obtain ⟨i3, hi3, hzz⟩ := Option.map_eq_some_iff.1 infoTma
    simp only [Prod.mk.injEq] at hzz
    obtain ⟨hz0, hz1, hz2⟩ := hzz
    have HF := Lib.hid hF
    have HC := Lib.hid hcell
    clear hF hcell h
    go_enter Tryz.func152, Tryz.ntmps152
    go_wp2_with (at_builtin; refine wpList_append_own_at _ rfl _ _ 59 rfl w.heap.size 159 i3 _ 3 40 Tryz.underlying59 hi3 hz0 hz1 hz2 rfl (by decide) _ _ _ rfl (World.ownsRow_made w #[] 0 (Nat.le_refl _) (Nat.zero_le _) (by simp)) a xs.length c news rfl HF.out.len (fun j u hj => Lib.cell?_alloc_some _ (HC.out j u hj)) (HF.out.one RTm.good) (by unfold maxLen; omega) (by omega) (by simp) ?_)
    intro v' w1 hown hgrow hnil hat
    go_wp2
    go_ret
    have he : Ext w (w.alloc (.cells #[] 159)) := (Ext.refl w).alloc _
    refine ⟨v', rfl, ?_, (he.grown hgrow (by simp) (by intro k hk; simp [Value.ownBlock] at hk; omega))⟩
    have hp := ROwn.push (xs := []) RTm.good (T := S) (v := .slice (some ⟨w.heap.size, 0, none⟩) 0 0) (w := w.alloc (.cells #[] 159)) (news := []) (cs := news) (ys := xs) rfl
      (HF.out.imp fun x _ cs hx => RTm.good.bel (RTm.good.mono hx fun b hb hb' => ⟨hb', by simp [Value.ownBlock]; omega⟩) he) (by simpa using hown) hgrow (by rw [World.size_alloc]; exact hat)
    exact hp

theorem infoLbsa : (Tryz.prog.info? 22).map (fun i => (i.zero, i.size, i.bytes)) = some (some (.slice none 0 0), 1, 24) := by kernel_rfl
set_option maxHeartbeats 1000000 in
set_option maxRecDepth 100000 in
/-- slices.Clone at Lbs. -/
theorem cloneLbs (S : Nat → Prop) (xs : List (List Lb)) (v : Value) (w : World) (hx : RSl RLbs 1 S w xs [v]) (hbig : xs.length * 24 ≤ 140737488355328) :
    Calls Tryz.prog 216 #[v] w (ClonePost RLbs 1 22 S xs w) := by
  obtain ⟨A, c, hv, hc, hc0, h⟩ := hx
  injection hv with hv
  subst hv
  have qn : ∀ (w : World) (a : Option Addr) (n c n' c' : Nat), (binOp .eql 30 (.slice a n c) (.slice none n' c')).run Tryz.prog w = .ok (.bool a.isNone) w := fun w a n c n' c' => Lib.run_eql_slice_nil w _ _ a n c n' c' Tryz.underlying30
  rcases A with _ | a
  · have hxs : xs = [] := by
      rcases h with h | ⟨b, off, h, _⟩
      · exact h
      · cases h
    subst hxs
    go_enter Tryz.func216, Tryz.ntmps216
    go_wp2
    go_ret
    exact ⟨_, rfl, ROwn.nil .., Ext.refl _⟩
  · obtain ⟨news, hF, hcell⟩ : ∃ news, Flat RLbs 1 S w xs news ∧ ∀ j u, news[j]? = some u → w.cell? (a.add j) = some u := by
      rcases h with rfl | ⟨b, off, ha, hb, hS, hr⟩
      · exact ⟨[], rfl, fun j u h => by simp at h⟩
      · obtain ⟨news, h1, h2⟩ := hr.flat
        injection ha with ha
        subst ha
        exact ⟨news, h1, fun j u hj => by rw [Addr.add_lit]; exact h2 j u hj⟩
    obtain ⟨i3, hi3, hzz⟩ := Option.map_eq_some_iff.1 infoLbsa
    simp only [Prod.mk.injEq] at hzz
    obtain ⟨hz0, hz1, hz2⟩ := hzz
    have HF := Lib.hid hF
    have HC := Lib.hid hcell
    clear hF hcell h
    go_enter Tryz.func216, Tryz.ntmps216
    go_wp2_with (at_builtin; refine wpList_append_own_at _ rfl _ _ 30 rfl w.heap.size 22 i3 _ 1 24 Tryz.underlying30 hi3 hz0 hz1 hz2 rfl (by decide) _ _ _ rfl (World.ownsRow_made w #[] 0 (Nat.le_refl _) (Nat.zero_le _) (by simp)) a xs.length c news rfl HF.out.len (fun j u hj => Lib.cell?_alloc_some _ (HC.out j u hj)) (HF.out.one RLbs.good) (by unfold maxLen; omega) (by omega) (by simp) ?_)
    intro v' w1 hown hgrow hnil hat
    go_wp2
    go_ret
    have he : Ext w (w.alloc (.cells #[] 22)) := (Ext.refl w).alloc _
    refine ⟨v', rfl, ?_, (he.grown hgrow (by simp) (by intro k hk; simp [Value.ownBlock] at hk; omega))⟩
    have hp := ROwn.push (xs := []) RLbs.good (T := S) (v := .slice (some ⟨w.heap.size, 0, none⟩) 0 0) (w := w.alloc (.cells #[] 22)) (news := []) (cs := news) (ys := xs) rfl
      (HF.out.imp fun x _ cs hx => RLbs.good.bel (RLbs.good.mono hx fun b hb hb' => ⟨hb', by simp [Value.ownBlock]; omega⟩) he) (by simpa using hown) hgrow (by rw [World.size_alloc]; exact hat)
    exact hp

theorem infoInta : (Tryz.prog.info? 3).map (fun i => (i.zero, i.size, i.bytes)) = some (some (.int .i64 0), 1, 8) := by kernel_rfl
set_option maxHeartbeats 1000000 in
set_option maxRecDepth 100000 in
/-- slices.Clone at Int. -/
theorem cloneInt (S : Nat → Prop) (xs : List (Int)) (v : Value) (w : World) (hx : RSl RInt 1 S w xs [v]) (hbig : xs.length * 8 ≤ 140737488355328) :
    Calls Tryz.prog 250 #[v] w (ClonePost RInt 1 3 S xs w) := by
  obtain ⟨A, c, hv, hc, hc0, h⟩ := hx
  injection hv with hv
  subst hv
  have qn : ∀ (w : World) (a : Option Addr) (n c n' c' : Nat), (binOp .eql 53 (.slice a n c) (.slice none n' c')).run Tryz.prog w = .ok (.bool a.isNone) w := fun w a n c n' c' => Lib.run_eql_slice_nil w _ _ a n c n' c' Tryz.underlying53
  rcases A with _ | a
  · have hxs : xs = [] := by
      rcases h with h | ⟨b, off, h, _⟩
      · exact h
      · cases h
    subst hxs
    go_enter Tryz.func250, Tryz.ntmps250
    go_wp2
    go_ret
    exact ⟨_, rfl, ROwn.nil .., Ext.refl _⟩
  · obtain ⟨news, hF, hcell⟩ : ∃ news, Flat RInt 1 S w xs news ∧ ∀ j u, news[j]? = some u → w.cell? (a.add j) = some u := by
      rcases h with rfl | ⟨b, off, ha, hb, hS, hr⟩
      · exact ⟨[], rfl, fun j u h => by simp at h⟩
      · obtain ⟨news, h1, h2⟩ := hr.flat
        injection ha with ha
        subst ha
        exact ⟨news, h1, fun j u hj => by rw [Addr.add_lit]; exact h2 j u hj⟩
    obtain ⟨i3, hi3, hzz⟩ := Option.map_eq_some_iff.1 infoInta
    simp only [Prod.mk.injEq] at hzz
    obtain ⟨hz0, hz1, hz2⟩ := hzz
    have HF := Lib.hid hF
    have HC := Lib.hid hcell
    clear hF hcell h
    go_enter Tryz.func250, Tryz.ntmps250
    go_wp2_with (at_builtin; refine wpList_append_own_at _ rfl _ _ 53 rfl w.heap.size 3 i3 _ 1 8 Tryz.underlying53 hi3 hz0 hz1 hz2 rfl (by decide) _ _ _ rfl (World.ownsRow_made w #[] 0 (Nat.le_refl _) (Nat.zero_le _) (by simp)) a xs.length c news rfl HF.out.len (fun j u hj => Lib.cell?_alloc_some _ (HC.out j u hj)) (HF.out.one RInt.good) (by unfold maxLen; omega) (by omega) (by simp) ?_)
    intro v' w1 hown hgrow hnil hat
    go_wp2
    go_ret
    have he : Ext w (w.alloc (.cells #[] 3)) := (Ext.refl w).alloc _
    refine ⟨v', rfl, ?_, (he.grown hgrow (by simp) (by intro k hk; simp [Value.ownBlock] at hk; omega))⟩
    have hp := ROwn.push (xs := []) RInt.good (T := S) (v := .slice (some ⟨w.heap.size, 0, none⟩) 0 0) (w := w.alloc (.cells #[] 3)) (news := []) (cs := news) (ys := xs) rfl
      (HF.out.imp fun x _ cs hx => RInt.good.bel (RInt.good.mono hx fun b hb hb' => ⟨hb', by simp [Value.ownBlock]; omega⟩) he) (by simpa using hown) hgrow (by rw [World.size_alloc]; exact hat)
    exact hp

end Go.Proofs.YtegenalcheooeaaGreat

/- suite.copied: labels in memory of their own. -/
set_option linter.unusedSectionVars false
set_option linter.unusedSimpArgs false
set_option linter.unusedVariables false
namespace Go.Proofs.YtegenalcheooeaaGreat
open Go.RowKit
attribute [local go_sem] cell?_exto

section
variable {α : Type} {R : Rdr α} {k : Nat}
/-- One cell of one element is written anew. -/
theorem Flat.put {S : Nat → Prop} {w w' : World} (hk : ∀ {x cs}, R S w x cs → cs.length = k) : ∀ {xs : List α} {cs : List Value} (i c : Nat) (u : Value) (x' : α), Flat R k S w xs cs → c < k → (hi : i < xs.length) →
    (∀ x ∈ xs, ∀ cs, R S w x cs → R S w' x cs) → (∀ cs, R S w xs[i] cs → R S w' x' (cs.set c u)) → Flat R k S w' (xs.set i x') (cs.set (i * k + c) u)
  | [], _, _, _, _, _, _, _, hi, _, _ => absurd hi (by simp)
  | x :: xs, cs, 0, c, u, x', ⟨c1, c2, h1, h2, h3, h4⟩, hc, _, hm, hn => by
    subst h1
    refine ⟨c1.set c u, c2, ?_, by simpa using h2, hn c1 h3, h4.imp fun y hy => hm y (by simp [hy])⟩
    rw [Nat.zero_mul, Nat.zero_add, List.set_append_left _ _ (by omega)]
  | x :: xs, cs, i + 1, c, u, x', ⟨c1, c2, h1, h2, h3, h4⟩, hc, hi, hm, hn => by
    subst h1
    refine ⟨c1, c2.set (i * k + c) u, ?_, h2, hm x (by simp) _ h3, Flat.put hk i c u x' h4 hc (by simpa using hi) (fun y hy => hm y (by simp [hy])) (by simpa using hn)⟩
    rw [List.set_append_right _ _ (by rw [h2, Nat.add_mul]; omega)]
    congr 2
    rw [h2, Nat.add_mul]
    omega
theorem ROwn.put {e : TypeId} {base : Nat} {T : Nat → Prop} {w : World} {xs : List α} {g cap : Nat} (hR : Good R k) (h : ROwn R k e base T w xs (.slice (some ⟨g, 0, none⟩) xs.length cap)) (i c : Nat) (u : Value) (x' : α) (hc : c < k) (hi : i < xs.length)
    (hn : ∀ cs, R (fun b => T b ∧ b ≠ g) w xs[i] cs → R (fun b => T b ∧ b ≠ g) w x' (cs.set c u)) : ROwn R k e base T (w.setCell ⟨g, i * k + c, none⟩ u) (xs.set i x') (.slice (some ⟨g, 0, none⟩) xs.length cap) := by
  obtain ⟨news, h1, h2⟩ := h
  have hS : (fun b => T b ∧ (Value.slice (some ⟨g, 0, none⟩) xs.length cap).ownBlock ≠ some b) = fun b => T b ∧ b ≠ g := by
    funext b
    simp [Value.ownBlock, eq_comm]
  rw [hS] at h2
  have hb := grownBy_setCell' w g u
  have hkp : Kp (fun b => T b ∧ b ≠ g) w (w.setCell ⟨g, i * k + c, none⟩ u) := ⟨by simp [World.setCell], fun q _ hq => Below.heap_setCell w _ u q hq.2⟩
  refine ⟨news.set (i * k + c) u, ?_, ?_⟩
  · rw [List.length_set]
    exact (h1.stored _ u).1
  · rw [hS]
    exact Flat.put (fun h => hR.len h) i c u x' h2 hc hi (fun x _ cs hx => hR.move hx hkp) fun cs hx => hR.move (hn cs hx) hkp
theorem Flat.at {S : Nat → Prop} {w : World} : ∀ {xs : List α} {cs : List Value} (i : Nat) (hi : i < xs.length), Flat R k S w xs cs → ∃ c1, c1.length = k ∧ R S w xs[i] c1 ∧ ∀ j, j < k → cs[i * k + j]? = c1[j]?
  | x :: xs, cs, 0, _, ⟨c1, c2, h1, h2, h3, h4⟩ => ⟨c1, h2, h3, fun j hj => by rw [h1, Nat.zero_mul, Nat.zero_add, List.getElem?_append_left (by omega)]⟩
  | x :: xs, cs, i + 1, hi, ⟨c1, c2, h1, h2, h3, h4⟩ => by
    obtain ⟨d, h5, h6, h7⟩ := Flat.at i (by simpa using hi) h4
    refine ⟨d, h5, by simpa using h6, fun j hj => ?_⟩
    rw [h1, List.getElem?_append_right (by rw [h2, Nat.add_mul]; omega), ← h7 j hj]
    congr 1
    rw [h2, Nat.add_mul]
    omega
theorem own_eq (g n cap : Nat) (T : Nat → Prop) : (fun b => T b ∧ (Value.slice (some ⟨g, 0, none⟩) n cap).ownBlock ≠ some b) = fun b => T b ∧ b ≠ g := by
  funext b
  simp [Value.ownBlock, eq_comm]
theorem ext_fz {W W1 : World} (he : Ext W W1) {a : Addr} (hb : a.block < W.heap.size) (h : W.frozen? a = false) : W1.frozen? a = false := (he.frozen hb).trans h
end

theorem Tm.size_pos (t : Tm) : 0 < t.size := by cases t; rw [Tm.size]; omega
theorem Tm.sizes_len : ∀ l : List Tm, l.length ≤ Tm.sizes l
  | [] => by simp
  | t :: l => by
    have := Tm.sizes_len l
    have := t.size_pos
    rw [Tm.sizes, List.length_cons]
    omega
theorem Tm.sizes_l (t : Tm) : Tm.sizes t.l < t.size := by cases t; rw [Tm.size]; exact Nat.lt_succ_self _

def CopyC (l : List Tm) : Prop := ∀ (S : Nat → Prop) (B : Nat) (v : Value) (W : World), RTms S W l [v] → W.cell? ⟨B, 0, none⟩ = some (.func (.func 151) #[] #[.pointer (some ⟨B, 0, none⟩)]) →
    Calls Tryz.prog 151 #[v, .pointer (some ⟨B, 0, none⟩)] W fun e w' => ∃ A c, e = .returned (.slice A l.length c) ∧ RTms (fun b => (S b ∧ b < W.heap.size) ∨ W.heap.size ≤ b) w' l [.slice A l.length c] ∧ Ext W w'

set_option maxHeartbeats 1000000 in
set_option maxRecDepth 100000 in
theorem copied1_c : ∀ (n : Nat) (l : List Tm), Tm.sizes l ≤ n → n ≤ 1000000000 → CopyC l := by
  intro n
  induction n using Nat.strongRecOn with
  | _ n ih =>
  intro l hl hn S B v w hx hB
  have hB0 := World.block_lt_of_cell? w _ hB
  have hll := Tm.sizes_len l
  have hcl := fun W (hW : Ext w W) => cloneTm S l v W (RTms.good.bel hx hW) (by omega)
  obtain ⟨A, c, rfl, _, _⟩ := hx.val
  obtain ⟨T, hT⟩ : ∃ T : Nat → Prop, T = fun b => (S b ∧ b < w.heap.size) ∨ w.heap.size ≤ b := ⟨_, rfl⟩
  have HX := Lib.hid hx
  clear hx
  rw [← hT]
  go_enter Tryz.func151, Tryz.ntmps151
  go_wp2_with fail
  refine (cloneTm (fun b => S b ∧ b < w.heap.size) l _ _ (RTms.good.mono HX.out fun b h1 h2 => ⟨h2, h1⟩) (by omega)).mono ?_
  rintro e w1 ⟨v1, rfl, hv1, h1⟩
  obtain ⟨A1, c1, rfl, _, _⟩ := (hv1.sl RTm.good (by decide)).val
  have HV := Lib.hid (hv1.mono (T' := T) RTm.good fun b _ h => by rw [hT]; exact .inl h)
  clear hv1 HX hcl
  go_wp2_with fail
  go_loopw [9] (fun i wr => ∃ k : Nat, k ≤ l.length ∧ i = .int .i64 k ∧ ROwn RTm 3 159 w.heap.size T wr l (.slice A1 l.length c1) ∧ Ext w wr) (fun i _ => l.length - (intOf i).toNat)
  case atStart => exact ⟨0, Nat.zero_le _, rfl, HV.out, h1⟩
  case round =>
    obtain ⟨k, hk, rfl, hv, hE⟩ := hrel
    by_cases hlt : k < l.length
    · obtain ⟨news, hrow, hF⟩ := id hv
      obtain ⟨g, cap, he⟩ := Joins.ownsRow_form hrow (by omega)
      injection he with he1 _ he2
      subst he1 he2
      rw [own_eq] at hF
      obtain ⟨c2, hc2, hr, hat⟩ := hF.at k hlt
      obtain ⟨_, _, v2, rfl, hv2⟩ := (RTm_iff ..).1 hr
      have gc : wr.cell? ⟨g, k * 3 + 2, none⟩ = some v2 := by rw [hrow.cellAt _ (by omega), hat 2 (by decide)]; rfl
      have gf := hrow.frozenAt (k * 3 + 2)
      have hgl : g < wr.heap.size := World.block_lt_of_cell? wr _ gc
      have hrec := fun W (hW : Ext wr W) => ih (Tm.sizes l[k].l) (by have := Tm.sizes_l l[k]; have := Tm.size_mem (List.getElem_mem hlt); omega) l[k].l (Nat.le_refl _) (by have := Tm.sizes_l l[k]; have := Tm.size_mem (List.getElem_mem hlt); omega) (fun b => T b ∧ b ≠ g) B v2 W (RTms.good.bel hv2 hW) (Ext.keep (hE.trans' hW) hB)
      obtain ⟨A2, c2, rfl, _, _⟩ := hv2.val
      have gB := Ext.keep hE hB
      have hgw : w.heap.size ≤ g := (own_row_base hrow g rfl).1
      have key : ∀ (w3 : World) (A3 : Option Addr) (c3 : Nat), Ext wr.drew w3 → RTms (fun b => (T b ∧ b ≠ g) ∧ b < wr.drew.heap.size ∨ wr.drew.heap.size ≤ b) w3 l[k].l [.slice A3 l[k].l.length c3] →
          ROwn RTm 3 159 w.heap.size T (w3.setCell ⟨g, k * 3 + 2, none⟩ (.slice A3 l[k].l.length c3)) l (.slice (some ⟨g, 0, none⟩) l.length c1) ∧ Ext w (w3.setCell ⟨g, k * 3 + 2, none⟩ (.slice A3 l[k].l.length c3)) := fun w3 A3 c3 hx ho => by
        have hx' : Ext wr w3 := Ext.trans' (Ext.refl wr).drew hx
        have h := ROwn.put RTm.good (hv.ext RTm.good hx') k 2 (.slice A3 l[k].l.length c3) l[k] (by decide) hlt fun cs hcs => by
          obtain ⟨i1, i2, u, rfl, hu⟩ := (RTm_iff ..).1 hcs
          refine (RTm_iff ..).2 ⟨i1, i2, _, rfl, RTms.good.mono ho fun b _ hb => ?_⟩
          rcases hb with ⟨h, _⟩ | h
          · exact h
          · have h' : wr.heap.size ≤ b := h
            have := hE.size
            exact ⟨by rw [hT]; exact .inr (by omega), by omega⟩
        rw [List.set_getElem_self] at h
        exact ⟨h, (hE.trans' hx').set hgw _⟩
      have HK := Lib.hid key
      clear hv hF hr hat hv2 hrow key
      go_wp2_with fail
      go_region_with (first | (go_at_call 151; refine (hrec _ (by repeat (first | exact Ext.refl _ | apply Ext.alloc | apply Below.drew | apply Ext.drewN | refine Ext.trans' ?_ (by assumption) | refine Ext.trans' ?_ (ExtD.ext (by assumption))))).mono ?_; rintro e w3 ⟨A3, c3, rfl, ho3, hx1⟩; have gf3 := ext_fz hx1 (by assumption) gf; have gc3 := Ext.keep hx1 gc))
      all_goals go_wp2_with fail
      all_goals go_roundw
      all_goals first
        | exact ⟨k + 1, by omega, by go_num, (HK.out _ _ _ hx1 ho3).1, (HK.out _ _ _ hx1 ho3).2⟩
        | (simp [intOf]; omega)
    · have HO := Lib.hid hv
      clear hv
      go_wp2_with fail
      go_ret
      refine ⟨A1, c1, rfl, RTms.good.mono (HO.out.sl RTm.good (by decide)) fun b _ hb => ?_, hE⟩
      rw [hT]
      rcases hb with h | h
      · rw [hT] at h; exact h
      · exact .inr h

theorem eg151 : ∀ args w, (callFunc 151 args).run Tryz.prog w = .ok (.enter 151 args) w := enters_of Tryz.func151 (by kernel_rfl) rfl
def Lb.size (x : Lb) : Nat := Tm.sizes x.v
set_option maxHeartbeats 1000000 in
set_option maxRecDepth 100000 in
theorem copied_c (S : Nat → Prop) (l : List Lb) (v : Value) (w : World) (hx : RLbs S w l [v]) (hsz : ∀ x ∈ l, x.size ≤ 1000000000) (hbig : l.length * 32 ≤ 140737488355328) :
    Calls Tryz.prog 82 #[v] w fun e w' => ∃ A c, e = .returned (.slice A l.length c) ∧ RLbs (fun b => (S b ∧ b < w.heap.size) ∨ w.heap.size ≤ b) w' l [.slice A l.length c] ∧ Ext w w' := by
  obtain ⟨A, c, rfl, _, _⟩ := hx.val
  obtain ⟨T, hT⟩ : ∃ T : Nat → Prop, T = fun b => (S b ∧ b < w.heap.size) ∨ w.heap.size ≤ b := ⟨_, rfl⟩
  have HX := Lib.hid hx
  clear hx
  rw [← hT]
  go_enter Tryz.func82, Tryz.ntmps82
  go_wp2_with fail
  obtain ⟨W0, hW0⟩ : ∃ W0, w.alloc (.cells #[.func (.func 151) #[] #[.pointer (some ⟨w.heap.size, 0, none⟩)]] 194) = W0 := ⟨_, rfl⟩
  have hX0 : Ext w W0 := by rw [← hW0]; exact (Ext.refl w).alloc _
  have hB : W0.cell? ⟨w.heap.size, 0, none⟩ = some (.func (.func 151) #[] #[.pointer (some ⟨w.heap.size, 0, none⟩)]) := by rw [← hW0]; simp
  have hB0 := World.block_lt_of_cell? W0 _ hB
  rw [hW0]
  clear hW0
  refine (cloneLb (fun b => S b ∧ b < w.heap.size) l _ _ (RLbs.good.bel (RLbs.good.mono HX.out fun b h1 h2 => ⟨h2, h1⟩) hX0) hbig).mono ?_
  rintro e w1 ⟨v1, rfl, hv1, h1⟩
  obtain ⟨A1, c1, rfl, _, _⟩ := (hv1.sl RLb.good (by decide)).val
  have HV := Lib.hid (hv1.mono (T' := T) RLb.good fun b _ h => by rw [hT]; exact .inl h)
  have hszW := hX0.size
  have hX1 : Ext w w1 := hX0.trans' h1
  have hB1 := Ext.keep h1 hB
  clear hv1 HX hB
  go_wp2_with fail
  go_loopw [10] (fun i wr => ∃ k : Nat, k ≤ l.length ∧ i = .int .i64 k ∧ ROwn RLb 2 61 W0.heap.size T wr l (.slice A1 l.length c1) ∧ Ext w wr ∧ wr.cell? ⟨w.heap.size, 0, none⟩ = some (.func (.func 151) #[] #[.pointer (some ⟨w.heap.size, 0, none⟩)])) (fun i _ => l.length - (intOf i).toNat)
  case atStart => exact ⟨0, Nat.zero_le _, rfl, HV.out, hX1, hB1⟩
  case round =>
    obtain ⟨k, hk, rfl, hv, hE, gB⟩ := hrel
    by_cases hlt : k < l.length
    · obtain ⟨news, hrow, hF⟩ := id hv
      obtain ⟨g, cap, he⟩ := Joins.ownsRow_form hrow (by omega)
      injection he with he1 _ he2
      subst he1 he2
      rw [own_eq] at hF
      obtain ⟨c2, hc2, hr, hat⟩ := hF.at k hlt
      obtain ⟨hi1, v2, rfl, hv2⟩ := id hr
      have gc : wr.cell? ⟨g, k * 2 + 1, none⟩ = some v2 := by rw [hrow.cellAt _ (by omega), hat 1 (by decide)]; rfl
      have gf := hrow.frozenAt (k * 2 + 1)
      have hgl : g < wr.heap.size := World.block_lt_of_cell? wr _ gc
      have hrec := fun W (hW : Ext wr W) => copied1_c (Tm.sizes l[k].v) l[k].v (Nat.le_refl _) (hsz _ (List.getElem_mem hlt)) (fun b => T b ∧ b ≠ g) w.heap.size v2 W (RTms.good.bel hv2 hW) (Ext.keep hW gB)
      obtain ⟨A2, c2, rfl, _, _⟩ := hv2.val
      have hgw : W0.heap.size ≤ g := (own_row_base hrow g rfl).1
      have key : ∀ (w3 : World) (A3 : Option Addr) (c3 : Nat), Ext wr.drew w3 → RTms (fun b => (T b ∧ b ≠ g) ∧ b < wr.drew.heap.size ∨ wr.drew.heap.size ≤ b) w3 l[k].v [.slice A3 l[k].v.length c3] →
          ROwn RLb 2 61 W0.heap.size T (w3.setCell ⟨g, k * 2 + 1, none⟩ (.slice A3 l[k].v.length c3)) l (.slice (some ⟨g, 0, none⟩) l.length c1) ∧ Ext w (w3.setCell ⟨g, k * 2 + 1, none⟩ (.slice A3 l[k].v.length c3)) ∧ (w3.setCell ⟨g, k * 2 + 1, none⟩ (.slice A3 l[k].v.length c3)).cell? ⟨w.heap.size, 0, none⟩ = some (.func (.func 151) #[] #[.pointer (some ⟨w.heap.size, 0, none⟩)]) := fun w3 A3 c3 hx ho => by
        have hx' : Ext wr w3 := Ext.trans' (Ext.refl wr).drew hx
        have h := ROwn.put RLb.good (hv.ext RLb.good hx') k 1 (.slice A3 l[k].v.length c3) l[k] (by decide) hlt fun cs hcs => by
          obtain ⟨i1, u, rfl, hu⟩ := hcs
          refine ⟨i1, _, rfl, RTms.good.mono ho fun b _ hb => ?_⟩
          rcases hb with ⟨h, _⟩ | h
          · exact h
          · have h' : wr.heap.size ≤ b := h
            have := hE.size
            exact ⟨by rw [hT]; exact .inr (by omega), by omega⟩
        rw [List.set_getElem_self] at h
        exact ⟨h, (hE.trans' hx').set (Nat.le_trans hszW hgw) _, (World.cell?_of_block (a := ⟨w.heap.size, 0, none⟩) (Below.heap_setCell w3 _ _ _ (by show w.heap.size ≠ g; omega))).trans (Ext.keep hx' gB)⟩
      have HK := Lib.hid key
      clear hv hF hr hat hv2 hrow key
      go_wp2_with fail
      go_region_with (first | (go_at_call 151; refine (hrec _ (by repeat (first | exact Ext.refl _ | apply Ext.alloc | apply Below.drew | apply Ext.drewN | refine Ext.trans' ?_ (by assumption) | refine Ext.trans' ?_ (ExtD.ext (by assumption))))).mono ?_; rintro e w3 ⟨A3, c3, rfl, ho3, hx1⟩; have gf3 := ext_fz hx1 (by assumption) gf; have gc3 := Ext.keep hx1 gc))
      all_goals go_wp2_with fail
      all_goals go_roundw
      all_goals first
        | exact ⟨k + 1, by omega, by go_num, (HK.out _ _ _ hx1 ho3).1, (HK.out _ _ _ hx1 ho3).2.1, (HK.out _ _ _ hx1 ho3).2.2⟩
        | (simp [intOf]; omega)
    · have HO := Lib.hid hv
      clear hv
      go_wp2_with fail
      go_ret
      refine ⟨A1, c1, rfl, RLbs.good.mono (HO.out.sl RLb.good (by decide)) fun b _ hb => ?_, hE⟩
      rw [hT]
      rcases hb with h | h
      · rw [hT] at h; exact h
      · exact .inr (by omega)
end Go.Proofs.YtegenalcheooeaaGreat

