/- Of the proof of a law of the suites: VMap, LibITe, Fails, CoversE, More, Choose1, Verdicts. -/
import Derived.Test.YtegenalcheooeaaGreatM01
import Derived.Test.YtegenalcheooeaaGreatM05
import Derived.Test.YtegenalcheooeaaGreatM17
import Derived.Test.YtegenalcheooeaaGreatM19
import Derived.Maps.RangeRun
/- suite.verdicts: a map of three functions. -/
set_option linter.unusedSectionVars false
set_option linter.unusedSimpArgs false
set_option linter.unusedVariables false
namespace Go.Proofs.YtegenalcheooeaaGreat
open Go.RowKit
attribute [local go_sem] cell?_exto
open Go.Shelf

/-- The map's entries. -/
def VM : Array MapEntry := #[{ key := .int .i64 1, val := .func (.func 168) #[] #[], born := 0 }, { key := .int .i64 2, val := .func (.func 170) #[] #[], born := 1 }, { key := .int .i64 3, val := .func (.func 171) #[] #[], born := 2 }]
theorem run_insert_new {W : World} {m : Nat} {es : Array MapEntry} {clock : Nat} (h : W.heap[m]? = some (.map es clock)) (ks : List Int) (hk : es.toList.map (·.key) = ks.map (Value.int .i64)) (a : Int) (ha : a ∉ ks) (v : Value) :
    (Instr.mapUpdate 136 (.map (some m)) (.int .i64 a) v).run Tryz.prog W = .ok () (W.putObj m (.map (es.push { key := .int .i64 a, val := v, born := clock }) (clock + 1))) := by
  obtain ⟨d, hd, hs, hc⟩ := keyInt.kind
  have hf := find_at hs a es.toList ks 0 hk
  rw [dif_neg ha] at hf
  unfold Instr.mapUpdate Instr.findKey
  simp [run_underlying Tryz.underlying136, run_underlying hd, getObj, setObj, Sem.run, h, hc, hf, World.putObj]

theorem insert_chain (w : World) : ∃ w1 w2 w3 : World, (Instr.mapUpdate 136 (.map (some w.heap.size)) (.int .i64 1) (.func (.func 168) #[] #[])).run Tryz.prog (w.alloc (.map #[] 0)) = .ok () w1 ∧
    (Instr.mapUpdate 136 (.map (some w.heap.size)) (.int .i64 2) (.func (.func 170) #[] #[])).run Tryz.prog w1 = .ok () w2 ∧ (Instr.mapUpdate 136 (.map (some w.heap.size)) (.int .i64 3) (.func (.func 171) #[] #[])).run Tryz.prog w2 = .ok () w3 ∧
    w3.heap[w.heap.size]? = some (.map VM 3) ∧ Ext w w3 := by
  have hput : ∀ (W : World) o, Ext w W → Ext w (W.putObj w.heap.size o) := fun W o h => ⟨h.os, h.tape, h.output, by simpa using h.size, fun k hk => (World.putObj_heap_other (by omega)).trans (h.block k hk)⟩
  have hX0 : Ext w (w.alloc (.map #[] 0)) := (Ext.refl w).alloc _
  have h0 : (w.alloc (.map #[] 0)).heap[w.heap.size]? = some (.map #[] 0) := World.alloc_heap_new w _
  have r1 := run_insert_new h0 [] rfl 1 (by simp) (.func (.func 168) #[] #[])
  refine ⟨_, _, _, r1, run_insert_new (World.putObj_heap_same (by simp)) [1] rfl 2 (by simp) _, run_insert_new (World.putObj_heap_same (by simp)) [1, 2] rfl 3 (by simp) _, (World.putObj_heap_same (by simp)), hput _ _ (hput _ _ (hput _ _ hX0))⟩

set_option maxHeartbeats 1000000 in
set_option maxRecDepth 100000 in
theorem verdicts_c (w : World) : Calls Tryz.prog 103 #[] w fun e w' => ∃ m, e = .returned (.map (some m)) ∧ w'.heap[m]? = some (.map VM 3) ∧ w.heap.size ≤ m ∧ Ext w w' := by
  have hmm := @run_makeMap Tryz.prog
  obtain ⟨w1, w2, w3, r1, r2, r3, h3, hX⟩ := insert_chain w
  go_enter Tryz.func103, Tryz.ntmps103
  go_wp2_with fail
  go_ret
  exact ⟨_, rfl, h3, Nat.le_refl _, hX⟩
end Go.Proofs.YtegenalcheooeaaGreat

/- slices.IndexFunc and ContainsFunc at each element type of the program: what they come to, whatever function value they are given. -/
set_option linter.unusedSectionVars false
set_option linter.unusedSimpArgs false
set_option linter.unusedVariables false
namespace Go.Proofs.YtegenalcheooeaaGreat
open Go.RowKit
attribute [local go_sem] cell?_exto

set_option maxHeartbeats 1000000 in
set_option maxRecDepth 100000 in
/-- slices.IndexFunc at Te: the function may keep a state s, told by J. -/
theorem idxFTe {σ : Type} (J : σ → World → Prop) (step : σ → Te → Bool × σ) (S : Nat → Prop) (w : World) (xs : List (Te)) (v : Value) (hx : RSl RTe 2 S w xs [v]) (g : Nat) (lb : Array Value)
    (eg : ∀ args w, (callFunc g args).run Tryz.prog w = .ok (.enter g args) w) (hJ : ∀ s W, J s W → Kp S w W)
    (hp : ∀ x ∈ xs, ∀ s cs W, J s W → RTe S W x cs → Calls Tryz.prog g (#[.agg cs.toArray] ++ lb) W fun e w' => e = .returned (.bool (step s x).1) ∧ J (step s x).2 w') (s0 : σ) (h0 : J s0 w) :
    Calls Tryz.prog 164 #[v, .func (.func g) #[] lb] w fun e w' => e = .returned (.int .i64 (findS step s0 xs).1) ∧ J (findS step s0 xs).2 w' := by
  obtain ⟨A, c, rfl, hc, hc0⟩ := hx.val
  have HX := Lib.hid hx
  have HP := Lib.hid hp
  have HJ := Lib.hid hJ
  clear hx hp hJ
  go_enter Tryz.func164, Tryz.ntmps164
  go_wp2
  go_loopw [5, 8] (fun _ i wr => ∃ k : Nat, k ≤ xs.length ∧ i = .int .i64 k ∧ Hid (∃ s, J s wr ∧ findS step s0 xs = ((findS step s (xs.drop k)).1 + (if (findS step s (xs.drop k)).1 < 0 then 0 else (k : Int)), (findS step s (xs.drop k)).2))) (fun _ i _ => xs.length - (intOf i).toNat)
  case atStart => exact ⟨0, Nat.zero_le _, rfl, s0, h0, by simp⟩
  case round =>
    obtain ⟨k, hk, rfl, s, hs, hf⟩ := hrel
    by_cases hlt : k < xs.length
    · obtain ⟨b, off, cs, rfl, hb, hS, hl, hr, hcell⟩ := ((RSl.good RTe.good).move HX.out (HJ.out _ _ hs)).get k hlt
      have hcon := HP.out xs[k] (List.getElem_mem hlt) s cs wr hs hr
      obtain ⟨c0, c1, rfl⟩ : ∃ c0 c1, cs = [c0, c1] := by
        match cs, hl with
        | [c0, c1], _ => exact ⟨c0, c1, rfl⟩
      have g0 := (by simpa using hcell.get 0 _ : wr.cell? ⟨b, off + k * 2, none⟩ = some c0)
      have g1 := hcell.get 1 _
      rw [List.drop_eq_getElem_cons hlt, findS] at hf
      clear hcell hl hS hr
      cases hq : (step s xs[k]).1 with
      | true =>
        rw [hq] at hcon hf
        have Hf := Lib.hid hf
        clear hf
        go_wp2_with fail
        refine hcon.mono ?_
        rintro e w' ⟨rfl, hs'⟩
        go_wp2_with fail
        go_ret
        rw [Hf.out]
        exact ⟨by simp, hs'⟩
      | false =>
        rw [hq] at hcon hf
        have Hf := Lib.hid hf
        clear hf
        go_wp2_with fail
        refine hcon.mono ?_
        rintro e w' ⟨rfl, hs'⟩
        go_wp2_with fail
        go_roundw
        case rel =>
          refine ⟨k + 1, by omega, by go_num, _, hs', ?_⟩
          rw [Hf.out]
          exact findS_next _ _
        case measure => simp [intOf]; omega
    · have hd : xs.drop k = [] := List.drop_of_length_le (by omega)
      rw [hd, findS] at hf
      have Hf := Lib.hid hf
      clear hf
      go_wp2
      go_ret
      rw [Hf.out]
      exact ⟨by simp, hs⟩

set_option maxHeartbeats 1000000 in
set_option maxRecDepth 100000 in
/-- slices.ContainsFunc at Te. -/
theorem conFTe {σ : Type} (J : σ → World → Prop) (step : σ → Te → Bool × σ) (S : Nat → Prop) (w : World) (xs : List (Te)) (v : Value) (hx : RSl RTe 2 S w xs [v]) (g : Nat) (lb : Array Value)
    (eg : ∀ args w, (callFunc g args).run Tryz.prog w = .ok (.enter g args) w) (hJ : ∀ s W, J s W → Kp S w W)
    (hp : ∀ x ∈ xs, ∀ s cs W, J s W → RTe S W x cs → Calls Tryz.prog g (#[.agg cs.toArray] ++ lb) W fun e w' => e = .returned (.bool (step s x).1) ∧ J (step s x).2 w') (s0 : σ) (h0 : J s0 w) :
    Calls Tryz.prog 106 #[v, .func (.func g) #[] lb] w fun e w' => e = .returned (.bool (anyS step s0 xs).1) ∧ J (anyS step s0 xs).2 w' := by
  obtain ⟨A, c, rfl, hc, hc0⟩ := hx.val
  have hcon := idxFTe J step S w xs _ hx g lb eg hJ hp s0 h0
  rw [anyS_find]
  clear hx hp hJ
  go_enter Tryz.func106, Tryz.ntmps106
  go_wp2_with fail
  refine hcon.mono ?_
  rintro e w' ⟨rfl, hs'⟩
  go_wp2_with fail
  all_goals go_ret
  all_goals exact ⟨by simp, hs'⟩

/-- The same, where the function tells p and only adds to memory. -/
theorem conPTe (p : Te → Bool) (S : Nat → Prop) (w : World) (xs : List (Te)) (v : Value) (hx : RSl RTe 2 S w xs [v]) (g : Nat) (lb : Array Value)
    (eg : ∀ args w, (callFunc g args).run Tryz.prog w = .ok (.enter g args) w)
    (hp : ∀ x ∈ xs, ∀ cs W, Ext w W → RTe S W x cs → Calls Tryz.prog g (#[.agg cs.toArray] ++ lb) W fun e w' => e = .returned (.bool (p x)) ∧ Ext W w') :
    Calls Tryz.prog 106 #[v, .func (.func g) #[] lb] w fun e w' => e = .returned (.bool (xs.any p)) ∧ Ext w w' :=
  (conFTe (fun (_ : Unit) W => Ext w W) (fun s x => (p x, s)) S w xs v hx g lb eg (fun _ _ h => Ext.kp h) (fun x hx s cs W hW hr => (hp x hx cs W hW hr).mono fun e w' ⟨he, hb⟩ => ⟨he, hW.trans' hb⟩) () (Ext.refl w)).mono
    fun e w' ⟨he, hb⟩ => ⟨by rw [he, anyS_pure], hb⟩
theorem idxPTe (p : Te → Bool) (S : Nat → Prop) (w : World) (xs : List (Te)) (v : Value) (hx : RSl RTe 2 S w xs [v]) (g : Nat) (lb : Array Value)
    (eg : ∀ args w, (callFunc g args).run Tryz.prog w = .ok (.enter g args) w)
    (hp : ∀ x ∈ xs, ∀ cs W, Ext w W → RTe S W x cs → Calls Tryz.prog g (#[.agg cs.toArray] ++ lb) W fun e w' => e = .returned (.bool (p x)) ∧ Ext W w') :
    Calls Tryz.prog 164 #[v, .func (.func g) #[] lb] w fun e w' => e = .returned (.int .i64 (findI p xs)) ∧ Ext w w' :=
  (idxFTe (fun (_ : Unit) W => Ext w W) (fun s x => (p x, s)) S w xs v hx g lb eg (fun _ _ h => Ext.kp h) (fun x hx s cs W hW hr => (hp x hx cs W hW hr).mono fun e w' ⟨he, hb⟩ => ⟨he, hW.trans' hb⟩) () (Ext.refl w)).mono
    fun e w' ⟨he, hb⟩ => ⟨by rw [he, findS_pure], hb⟩
end Go.Proofs.YtegenalcheooeaaGreat

/- suite.fails, Fails: walked. -/
set_option linter.unusedSectionVars false
set_option linter.unusedSimpArgs false
set_option linter.unusedVariables false
namespace Go.Proofs.YtegenalcheooeaaGreat
open Go.RowKit
attribute [local go_sem] cell?_exto
open Go.Shelf

def vmF (n : Int) : Option Value := if n = 1 then some (.func (.func 168) #[] #[]) else if n = 2 then some (.func (.func 170) #[] #[]) else if n = 3 then some (.func (.func 171) #[] #[]) else none
theorem VM.isMap {W : World} {m : Nat} (h : W.heap[m]? = some (.map VM 3)) : IsMap (Value.int .i64) W m vmF :=
  ⟨VM, 3, [1, 2, 3], h, rfl, by decide, fun i hi => by
    match i, hi with
    | 0, _ => rfl
    | 1, _ => rfl
    | 2, _ => rfl, fun a ha => by
    simp only [List.mem_cons, List.not_mem_nil, or_false, not_or] at ha
    rw [vmF, if_neg ha.1, if_neg ha.2.1, if_neg ha.2.2]⟩
theorem infoFn : (Tryz.prog.info? 138).map (·.zero) = some (some .nilFunc) := by kernel_rfl
theorem VM.two {W : World} {m : Nat} (h : W.heap[m]? = some (.map VM 3)) : (Instr.lookup 136 (.map (some m)) (.int .i64 2) false).run Tryz.prog W = .ok (.func (.func 170) #[] #[]) W :=
  (VM.isMap h).lookup (P := Tryz.prog) Tryz.underlying136 keyInt (z := .nilFunc) (by
    obtain ⟨i, hi, hz⟩ := Option.map_eq_some_iff.1 infoFn
    simp [zeroValue, typeInfo, hi, hz]) 2

theorem eg165 : ∀ args w, (callFunc 165 args).run Tryz.prog w = .ok (.enter 165 args) w := enters_of Tryz.func165 (by kernel_rfl) rfl
theorem eg170 : ∀ args w, (callFunc 170 args).run Tryz.prog w = .ok (.enter 170 args) w := enters_of Tryz.func170 (by kernel_rfl) rfl
def NTe (t : Te) : Prop := t.tr.length ≤ 4611686018427387903 ∧ t.mu.length ≤ 4611686018427387903
set_option maxHeartbeats 1000000 in
set_option maxRecDepth 100000 in
theorem fails1_c (S : Nat → Prop) (s : Sy) (hok : okSyP s) (g : Nat) (t : Te) (cs : List Value) (B1 B2 : Nat) (w : World) (hS : IsSys S w g s) (ht : RTe S w t cs) (hn : NTe t)
    (h1 : w.cell? ⟨B1, 0, none⟩ = some (.func (.func 170) #[] #[])) (h2 : w.cell? ⟨B2, 0, none⟩ = some (.pointer (some ⟨g, 0, none⟩))) :
    Calls Tryz.prog 165 #[.agg cs.toArray, .pointer (some ⟨B1, 0, none⟩), .pointer (some ⟨B2, 0, none⟩)] w fun e w' => e = .returned (.bool (failB s t)) ∧ Ext w w' := by
  obtain ⟨v, u, rfl, hv, hu⟩ := ht
  have hcon := fun W (hW : Ext w W) => fail_c S s hok g t v u W (hS.bel hW) (RLbs.good.bel hv hW) (RLbs.good.bel hu hW) hn.1 hn.2
  have eg := eg170
  obtain ⟨A, c, rfl, _, _⟩ := hv.val
  obtain ⟨A', c', rfl, _, _⟩ := hu.val
  have hw1 := World.block_lt_of_cell? w _ h1
  have hw2 := World.block_lt_of_cell? w _ h2
  clear hS hv hu hn
  go_enter Tryz.func165, Tryz.ntmps165
  go_wp2_with fail
  refine (hcon _ (by repeat (first | exact Ext.refl _ | apply Ext.alloc | apply Below.drew | apply Ext.drewN | refine Ext.trans' ?_ (by assumption) | refine Ext.trans' ?_ (ExtD.ext (by assumption))))).mono ?_
  rintro e w1 ⟨rfl, hx1⟩
  go_wp2_with fail
  go_ret
  exact ⟨rfl, (by repeat (first | exact Ext.refl _ | apply Ext.alloc | apply Below.drew | apply Ext.drewN | refine Ext.trans' ?_ (by assumption) | refine Ext.trans' ?_ (ExtD.ext (by assumption))))⟩

set_option maxHeartbeats 1000000 in
set_option maxRecDepth 100000 in
theorem fails_c (S : Nat → Prop) (s : Sy) (hok : okSyP s) (g : Nat) (ts : List Te) (v : Value) (w : World) (hS : IsSys S w g s) (ht : RSl RTe 2 S w ts [v]) (hn : ∀ t ∈ ts, NTe t) :
    Calls Tryz.prog 100 #[.pointer (some ⟨g, 0, none⟩), v] w fun e w' => e = .returned (.int .i64 (findI (failB s) ts)) ∧ Ext w w' := by
  have hvm := verdicts_c
  have hcon := fun B1 B2 W (hW : Ext w W) (h1 : W.cell? ⟨B1, 0, none⟩ = some (.func (.func 170) #[] #[])) (h2 : W.cell? ⟨B2, 0, none⟩ = some (.pointer (some ⟨g, 0, none⟩))) => idxPTe (failB s) S W ts v ((RSl.good RTe.good).bel ht hW) 165 #[.pointer (some ⟨B1, 0, none⟩), .pointer (some ⟨B2, 0, none⟩)] eg165
    (fun x hx cs W' hW' hr => fails1_c S s hok g x cs B1 B2 W' (hS.bel (hW.trans' hW')) hr (hn x hx) (Ext.keep hW' h1) (Ext.keep hW' h2))
  obtain ⟨A, c, rfl, hc, hc0⟩ := ht.val
  clear ht hS hn
  go_enter Tryz.func100, Tryz.ntmps100
  go_wp2_with fail
  refine (hvm _).mono ?_
  rintro e w1 ⟨m, rfl, hm, hm', h1⟩
  have hc1 := h1.cells
  have hz1 := h1.size
  have hz : w.heap.size < w1.heap.size := by simp at hz1; omega
  have hlk := VM.two hm
  have hX1 : Ext w w1 := (by repeat (first | exact Ext.refl _ | apply Ext.alloc | apply Below.drew | apply Ext.drewN | refine Ext.trans' ?_ (by assumption) | refine Ext.trans' ?_ (ExtD.ext (by assumption))))
  clear hm
  go_wp2_with fail
  refine (hcon _ _ _ (by repeat (first | exact Ext.refl _ | apply Ext.alloc | apply Below.drew | apply Ext.drewN | refine Ext.trans' ?_ (by assumption) | refine Ext.trans' ?_ (ExtD.ext (by assumption)))) (by go_simp) (by go_simp)).mono ?_
  rintro e w2 ⟨rfl, h2⟩
  go_wp2_with fail
  go_ret
  exact ⟨rfl, (by repeat (first | exact Ext.refl _ | apply Ext.alloc | apply Below.drew | apply Ext.drewN | refine Ext.trans' ?_ (by assumption) | refine Ext.trans' ?_ (ExtD.ext (by assumption))))⟩

open Classical in
/-- suite.Fails -/
noncomputable def failsI (s : Sy) (ts : List Te) : Int := if askE s ts = 0 then findI (failB s) ts else -1
theorem askE_ok {s : Sy} {ts : List Te} (h : askE s ts = 0) : okSyP s ∧ ts.length ≤ 4000 ∧ ∀ t ∈ ts, isTestB t = true := by
  unfold askE at h
  split at h
  · rename_i hok
    unfold testsE at h
    split at h
    · rename_i hl
      split at h
      · rename_i ha
        exact ⟨hok, hl, List.all_eq_true.1 ha⟩
      · cases h
    · cases h
  · cases h
theorem NTe.of_test {t : Te} (h : isTestB t = true) : NTe t := by
  simp [isTestB, isTraceB, isSetB] at h
  exact ⟨by omega, by omega⟩
theorem findI_lt {α : Type} (p : α → Bool) : ∀ (xs : List α), findI p xs < xs.length ∧ -1 ≤ findI p xs
  | [] => by simp [findI]
  | x :: xs => by
    have h := findI_lt p xs
    rw [findI]
    split
    · simp
    · split <;> simp only [List.length_cons] <;> omega
set_option maxHeartbeats 1000000 in
set_option maxRecDepth 100000 in
theorem Fails_c (S : Nat → Prop) (s : Sy) (cs : List Value) (ts : List Te) (v : Value) (w : World) (hx : RSy S w s cs) (ht : RSl RTe 2 S w ts [v]) :
    Calls Tryz.prog 28 #[v, .agg cs.toArray] w fun e w' => e = .returned (.tuple #[.int .i64 (max (failsI s ts) 0), .bool (decide (0 ≤ failsI s ts)), .int .i64 (askE s ts)]) ∧ Ext w w' := by
  have hak := fun W (hW : Ext w W) => asked_c S s cs ts v W (RSy.good.bel hx hW) ((RSl.good RTe.good).bel ht hW)
  have hfl := fun W g (hg : IsSys (fun _ => True) W g s) (hW : Ext w W) (hok : askE s ts = 0) => fails_c (fun _ => True) s (askE_ok hok).1 g ts v W hg ((RSl.good RTe.good).bel ((RSl.good RTe.good).mono ht fun _ _ _ => trivial) hW) (fun t h => NTe.of_test ((askE_ok hok).2.2 t h))
  obtain ⟨_, vl, ve, rfl, hvl, hve⟩ := id hx
  obtain ⟨Al, cl, rfl, _, _⟩ := hvl.val
  obtain ⟨Ae, ce, rfl, _, _⟩ := hve.val
  obtain ⟨A, c, rfl, hc, hc0⟩ := ht.val
  clear hx ht hvl hve
  by_cases hE : askE s ts = 0
  · have hv : failsI s ts = findI (failB s) ts := if_pos hE
    have hfl2 := fun W g hg hW => hfl W g hg hW hE
    rw [hv, hE]
    rw [hE] at hak
    obtain ⟨i, hi⟩ : ∃ i, findI (failB s) ts = i := ⟨_, rfl⟩
    have hb := findI_lt (failB s) ts
    rw [hi] at hfl2 hb ⊢
    clear hfl hv hE hi
    by_cases h0 : 0 ≤ i
    · have HV := Lib.hid (And.intro (show max i 0 = i from by omega) (show decide (0 ≤ i) = true from by simpa using h0))
      go_enter Tryz.func28, Tryz.ntmps28
      go_wp2_with fail
      refine (hak _ (by repeat (first | exact Ext.refl _ | apply Ext.alloc | apply Below.drew | apply Ext.drewN | refine Ext.trans' ?_ (by assumption) | refine Ext.trans' ?_ (ExtD.ext (by assumption))))).mono ?_
      rintro e w1 ⟨h1, _⟩
      obtain ⟨g, rfl, hx1, hg, hS⟩ := h1 rfl
      have hX1 : Ext w w1 := (by repeat (first | exact Ext.refl _ | apply Ext.alloc | apply Below.drew | apply Ext.drewN | refine Ext.trans' ?_ (by assumption) | refine Ext.trans' ?_ (ExtD.ext (by assumption))))
      clear h1 hx1
      go_wp2_with fail
      refine (hfl2 _ g (hS.mono fun _ _ _ => trivial) (by repeat (first | exact Ext.refl _ | apply Ext.alloc | apply Below.drew | apply Ext.drewN | refine Ext.trans' ?_ (by assumption) | refine Ext.trans' ?_ (ExtD.ext (by assumption))))).mono ?_
      rintro e w2 ⟨rfl, h2⟩
      go_wp2_with fail
      go_ret3
      exact ⟨by rw [HV.out.1, HV.out.2]; rfl, hX1.trans' h2⟩
    · have HV := Lib.hid (And.intro (show max i 0 = 0 from by omega) (show decide (0 ≤ i) = false from by simpa using h0))
      go_enter Tryz.func28, Tryz.ntmps28
      go_wp2_with fail
      refine (hak _ (by repeat (first | exact Ext.refl _ | apply Ext.alloc | apply Below.drew | apply Ext.drewN | refine Ext.trans' ?_ (by assumption) | refine Ext.trans' ?_ (ExtD.ext (by assumption))))).mono ?_
      rintro e w1 ⟨h1, _⟩
      obtain ⟨g, rfl, hx1, hg, hS⟩ := h1 rfl
      have hX1 : Ext w w1 := (by repeat (first | exact Ext.refl _ | apply Ext.alloc | apply Below.drew | apply Ext.drewN | refine Ext.trans' ?_ (by assumption) | refine Ext.trans' ?_ (ExtD.ext (by assumption))))
      clear h1 hx1
      go_wp2_with fail
      refine (hfl2 _ g (hS.mono fun _ _ _ => trivial) (by repeat (first | exact Ext.refl _ | apply Ext.alloc | apply Below.drew | apply Ext.drewN | refine Ext.trans' ?_ (by assumption) | refine Ext.trans' ?_ (ExtD.ext (by assumption))))).mono ?_
      rintro e w2 ⟨rfl, h2⟩
      go_wp2_with fail
      go_ret3
      exact ⟨by rw [HV.out.1, HV.out.2]; rfl, hX1.trans' h2⟩
  · have hv : failsI s ts = -1 := if_neg hE
    rw [hv]
    obtain ⟨er, her⟩ : ∃ er, askE s ts = er := ⟨_, rfl⟩
    rw [her] at hak hE ⊢
    have hE' : (er == 0) = false := beq_eq_false_iff_ne.2 hE
    clear hfl her hv
    go_enter Tryz.func28, Tryz.ntmps28
    go_wp2_with fail
    refine (hak _ (by repeat (first | exact Ext.refl _ | apply Ext.alloc | apply Below.drew | apply Ext.drewN | refine Ext.trans' ?_ (by assumption) | refine Ext.trans' ?_ (ExtD.ext (by assumption))))).mono ?_
    rintro e w1 ⟨_, h1⟩
    obtain ⟨rfl, hx1⟩ := h1 hE
    have hX1 : Ext w w1 := (by repeat (first | exact Ext.refl _ | apply Ext.alloc | apply Below.drew | apply Ext.drewN | refine Ext.trans' ?_ (by assumption) | refine Ext.trans' ?_ (ExtD.ext (by assumption))))
    clear h1 hx1
    go_wp2_with fail
    go_ret3
    exact ⟨by rfl, hX1⟩
end Go.Proofs.YtegenalcheooeaaGreat

/- suite.Covers: walked. -/
set_option linter.unusedSectionVars false
set_option linter.unusedSimpArgs false
set_option linter.unusedVariables false
namespace Go.Proofs.YtegenalcheooeaaGreat
open Go.RowKit
attribute [local go_sem] cell?_exto
open Go.Shelf

def cv0 (s : Sy) : Cv := ⟨List.replicate s.ls.length false, List.replicate s.es.length false⟩
def covAll (s : Sy) (ts : List Te) : Cv := ts.foldl (fun c t => covL s t c) (cv0 s)
open Classical in
noncomputable def covR (s : Sy) (ts : List Te) : Cv := if askE s ts = 0 then covAll s ts else ⟨[], []⟩
theorem covFold_len (s : Sy) : ∀ (ts : List Te) (c : Cv), (ts.foldl (fun c t => covL s t c) c).l.length = c.l.length ∧ (ts.foldl (fun c t => covL s t c) c).e.length = c.e.length
  | [], _ => ⟨rfl, rfl⟩
  | t :: ts, c => by
    have h1 := covFold_len s ts (covL s t c)
    have h2 := covL_len s t c
    exact ⟨h1.1.trans h2.1, h1.2.trans h2.2⟩
theorem covAll_len (s : Sy) (ts : List Te) : (covAll s ts).l.length = s.ls.length ∧ (covAll s ts).e.length = s.es.length := by
  have h := covFold_len s ts (cv0 s)
  simpa [covAll, cv0] using h
def CvPost (c : Cv) (err : Int) (w : World) (e : Ending) (w' : World) : Prop := ∃ v1 v2, e = .returned (.tuple #[v1, v2, .int .i64 err]) ∧ RBs w.heap.size w' c.l v1 ∧ RBs w.heap.size w' c.e v2 ∧ Ext w w'
set_option maxHeartbeats 1000000 in
set_option maxRecDepth 100000 in
theorem Covers_c (S : Nat → Prop) (s : Sy) (cs : List Value) (ts : List Te) (v : Value) (w : World) (hx : RSy S w s cs) (ht : RSl RTe 2 S w ts [v]) :
    Calls Tryz.prog 48 #[.agg cs.toArray, v] w (CvPost (covR s ts) (askE s ts) w) := by
  have hak := fun W (hW : Ext w W) => asked_c S s cs ts v W (RSy.good.bel hx hW) ((RSl.good RTe.good).bel ht hW)
  obtain ⟨_, vl, ve, rfl, hvl, hve⟩ := id hx
  obtain ⟨Al, cl, rfl, _, _⟩ := hvl.val
  obtain ⟨Ae, ce, rfl, _, _⟩ := hve.val
  obtain ⟨A, c, rfl, hc, hc0⟩ := ht.val
  have HT := Lib.hid ht
  clear hx ht hvl hve
  by_cases hE : askE s ts = 0
  case neg =>
    have hv : covR s ts = ⟨[], []⟩ := if_neg hE
    rw [hv]
    obtain ⟨er, her⟩ : ∃ er, askE s ts = er := ⟨_, rfl⟩
    rw [her] at hak hE ⊢
    have hE' : (er == 0) = false := beq_eq_false_iff_ne.2 hE
    clear her hv
    go_enter Tryz.func48, Tryz.ntmps48
    go_wp2_with fail
    refine (hak _ (by repeat (first | exact Ext.refl _ | apply Ext.alloc | apply Below.drew | apply Ext.drewN | refine Ext.trans' ?_ (by assumption) | refine Ext.trans' ?_ (ExtD.ext (by assumption))))).mono ?_
    rintro e w1 ⟨_, h1⟩
    obtain ⟨rfl, hx1⟩ := h1 hE
    have hX1 : Ext w w1 := (by repeat (first | exact Ext.refl _ | apply Ext.alloc | apply Below.drew | apply Ext.drewN | refine Ext.trans' ?_ (by assumption) | refine Ext.trans' ?_ (ExtD.ext (by assumption))))
    clear h1 hx1
    go_wp2_with fail
    go_ret3
    exact ⟨.slice none 0 0, .slice none 0 0, rfl, ROwn.nil .., ROwn.nil .., hX1⟩
  have hv : covR s ts = covAll s ts := if_pos hE
  have hok := (askE_ok hE).1
  have hn : ∀ t ∈ ts, NTe t := fun t h => NTe.of_test ((askE_ok hE).2.2 t h)
  rw [hv, hE]
  rw [hE] at hak
  clear hE hv
  have hnc := fun W g (hg : IsSys (fun _ => True) W g s) => newCover_c (fun _ => True) s g W hg (by have := hok.2.2.1; omega) (by have := hok.2.2.2.1; omega)
  go_enter Tryz.func48, Tryz.ntmps48
  go_wp2_with fail
  refine (hak _ (by repeat (first | exact Ext.refl _ | apply Ext.alloc | apply Below.drew | apply Ext.drewN | refine Ext.trans' ?_ (by assumption) | refine Ext.trans' ?_ (ExtD.ext (by assumption))))).mono ?_
  rintro e w1 ⟨h1, _⟩
  obtain ⟨g, rfl, hx1, hg, hS⟩ := h1 rfl
  have hX1 : Ext w w1 := (by repeat (first | exact Ext.refl _ | apply Ext.alloc | apply Below.drew | apply Ext.drewN | refine Ext.trans' ?_ (by assumption) | refine Ext.trans' ?_ (ExtD.ext (by assumption))))
  have HS := Lib.hid (hS.mono (S' := fun k => k < w1.heap.size) fun k h _ => h)
  clear h1 hx1 hg hS hak
  go_wp2_with fail
  refine (hnc _ g (HS.out.mono fun _ _ _ => trivial)).mono ?_
  rintro e w2 ⟨v1, v2, rfl, hr1, hr2, hap, h2⟩
  obtain ⟨A1, k1, rfl, _, _⟩ := (hr1.sl RBool.good (by decide)).val
  obtain ⟨A2, k2, rfl, _, _⟩ := (hr2.sl RBool.good (by decide)).val
  have hR0 : RCv w1.heap.size w2 (cv0 s) (.slice A1 (List.replicate s.ls.length false).length k1) (.slice A2 (List.replicate s.es.length false).length k2) := ⟨hr1, hr2, hap⟩
  have hZ0 : ∀ q, ZCv (.slice A1 (List.replicate s.ls.length false).length k1) (.slice A2 (List.replicate s.es.length false).length k2) q → w1.heap.size ≤ q ∧ q < w2.heap.size := fun q h => by
    rcases h with h | h
    · exact rbs_lt hr1 h
    · exact rbs_lt hr2 h
  simp only [List.length_replicate] at hR0 hZ0 ⊢
  have HR0 := Lib.hid hR0
  have HZ0 := Lib.hid hZ0
  have HX1 := Lib.hid hX1
  have HX2 := Lib.hid h2
  have hsz2 := h2.size
  clear hr1 hr2 hap hR0 hZ0 h2 hnc
  have HT1 := Lib.hid ((RSl.good RTe.good).mono HT.out (S' := fun k => k < w1.heap.size) fun b hb _ => by have := hX1.size; omega)
  go_wp2_with fail
  obtain ⟨Wb, hWb⟩ : ∃ Wb, w2.alloc (.cells #[.slice A1 s.ls.length k1, .slice A2 s.es.length k2] 145) = Wb := ⟨_, rfl⟩
  have hXb : Ext w2 Wb := by rw [← hWb]; exact (Ext.refl _).alloc _
  have hb0 : Wb.cell? ⟨w2.heap.size, 0, none⟩ = some (.slice A1 s.ls.length k1) := by subst hWb; go_simp
  have hb1 : Wb.cell? ⟨w2.heap.size, 1, none⟩ = some (.slice A2 s.es.length k2) := by subst hWb; go_simp
  have hbs : w2.heap.size < Wb.heap.size := by rw [← hWb]; simp
  rw [hWb]
  clear hWb
  go_loopw [25] (fun vi wr => ∃ k : Nat, k ≤ ts.length ∧ vi = .int .i64 k ∧ RCv w1.heap.size wr ((ts.take k).foldl (fun c t => covL s t c) (cv0 s)) (.slice A1 s.ls.length k1) (.slice A2 s.es.length k2) ∧ wr.cell? ⟨w2.heap.size, 0, none⟩ = some (.slice A1 s.ls.length k1) ∧ wr.cell? ⟨w2.heap.size, 1, none⟩ = some (.slice A2 s.es.length k2) ∧ Hid (Ext w1 wr) ∧ w2.heap.size < wr.heap.size) (fun vi _ => ts.length - (intOf vi).toNat)
  case atStart => exact ⟨0, Nat.zero_le _, rfl, HR0.out.ext hXb, hb0, hb1, HX2.out.trans' hXb, hbs⟩
  case round =>
    obtain ⟨k, hk, rfl, hrc, q0, q1, hE, hsz⟩ := hrel
    have HRC := Lib.hid hrc
    clear hrc
    by_cases hlt : k < ts.length
    · obtain ⟨b, off, cs, rfl, hb, hS2, hl, hr, hcell⟩ := ((RSl.good RTe.good).bel HT1.out (HX1.out.trans' hE.out)).get k hlt
      obtain ⟨v0, v1, rfl, ha0, ha1⟩ := id hr
      have a0 := hcell.get 0 _
      have a1 := hcell.get 1 _
      simp only [Nat.add_zero] at a0
      have hnt := hn _ (List.getElem_mem hlt)
      have hfl := covFold_len s (ts.take k) (cv0 s)
      have hcv := fun X (hX : Ext wr X) => covers_c (fun k => k < w1.heap.size) s hok g ts[k] ((ts.take k).foldl (fun c t => covL s t c) (cv0 s)) w1.heap.size _ _ v0 v1 X (HS.out.bel (hE.out.trans' hX)) (HRC.out.ext hX) (fun _ h => h) (RLbs.good.bel ha0 hX) (RLbs.good.bel ha1 hX) (by rw [hfl.1]; simp [cv0]) (by rw [hfl.2]; simp [cv0]) hnt.1 hnt.2
      obtain ⟨B0, d0, rfl, _, _⟩ := ha0.val
      obtain ⟨B1, d1, rfl, _, _⟩ := ha1.val
      clear ha0 ha1 hr hl hcell hS2 hfl
      go_wp2_with fail
      refine (hcv _ (by repeat (first | exact Ext.refl _ | apply Ext.alloc | apply Below.drew | apply Ext.drewN | refine Ext.trans' ?_ (by assumption) | refine Ext.trans' ?_ (ExtD.ext (by assumption))))).mono ?_
      rintro e w5 ⟨rfl, hr5, hb5⟩
      have hx4 : Ext wr (wr.alloc (.cells #[.slice B0 ts[k].tr.length d0, .slice B1 ts[k].mu.length d1] 40)) := (Ext.refl wr).alloc _
      have hne : ¬ ZCv (.slice A1 s.ls.length k1) (.slice A2 s.es.length k2) w2.heap.size := fun h => by have := HZ0.out _ h; omega
      have q0' := hb5.cell (Ext.keep hx4 q0) hne
      have q1' := hb5.cell (Ext.keep hx4 q1) hne
      have hX5 : Ext w1 w5 := Bt.new (hE.out.trans' hx4) hb5 fun i _ h => (HZ0.out i h).1
      have hz5 := hb5.size
      have HR5 := Lib.hid hr5
      have HX5 := Lib.hid hX5
      clear hr5 hb5 hX5 q0 q1 hcv
      go_wp2_with fail
      go_roundw
      case rel =>
        refine ⟨k + 1, by omega, by go_num, ?_, q0', q1', HX5.out, by simp at hz5; omega⟩
        rw [List.take_succ_eq_append_getElem hlt, List.foldl_append]
        exact HR5.out
      case measure => simp [intOf]; omega
    · obtain rfl : k = ts.length := by omega
      rw [List.take_length] at HRC
      go_wp2_with fail
      (refine wp_region_ext (by kernel_rfl) (by kernel_rfl) ?_; (repeat (first | go_big_quiet_step ((fail)) | quiet_step ((fail)))); refine wpQuiet_nil ?_)
      intro w5 hx5
      have hX5 : Ext w w5 := HX1.out.trans' (hE.out.trans' hx5)
      go_wp2_with fail
      go_ret3
      refine ⟨.slice A1 s.ls.length k1, .slice A2 s.es.length k2, rfl, ?_, ?_, hX5⟩
      · exact (HRC.out.l.ext RBool.good hx5).base HX1.out.size
      · exact (HRC.out.e.ext RBool.good hx5).base HX1.out.size
end Go.Proofs.YtegenalcheooeaaGreat

/- suite.more: walked. -/
set_option linter.unusedSectionVars false
set_option linter.unusedSimpArgs false
set_option linter.unusedVariables false
namespace Go.Proofs.YtegenalcheooeaaGreat
open Go.RowKit
attribute [local go_sem] cell?_exto
open Go.Shelf

def moreN : List Bool → List Bool → Nat
  | a :: xs, b :: ys => (if b && !a then 1 else 0) + moreN xs ys
  | _, _ => 0
theorem moreN_snoc : ∀ (xs ys : List Bool) (a b : Bool), xs.length = ys.length → moreN (xs ++ [a]) (ys ++ [b]) = moreN xs ys + (if b && !a then 1 else 0)
  | [], [], a, b, _ => by simp [moreN]
  | [], _ :: _, _, _, h => by simp at h
  | _ :: _, [], _, _, h => by simp at h
  | x :: xs, y :: ys, a, b, h => by
    simp only [List.cons_append, moreN]
    rw [moreN_snoc xs ys a b (by simpa using h)]
    omega
theorem moreN_le : ∀ (xs ys : List Bool), moreN xs ys ≤ ys.length
  | a :: xs, b :: ys => by
    have := moreN_le xs ys
    rw [moreN, List.length_cons]
    split <;> omega
  | [], _ => by simp [moreN]
  | _ :: _, [] => by simp [moreN]
set_option maxHeartbeats 1000000 in
set_option maxRecDepth 100000 in
theorem more_c (S : Nat → Prop) (a b : List Bool) (va vb : Value) (w : World) (ha : RSl RBool 1 S w a [va]) (hb : RSl RBool 1 S w b [vb]) (hl : a.length = b.length) :
    Calls Tryz.prog 115 #[va, vb] w fun e w' => e = .returned (.int .i64 (moreN a b : Nat)) ∧ w' = w := by
  obtain ⟨A, c, rfl, hc, hc0⟩ := ha.val
  obtain ⟨B, d, rfl, hd, hd0⟩ := hb.val
  have HA := Lib.hid ha
  have HB := Lib.hid hb
  have HL := Lib.hid hl
  clear ha hb hl
  go_enter Tryz.func115, Tryz.ntmps115
  go_wp2
  go_loopw [5, 10] (fun vn vi wr => ∃ k : Nat, k ≤ b.length ∧ vi = .int .i64 k ∧ vn = .int .i64 ((moreN (a.take k) (b.take k) : Nat) : Int) ∧ wr = w) (fun _ vi _ => b.length - (intOf vi).toNat)
  case atStart => exact ⟨0, Nat.zero_le _, rfl, by simp [moreN], rfl⟩
  case round =>
    obtain ⟨k, hk, rfl, rfl, rfl⟩ := hrel
    by_cases hlt : k < b.length
    · have hla : k < a.length := by rw [HL.out]; exact hlt
      obtain ⟨b1, o1, cs1, rfl, hb1, _, hl1, hr1, hc1⟩ := HA.out.get k hla
      obtain ⟨b2, o2, cs2, rfl, hb2, _, hl2, hr2, hc2⟩ := HB.out.get k hlt
      obtain rfl := hr1
      obtain rfl := hr2
      have s1 := (by simpa using hc1.get 0 _ : wr.cell? ⟨b1, o1 + k, none⟩ = some (.bool a[k]))
      have s2 := (by simpa using hc2.get 0 _ : wr.cell? ⟨b2, o2 + k, none⟩ = some (.bool b[k]))
      have hst := moreN_snoc (a.take k) (b.take k) a[k] b[k] (by rw [List.length_take, List.length_take]; omega)
      rw [← List.take_succ_eq_append_getElem hla, ← List.take_succ_eq_append_getElem hlt] at hst
      have hle := moreN_le (a.take k) (b.take k)
      rw [List.length_take, Nat.min_eq_left (by omega)] at hle
      clear hc1 hc2 hl1 hl2
      cases hq2 : b[k] with
      | false =>
        rw [hq2] at s2 hst
        have HST := Lib.hid hst
        clear hst hq2
        go_wp2_with fail
        go_roundw
        case rel => exact ⟨k + 1, by omega, by go_num, by rw [HST.out]; rfl, trivial⟩
        case measure => simp [intOf]; omega
      | true =>
        cases hq1 : a[k] with
        | true =>
          rw [hq2] at s2 hst
          rw [hq1] at s1 hst
          have HST := Lib.hid hst
          clear hst hq2 hq1
          go_wp2_with fail
          go_roundw
          case rel => exact ⟨k + 1, by omega, by go_num, by rw [HST.out]; rfl, trivial⟩
          case measure => simp [intOf]; omega
        | false =>
          rw [hq2] at s2 hst
          rw [hq1] at s1 hst
          have HST := Lib.hid hst
          clear hst hq2 hq1
          go_wp2_with fail
          go_roundw
          case rel => exact ⟨k + 1, by omega, by go_num, by rw [HST.out]; go_num, trivial⟩
          case measure => simp [intOf]; omega
    · have hkb : k = b.length := by omega
      have HF := Lib.hid (show moreN (a.take k) (b.take k) = moreN a b from by rw [List.take_of_length_le (by rw [HL.out]; omega), List.take_of_length_le (by omega)])
      clear hkb
      go_wp2_with fail
      go_ret
      rw [HF.out]
      exact ⟨rfl, rfl⟩
end Go.Proofs.YtegenalcheooeaaGreat

/- suite.Choose: what it comes to. -/
set_option linter.unusedSectionVars false
set_option linter.unusedSimpArgs false
set_option linter.unusedVariables false
namespace Go.Proofs.YtegenalcheooeaaGreat
open Go.RowKit
attribute [local go_sem] cell?_exto
open Go.Shelf

def orB : List Bool → List Bool → List Bool
  | a :: xs, b :: ys => (a || b) :: orB xs ys
  | xs, _ => xs
theorem orB_len : ∀ (xs ys : List Bool), (orB xs ys).length = xs.length
  | a :: xs, b :: ys => by simp [orB, orB_len xs ys]
  | [], [] => rfl
  | [], _ :: _ => rfl
  | _ :: _, [] => rfl
theorem orB_nil (xs : List Bool) : orB xs [] = xs := by cases xs <;> rfl
theorem orB_step : ∀ (xs ys : List Bool) (k : Nat) (h : k < xs.length) (h' : k < ys.length), (orB xs (ys.take k)).set k (xs[k] || ys[k]) = orB xs (ys.take (k + 1)) ∧ (orB xs (ys.take k))[k]'(by rw [orB_len]; exact h) = xs[k]
  | x :: xs, y :: ys, 0, _, _ => by simp [orB, orB_nil]
  | x :: xs, y :: ys, k + 1, h, h' => by
    have := orB_step xs ys k (by simpa using h) (by simpa using h')
    simp only [List.take_succ_cons, orB, List.set_cons_succ, List.getElem_cons_succ]
    exact ⟨by rw [this.1], this.2⟩
def falN (xs : List Bool) : Nat := xs.count false
theorem orB_fal : ∀ (xs ys : List Bool), falN (orB xs ys) + moreN xs ys = falN xs
  | x :: xs, y :: ys => by
    have := orB_fal xs ys
    unfold falN at *
    rw [orB, moreN]
    cases x <;> cases y <;> simp <;> omega
  | [], [] => rfl
  | [], _ :: _ => rfl
  | _ :: _, [] => rfl
def orCv (a c : Cv) : Cv := ⟨orB a.l c.l, orB a.e c.e⟩
def gainN (a c : Cv) : Nat := moreN a.l c.l + moreN a.e c.e
def bestGo (a : Cv) : List Cv → Nat → Int × Nat → Int × Nat
  | [], _, p => p
  | c :: cs, i, p => bestGo a cs (i + 1) (if p.2 < gainN a c then ((i : Int), gainN a c) else p)
def bestOf (a : Cv) (each : List Cv) : Int × Nat := bestGo a each 0 (-1, 0)
theorem bestGo_ok (a : Cv) (all : List Cv) : ∀ (cs : List Cv) (i : Nat) (p : Int × Nat), all.drop i = cs → (p = (-1, 0) ∨ ∃ j : Nat, ∃ h : j < all.length, p.1 = (j : Int) ∧ 0 < p.2 ∧ p.2 = gainN a all[j]) →
    (bestGo a cs i p = (-1, 0) ∨ ∃ j : Nat, ∃ h : j < all.length, (bestGo a cs i p).1 = (j : Int) ∧ 0 < (bestGo a cs i p).2 ∧ (bestGo a cs i p).2 = gainN a all[j])
  | [], _, p, _, h => h
  | c :: cs, i, p, hd, h => by
    have hi : i < all.length := by
      by_cases hl : i < all.length
      · exact hl
      · rw [List.drop_eq_nil_of_le (by omega)] at hd; cases hd
    have hc : all[i] = c := by rw [List.drop_eq_getElem_cons hi] at hd; injection hd
    have hd' : all.drop (i + 1) = cs := by rw [List.drop_eq_getElem_cons hi] at hd; injection hd
    rw [bestGo]
    refine bestGo_ok a all cs (i + 1) _ hd' ?_
    split
    · rename_i hg
      exact .inr ⟨i, hi, rfl, by show 0 < gainN a c; omega, by show gainN a c = _; rw [hc]⟩
    · exact h
theorem bestOf_ok (a : Cv) (all : List Cv) : (bestOf a all = (-1, 0)) ∨ ∃ j : Nat, ∃ h : j < all.length, (bestOf a all).1 = (j : Int) ∧ 0 < gainN a all[j] := by
  rcases bestGo_ok a all all 0 (-1, 0) rfl (.inl rfl) with h | ⟨j, h, h1, h2, h3⟩
  · exact .inl h
  · exact .inr ⟨j, h, h1, by rw [← h3]; exact h2⟩
def chGo (each : List Cv) : Nat → Cv → List Int → List Int
  | 0, _, out => out
  | f + 1, a, out => if (bestOf a each).1 < 0 then out else chGo each f (orCv a (each.getD (bestOf a each).1.toNat ⟨[], []⟩)) (out ++ [(bestOf a each).1])
def eachL (s : Sy) (ts : List Te) : List Cv := ts.map fun t => covL s t (cv0 s)
def potN (a : Cv) : Nat := falN a.l + falN a.e
def chooseL (s : Sy) (ts : List Te) : List Int := sortI (chGo (eachL s ts) (s.ls.length + s.es.length + 1) (cv0 s) [])
theorem orCv_pot (a c : Cv) : potN (orCv a c) + gainN a c = potN a := by
  have h1 := orB_fal a.l c.l
  have h2 := orB_fal a.e c.e
  simp only [potN, orCv, gainN]
  omega
theorem cv0_pot (s : Sy) : potN (cv0 s) = s.ls.length + s.es.length := by simp [potN, cv0, falN]

/-- Covers in memory. -/
def RCvR : Rdr Cv := fun S w c cs => ∃ v u, cs = [v, u] ∧ RSl RBool 1 S w c.l [v] ∧ RSl RBool 1 S w c.e [u]
theorem RCvR.good : Good RCvR 2 := {
  len := by rintro S w x cs ⟨v, u, rfl, _⟩; rfl
  one := by
    rintro S w x cs ⟨v, u, rfl, hv, hu⟩ y hy
    simp at hy
    rcases hy with rfl | rfl
    · exact hv.oneCell
    · exact hu.oneCell
  move := by rintro S w w' x cs ⟨v, u, rfl, hv, hu⟩ hk; exact ⟨v, u, rfl, (RSl.good RBool.good).move hv hk, (RSl.good RBool.good).move hu hk⟩
  mono := by rintro S S' w x cs ⟨v, u, rfl, hv, hu⟩ hs; exact ⟨v, u, rfl, (RSl.good RBool.good).mono hv hs, (RSl.good RBool.good).mono hu hs⟩ }
theorem info145 : (Tryz.prog.info? 145).map (fun i => (i.zero, i.size, i.bytes)) = some (some (.agg #[.slice none 0 0, .slice none 0 0]), 2, 48) := by kernel_rfl
end Go.Proofs.YtegenalcheooeaaGreat

/- suite.Verdicts: walked (a range over a map, in whatever order). -/
set_option linter.unusedSectionVars false
set_option linter.unusedSimpArgs false
set_option linter.unusedVariables false
namespace Go.Proofs.YtegenalcheooeaaGreat
open Go.RowKit
attribute [local go_sem] cell?_exto
open Go.Shelf

def verdB (s : Sy) (t : Te) (n : Int) : Bool := if n = 1 then passB s t else if n = 2 then failB s t else openB s t
def verdL (s : Sy) (t : Te) : List Int := [1, 2, 3].filter (verdB s t)
/-- What has been collected behind the entries 'seen'. -/
def outV (s : Sy) (t : Te) (seen : List Nat) : List Int := (seen.map fun i : Nat => (i : Int) + 1).filter (verdB s t)
theorem sortI_of {xs l : List Int} (hp : xs.Perm l) (hs : Srt cmpI l) : sortI xs = l := by
  refine srt_unique ordI ((sortI_perm xs).trans hp) ?_ hs
  have h := sortI_sorted xs
  exact h.imp fun {a b} h => by
    have h' : a ≤ b := h
    unfold cmpI
    split
    · omega
    · split <;> omega
theorem outV_all (s : Sy) (t : Te) (seen : List Nat) (hn : seen.Nodup) (h3 : ∀ x ∈ seen, x < 3) (ha : ∀ i, i < 3 → i ∈ seen) : sortI (outV s t seen) = verdL s t := by
  refine sortI_of ?_ ?_
  · have hp : seen.Perm [0, 1, 2] := by
      rw [List.perm_ext_iff_of_nodup hn (by decide)]
      intro x
      constructor
      · intro hx
        have := h3 x hx
        simp
        omega
      · intro hx
        refine ha x ?_
        simp at hx
        omega
    exact (hp.map _).filter _
  · exact List.Pairwise.filter _ (show Srt cmpI [1, 2, 3] from by unfold Srt; decide)

theorem seen_len {seen : List Nat} (hn : seen.Nodup) (h3 : ∀ x ∈ seen, x < 3) : seen.length ≤ 3 := by
  have hp : seen.Perm ([0, 1, 2].filter fun x => decide (x ∈ seen)) := by
    rw [List.perm_ext_iff_of_nodup hn (List.Pairwise.filter _ (by decide))]
    intro x
    constructor
    · intro hx
      have := h3 x hx
      simp [hx]
      omega
    · intro hx
      simpa using (List.mem_filter.1 hx).2
  rw [hp.length_eq]
  exact List.length_filter_le _ _
theorem VM_left {seen : List Nat} (h : (leftOf VM seen.toArray).size = 0) : ∀ i, i < 3 → i ∈ seen := by
  intro i hi
  have h' : leftOf VM seen.toArray = #[] := Array.eq_empty_of_size_eq_zero h
  unfold leftOf at h'
  rw [Array.filter_eq_empty_iff] at h'
  match i, hi with
  | 0, _ => simpa using h' { key := .int .i64 1, val := .func (.func 168) #[] #[], born := 0 } (by simp [VM])
  | 1, _ => simpa using h' { key := .int .i64 2, val := .func (.func 170) #[] #[], born := 1 } (by simp [VM])
  | 2, _ => simpa using h' { key := .int .i64 3, val := .func (.func 171) #[] #[], born := 2 } (by simp [VM])

/-- What an entry's function tells. -/
theorem VM_at (s : Sy) (hok : okSyP s) (g : Nat) (t : Te) (v u : Value) (hn : NTe t) (seen : List Nat) (e : MapEntry) (he : e ∈ (leftOf VM seen.toArray).toList) :
    ∃ i f : Nat, i < 3 ∧ i ∉ seen ∧ e = { key := .int .i64 ((i : Int) + 1), val := .func (.func f) #[] #[], born := i } ∧ (∀ args w, (callFunc f args).run Tryz.prog w = .ok (.enter f args) w) ∧
      ∀ w, IsSys (fun _ => True) w g s → RLbs (fun _ => True) w t.tr [v] → RLbs (fun _ => True) w t.mu [u] → Calls Tryz.prog f #[.pointer (some ⟨g, 0, none⟩), .agg #[v, u]] w fun e w' => e = .returned (.bool (verdB s t ((i : Int) + 1))) ∧ Ext w w' := by
  simp only [leftOf, Array.mem_toList_iff, Array.mem_filter] at he
  obtain ⟨h1, h2⟩ := he
  simp only [VM, List.mem_toArray, List.mem_cons, List.not_mem_nil, or_false] at h1
  rcases h1 with rfl | rfl | rfl
  · exact ⟨0, 168, by decide, by simpa using h2, rfl, enters_of Tryz.func168 (by kernel_rfl) rfl, fun w hS h1 h2 => pass_c _ s hok g t v u w hS h1 h2 hn.1 hn.2⟩
  · exact ⟨1, 170, by decide, by simpa using h2, rfl, enters_of Tryz.func170 (by kernel_rfl) rfl, fun w hS h1 h2 => fail_c _ s hok g t v u w hS h1 h2 hn.1 hn.2⟩
  · exact ⟨2, 171, by decide, by simpa using h2, rfl, enters_of Tryz.func171 (by kernel_rfl) rfl, fun w hS h1 h2 => open_c _ s hok g t v u w hS h1 h2 hn.1⟩

/-- A step of the range. -/
theorem VM_next (s : Sy) (hok : okSyP s) (g : Nat) (t : Te) (v u : Value) (hn : NTe t) (w W : World) (r m : Nat) (seen : List Nat) (ty : TypeId) (hE : Ext w W) (hr : w.heap.size ≤ r) (hi : W.heap[r]? = some (.mapIter (some m) 3 seen.toArray 3)) (hm : W.heap[m]? = some (.map VM 3)) :
    ((∀ i, i < 3 → i ∈ seen) ∧ (Instr.next (.pointer (some ⟨r, 0, none⟩)) false ty).run Tryz.prog W = .ok (.tuple #[.bool false]) W) ∨
    ∃ (i f : Nat) (W' : World), i < 3 ∧ i ∉ seen ∧ (∀ args w, (callFunc f args).run Tryz.prog w = .ok (.enter f args) w) ∧
      (Instr.next (.pointer (some ⟨r, 0, none⟩)) false ty).run Tryz.prog W = .ok (.tuple #[.bool true, .int .i64 ((i : Int) + 1), .func (.func f) #[] #[]]) W' ∧
      (Instr.entry (.pointer (some ⟨r, 0, none⟩))).run Tryz.prog W' = .ok (.tuple #[.int .i64 ((i : Int) + 1), .func (.func f) #[] #[]]) W' ∧
      (∀ w, IsSys (fun _ => True) w g s → RLbs (fun _ => True) w t.tr [v] → RLbs (fun _ => True) w t.mu [u] → Calls Tryz.prog f #[.pointer (some ⟨g, 0, none⟩), .agg #[v, u]] w fun e w' => e = .returned (.bool (verdB s t ((i : Int) + 1))) ∧ Ext w w') ∧
      Bt (fun q => q = r) W W' ∧ W'.heap.size = W.heap.size ∧ W'.heap[r]? = some (.mapIter (some m) 3 (seen ++ [i]).toArray 3) := by
  rcases run_next_at (P := Tryz.prog) W ty r m 3 3 seen.toArray VM 3 hi hm (by decide) (Nat.le_refl _) with ⟨h0, h1⟩ | ⟨e, he, w1, hw1, hrun⟩
  · exact .inl ⟨VM_left h0, h1⟩
  · right
    obtain ⟨i, f, hi3, hs, rfl, eg, hc⟩ := VM_at s hok g t v u hn seen e he
    have hsz : r < W.heap.size := (Array.getElem?_eq_some_iff.1 hi).1
    have hw1h : w1.heap = W.heap := by rcases hw1 with rfl | rfl <;> rfl
    have hw1o : w1.os = W.os ∧ w1.tape = W.tape ∧ w1.output = W.output := by rcases hw1 with rfl | rfl <;> exact ⟨rfl, rfl, rfl⟩
    have hne : m ≠ r := by
      rintro rfl
      rw [hi] at hm
      cases hm
    have hrr : (ChangeMaps.setBlock w1 r (.mapIter (some m) 3 (seen.toArray.push i) 3)).heap[r]? = some (.mapIter (some m) 3 (seen.toArray.push i) 3) := by
      simp [ChangeMaps.setBlock, hw1h, hsz]
    have hmm : (ChangeMaps.setBlock w1 r (.mapIter (some m) 3 (seen.toArray.push i) 3)).heap[m]? = some (.map VM 3) := by
      rw [← hm]
      simp [ChangeMaps.setBlock, hw1h, Array.getElem?_setIfInBounds, Ne.symm hne]
    refine ⟨i, f, _, hi3, hs, eg, hrun, run_entry_at _ r m 3 seen.toArray VM 3 { key := .int .i64 ((i : Int) + 1), val := .func (.func f) #[] #[], born := i } hrr hmm ?_ (by decide), hc, ⟨hw1o.1, hw1o.2.1, hw1o.2.2, by simp [ChangeMaps.setBlock, hw1h], fun k hk hkr => ?_⟩, by simp [ChangeMaps.setBlock, hw1h], ?_⟩
    · simp only [leftOf, Array.mem_toList_iff, Array.mem_filter] at he
      simpa using he.1
    · have : r ≠ k := fun e => hkr e.symm
      simp [ChangeMaps.setBlock, hw1h, Array.getElem?_setIfInBounds, this]
    · rw [hrr]
      simp

theorem rsl_oneTe {S : Nat → Prop} {w : World} {t : Te} {v u : Value} (ht : RTe S w t [v, u]) {n : Nat} (hn : n = w.heap.size) (hS : S w.heap.size) : RSl RTe 2 S (w.alloc (.cells #[v, u] 40)) [t] [.slice (some ⟨n, 0, none⟩) 1 1] := by
  subst hn
  exact ⟨_, 1, rfl, by simp, by decide, .inr ⟨w.heap.size, 0, rfl, by simp, hS, ⟨[v, u], rfl, RTe.good.bel ht ((Ext.refl w).alloc _), fun i x h => by have := cells_new w #[v, u] 40 i x h; rwa [Addr.add_lit] at this⟩, trivial⟩⟩

open Classical in
noncomputable def verdR (s : Sy) (t : Te) : List Int := if askE s [t] = 0 then verdL s t else []
def IntsPost (r : List Int) (err : Int) (w : World) (e : Ending) (w' : World) : Prop := ∃ A c, e = .returned (.tuple #[.slice A r.length c, .int .i64 err]) ∧ ROwn RInt 1 3 w.heap.size (fun _ => False) w' r (.slice A r.length c) ∧ Ext w w'
set_option maxHeartbeats 1000000 in
set_option maxRecDepth 100000 in
theorem Verdicts_c (S : Nat → Prop) (s : Sy) (cs cst : List Value) (t : Te) (w : World) (hx : RSy S w s cs) (ht : RTe S w t cst) :
    Calls Tryz.prog 31 #[.agg cst.toArray, .agg cs.toArray] w (IntsPost (verdR s t) (askE s [t]) w) := by
  obtain ⟨vt, vu, rfl, hvt, hvu⟩ := id ht
  have hak := fun W (hW : Ext w W) v (hv : RSl RTe 2 (fun _ => True) W [t] [v]) => asked_c (fun _ => True) s cs [t] v W (RSy.good.bel (RSy.good.mono hx fun _ _ _ => trivial) hW) hv
  have hte := fun W (hW : Ext w W) n (hn : n = W.heap.size) => rsl_oneTe (S := fun _ => True) (RTe.good.bel (RTe.good.mono ht fun _ _ _ => trivial) hW) hn trivial
  obtain ⟨_, vl, ve, rfl, hvl, hve⟩ := id hx
  obtain ⟨Al, cl, rfl, _, _⟩ := hvl.val
  obtain ⟨Ae, ce, rfl, _, _⟩ := hve.val
  obtain ⟨A, c, rfl, hc, hc0⟩ := hvt.val
  obtain ⟨A', c', rfl, hc', hc0'⟩ := hvu.val
  have HTR := Lib.hid hvt
  have HMU := Lib.hid hvu
  clear hx ht hvl hve hvt hvu
  by_cases hE : askE s [t] = 0
  case neg =>
    have hv : verdR s t = [] := if_neg hE
    rw [hv]
    obtain ⟨er, her⟩ : ∃ er, askE s [t] = er := ⟨_, rfl⟩
    rw [her] at hak hE ⊢
    have hE' : (er == 0) = false := beq_eq_false_iff_ne.2 hE
    clear her hv
    go_enter Tryz.func31, Tryz.ntmps31
    go_wp2_with fail
    refine (hak _ (by repeat (first | exact Ext.refl _ | apply Ext.alloc | apply Below.drew | apply Ext.drewN | refine Ext.trans' ?_ (by assumption) | refine Ext.trans' ?_ (ExtD.ext (by assumption)))) _ (hte _ (by repeat (first | exact Ext.refl _ | apply Ext.alloc | apply Below.drew | apply Ext.drewN | refine Ext.trans' ?_ (by assumption) | refine Ext.trans' ?_ (ExtD.ext (by assumption)))) _ (by simp))).mono ?_
    rintro e w1 ⟨_, h1⟩
    obtain ⟨rfl, hx1⟩ := h1 hE
    have hX1 : Ext w w1 := (by repeat (first | exact Ext.refl _ | apply Ext.alloc | apply Below.drew | apply Ext.drewN | refine Ext.trans' ?_ (by assumption) | refine Ext.trans' ?_ (ExtD.ext (by assumption))))
    clear h1 hx1
    go_wp2_with fail
    go_ret2
    exact ⟨none, 0, rfl, ROwn.nil .., hX1⟩
  have hv : verdR s t = verdL s t := if_pos hE
  have hok := (askE_ok hE).1
  have hn : NTe t := NTe.of_test ((askE_ok hE).2.2 t (by simp))
  rw [hv, hE]
  rw [hE] at hak
  obtain ⟨i3, hi3, hzz⟩ := Option.map_eq_some_iff.1 info3a
  simp only [Prod.mk.injEq] at hzz
  obtain ⟨hz0, hz1, hz2⟩ := hzz
  clear hE hv
  go_enter Tryz.func31, Tryz.ntmps31
  go_wp2_with fail
  refine (hak _ (by repeat (first | exact Ext.refl _ | apply Ext.alloc | apply Below.drew | apply Ext.drewN | refine Ext.trans' ?_ (by assumption) | refine Ext.trans' ?_ (ExtD.ext (by assumption)))) _ (hte _ (by repeat (first | exact Ext.refl _ | apply Ext.alloc | apply Below.drew | apply Ext.drewN | refine Ext.trans' ?_ (by assumption) | refine Ext.trans' ?_ (ExtD.ext (by assumption)))) _ (by simp))).mono ?_
  rintro e w1 ⟨h1, _⟩
  obtain ⟨g, rfl, hx1, hg, hS⟩ := h1 rfl
  have hX1 : Ext w w1 := (by repeat (first | exact Ext.refl _ | apply Ext.alloc | apply Below.drew | apply Ext.drewN | refine Ext.trans' ?_ (by assumption) | refine Ext.trans' ?_ (ExtD.ext (by assumption))))
  have b1 : w1.cell? ⟨w.heap.size, 0, none⟩ = some (.slice A t.tr.length c) := Ext.keep hx1 (by go_simp)
  have b2 : w1.cell? ⟨w.heap.size, 1, none⟩ = some (.slice A' t.mu.length c') := Ext.keep hx1 (by go_simp)
  have HS := Lib.hid (hS.mono (S' := fun _ => True) fun _ _ _ => trivial)
  clear h1 hx1 hg hS hak
  go_wp2_with fail
  refine (verdicts_c _).mono ?_
  rintro e w2 ⟨m, rfl, hm, hm', h2⟩
  have hrange := run_range_map (P := Tryz.prog) w2 136 3 138 m VM 3 Tryz.underlying136 hm
  have hX2 : Ext w w2 := hX1.trans' h2
  have b1 := Ext.keep h2 b1
  have b2 := Ext.keep h2 b2
  have HS := Lib.hid (HS.out.bel h2)
  have hmlt : m < w2.heap.size := (Array.getElem?_eq_some_iff.1 hm).1
  go_wp2_with fail
  have hit : (w2.alloc (.mapIter (some m) 3 #[] 3)).heap[w2.heap.size]? = some (.mapIter (some m) 3 #[] 3) := World.alloc_heap_new w2 _
  have hXa : Ext w2 (w2.alloc (.mapIter (some m) 3 #[] 3)) := (Ext.refl _).alloc _
  have hsa : (w2.alloc (.mapIter (some m) 3 #[] 3)).heap.size = w2.heap.size + 1 := World.size_alloc ..
  have HM := Lib.hid hm
  obtain ⟨wa, hwa⟩ : ∃ wa, w2.alloc (.mapIter (some m) 3 #[] 3) = wa := ⟨_, rfl⟩
  rw [hwa] at hit hXa hsa ⊢
  clear hwa hrange hm
  go_loopw [8] (fun vo wr => ∃ (seen : List Nat) (A : Option Addr) (c : Nat), vo = .slice A (outV s t seen).length c ∧ ROwn RInt 1 3 wa.heap.size (fun _ => False) wr (outV s t seen) (.slice A (outV s t seen).length c) ∧ Hid (seen.Nodup ∧ (∀ x ∈ seen, x < 3) ∧ wr.heap[w2.heap.size]? = some (.mapIter (some m) 3 seen.toArray 3)) ∧ Ext w2 wr ∧ wa.heap.size ≤ wr.heap.size) (fun _ wr => match wr.heap[w2.heap.size]? with | some (.mapIter _ _ seen _) => ([0, 1, 2].filter fun i => decide (i ∉ seen.toList)).length | _ => 0)
  case atStart => exact ⟨[], none, 0, rfl, ROwn.nil .., ⟨List.nodup_nil, by simp, hit⟩, hXa, Nat.le_refl _⟩
  case round =>
    obtain ⟨seen, Ar, cr, rfl, hown, hseen, hE, hsz⟩ := hrel
    have HO := Lib.hid hown
    clear hown
    rcases VM_next s hok g t (.slice A t.tr.length c) (.slice A' t.mu.length c') hn w2 wr w2.heap.size m seen 0 hE (Nat.le_refl _) hseen.out.2.2 ((hE.block _ hmlt).trans HM.out) with ⟨hall, hnx⟩ | ⟨i, f, W3, hi3', hns, eg, hnx, hen, hcon, hb3, hsz3, hr3⟩
    · have hfin : Hid (sortI (outV s t seen) = verdL s t) := outV_all s t seen hseen.out.1 hseen.out.2.1 hall
      clear hall
      have hl3 : (outV s t seen).length < 4611686018427387904 := by rw [← sortI_len, hfin.out]; have := List.length_filter_le (verdB s t) [1, 2, 3]; simp only [List.length_cons, List.length_nil] at this; show ([1, 2, 3].filter (verdB s t)).length < _; omega
      go_wp2_with fail
      refine (sort_own _ _ _ _ wr HO.out hl3).mono ?_
      rintro e w4 ⟨rfl, ho4, hb4⟩
      have HO4 := Lib.hid ho4
      clear ho4
      go_wp2_with fail
      go_ret2
      have hlen : (outV s t seen).length = (verdL s t).length := by rw [← hfin.out, sortI_len]
      refine ⟨Ar, cr, by rw [← hlen]; rfl, ?_, ?_⟩
      · rw [← hlen, ← hfin.out]
        exact HO4.out.base (by have := hX2.size; omega)
      · exact Bt.new (hX2.trans' hE) hb4 fun k _ hk => by
          obtain ⟨news, h2, _⟩ := HO.out
          have := (own_row_base h2 k hk).1
          have := hX2.size
          omega
    · have hEX : Ext w2 W3 := Bt.new hE hb3 fun k _ hk => by have hk' : k = w2.heap.size := hk; omega
      have hO3 : ROwn RInt 1 3 wa.heap.size (fun _ => False) W3 (outV s t seen) (.slice Ar (outV s t seen).length cr) := HO.out.keep RInt.good (fun k hk h => hb3.block k hk (by have := h.resolve_left id; omega)) hb3.size
      have HO3 := Lib.hid hO3
      have hc2 := hcon
      have x1 := Ext.keep hEX b1
      have x2 := Ext.keep hEX b2
      have hXW : Ext w W3 := hX2.trans' hEX
      have hcon2 := fun X (hX : Ext W3 X) => hcon X (HS.out.bel (hEX.trans' hX)) (RLbs.good.bel (RLbs.good.mono HTR.out fun _ _ _ => trivial) (hXW.trans' hX)) (RLbs.good.bel (RLbs.good.mono HMU.out fun _ _ _ => trivial) (hXW.trans' hX))
      have hst : outV s t (seen ++ [i]) = if verdB s t ((i : Int) + 1) then outV s t seen ++ [(i : Int) + 1] else outV s t seen := by
        unfold outV
        rw [List.map_append, List.filter_append]
        simp only [List.map_cons, List.map_nil, List.filter_cons, List.filter_nil]
        split <;> simp
      have hr3' := Lib.hid hr3
      have hms : Hid ((([0, 1, 2].filter fun j => decide (j ∉ (seen ++ [i]).toArray.toList)).length < ([0, 1, 2].filter fun j => decide (j ∉ seen.toArray.toList)).length)) :=
        filter_lt_of (fun j => decide (j ∉ (seen ++ [i]).toArray.toList)) (fun j => decide (j ∉ seen.toArray.toList)) (fun x hx => by
          simp at hx ⊢; exact hx.1) [0, 1, 2] i (by simp; omega) (by simp) (by simpa using hns)
      have hsn := Lib.hid (show (seen ++ [i]).Nodup ∧ ∀ x ∈ seen ++ [i], x < 3 from ⟨by
        rw [List.nodup_append]
        exact ⟨hseen.out.1, by simp, by intro x hx y hy; simp at hy; subst hy; exact fun e => hns (e ▸ hx)⟩, fun x hx => by
        rcases List.mem_append.1 hx with h | h
        · exact hseen.out.2.1 x h
        · rw [List.mem_singleton.1 h]; exact hi3'⟩)
      have hI : I64 ((i : Int) + 1) := ⟨by omega, by omega⟩
      have hlo : (outV s t seen).length ≤ 3 := by have := seen_len hseen.out.1 hseen.out.2.1; unfold outV; exact Nat.le_trans (List.length_filter_le _ _) (by simpa using this)
      have hsO := Lib.hid hseen.out.2.2
      clear hc2 hcon hseen hb3 hr3 hO3
      cases hv : verdB s t ((i : Int) + 1) with
      | false =>
        rw [hv] at hcon2 hst
        have hst2 : Hid (outV s t (seen ++ [i]) = outV s t seen) := by show _ = _; rw [hst]; rfl
        clear hst hv
        go_wp2_with fail
        refine (hcon2 _ (by repeat (first | exact Ext.refl _ | apply Ext.alloc | apply Below.drew | apply Ext.drewN | refine Ext.trans' ?_ (by assumption) | refine Ext.trans' ?_ (ExtD.ext (by assumption))))).mono ?_
        rintro e w4 ⟨rfl, h4⟩
        have hz4 := h4.size
        go_wp2_with fail
        go_roundw
        case rel => exact ⟨seen ++ [i], Ar, cr, by rw [hst2.out], by rw [hst2.out]; exact HO3.out.ext RInt.good h4, ⟨hsn.out.1, hsn.out.2, (h4.block _ (by omega)).trans hr3'.out⟩, hEX.trans' h4, by omega⟩
        case measure =>
          rw [(h4.block _ (by omega)).trans hr3'.out, hsO.out]
          exact hms.out
      | true =>
        rw [hv] at hcon2 hst
        have hst2 : Hid (outV s t (seen ++ [i]) = outV s t seen ++ [(i : Int) + 1]) := by show _ = _; rw [hst]; rfl
        clear hst hv
        go_wp2_with fail
        refine (hcon2 _ (by repeat (first | exact Ext.refl _ | apply Ext.alloc | apply Below.drew | apply Ext.drewN | refine Ext.trans' ?_ (by assumption) | refine Ext.trans' ?_ (ExtD.ext (by assumption))))).mono ?_
        rintro e w4 ⟨rfl, h4⟩
        have hz4 := h4.size
        obtain ⟨news4, hrow4, hF4⟩ := HO3.out.ext RInt.good (h4.alloc (.cells #[.int .i64 ((i : Int) + 1)] 3))
        have HF := Lib.hid hF4
        clear hF4
        go_wp2_with (at_builtin; refine wpList_append_own_at _ rfl _ _ 53 rfl wa.heap.size 3 i3 (.int .i64 0) 1 8 Tryz.underlying53 hi3 hz0 hz1 hz2 rfl (by decide) _ _ _ rfl hrow4 ⟨w4.heap.size, 0, none⟩ 1 1 [.int .i64 ((i : Int) + 1)] rfl rfl (cell_one_new _ _ _) (by simp [Value.oneCell']) (by unfold maxLen; omega) (by omega) (by simp; omega) ?_; intro v5 w5 hown5 hgrow5 hnil5 hat5; obtain ⟨g5, c5, rfl⟩ := ownsRow_succ hown5)
        have hp5 := Lib.hid (ROwn.push RInt.good HF.out (Flat.single (⟨rfl, hI⟩ : RInt _ _ ((i : Int) + 1) _) rfl) hown5 hgrow5 hat5)
        have hX5 : Ext w2 w5 := Below.grown ((hEX.trans' h4).alloc _) hgrow5 (by simp; omega) fun q hq => by have := (own_row_base hrow4 q hq).1; omega
        have hr5 : w5.heap[w2.heap.size]? = some (.mapIter (some m) 3 (seen ++ [i]).toArray 3) := (hgrow5.block _ (by simp; omega) (fun e => by have := (own_row_base hrow4 _ e.symm).1; omega)).trans ((Below.heap_alloc _ _ _ (by omega)).trans ((h4.block _ (by omega)).trans hr3'.out))
        have hz5 := hgrow5.size
        have HR5 := Lib.hid hr5
        clear hown5 hgrow5 hat5 hnil5 hrow4 hr5
        go_wp2_with fail
        go_roundw
        case rel => exact ⟨seen ++ [i], some ⟨g5, 0, none⟩, c5, by rw [hst2.out, List.length_append]; rfl, by rw [hst2.out, List.length_append]; exact hp5.out, ⟨hsn.out.1, hsn.out.2, HR5.out⟩, hX5, by simp at hz5; omega⟩
        case measure =>
          rw [HR5.out, hsO.out]
          exact hms.out
end Go.Proofs.YtegenalcheooeaaGreat

