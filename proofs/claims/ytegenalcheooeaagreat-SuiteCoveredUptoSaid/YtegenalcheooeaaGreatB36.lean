/- Of the proof of a law of the suites: VMap, LibITe, Fails. -/
import Derived.Test.YtegenalcheooeaaGreatB03
import Derived.Test.YtegenalcheooeaaGreatB33
/- suite.verdicts: a map of three functions. -/
set_option linter.unusedSectionVars false
set_option linter.unusedSimpArgs false
set_option linter.unusedVariables false
namespace Go.Proofs.YtegenalcheooeaaGreat
open Go.RowKit
attribute [local go_sem] cell?_exto
open Go.Shelf

/-- The map's entries. -/
def VM : Array MapEntry := #[{ key := .int .i64 1, val := .func (.func 168) #[] #[], born := 0 }, { key := .int .i64 2, val := .func (.func 170) #[] #[], born := 1 }, { key := .int .i64 3, val := .func (.func 171) #[] #[], born := 2 }]
theorem run_insert_new {W : World} {m : Nat} {es : Array MapEntry} {clock : Nat} (h : W.heap[m]? = some (.map es clock)) (ks : List Int) (hk : es.toList.map (·.key) = ks.map (Value.int .i64)) (a : Int) (ha : a ∉ ks) (v : Value) :
    (Instr.mapUpdate 136 (.map (some m)) (.int .i64 a) v).run Tryz.prog W = .ok () (W.putObj m (.map (es.push { key := .int .i64 a, val := v, born := clock }) (clock + 1))) := by
  obtain ⟨d, hd, hs, hc⟩ := keyInt.kind
  have hf := find_at hs a es.toList ks 0 hk
  rw [dif_neg ha] at hf
  unfold Instr.mapUpdate Instr.findKey
  simp [run_underlying Tryz.underlying136, run_underlying hd, getObj, setObj, Sem.run, h, hc, hf, World.putObj]

theorem insert_chain (w : World) : ∃ w1 w2 w3 : World, (Instr.mapUpdate 136 (.map (some w.heap.size)) (.int .i64 1) (.func (.func 168) #[] #[])).run Tryz.prog (w.alloc (.map #[] 0)) = .ok () w1 ∧
    (Instr.mapUpdate 136 (.map (some w.heap.size)) (.int .i64 2) (.func (.func 170) #[] #[])).run Tryz.prog w1 = .ok () w2 ∧ (Instr.mapUpdate 136 (.map (some w.heap.size)) (.int .i64 3) (.func (.func 171) #[] #[])).run Tryz.prog w2 = .ok () w3 ∧
    w3.heap[w.heap.size]? = some (.map VM 3) ∧ Ext w w3 := by
  have hput : ∀ (W : World) o, Ext w W → Ext w (W.putObj w.heap.size o) := fun W o h => ⟨h.os, h.tape, h.output, by simpa using h.size, fun k hk => (World.putObj_heap_other (by omega)).trans (h.block k hk)⟩
  have hX0 : Ext w (w.alloc (.map #[] 0)) := (Ext.refl w).alloc _
  have h0 : (w.alloc (.map #[] 0)).heap[w.heap.size]? = some (.map #[] 0) := World.alloc_heap_new w _
  have r1 := run_insert_new h0 [] rfl 1 (by simp) (.func (.func 168) #[] #[])
  refine ⟨_, _, _, r1, run_insert_new (World.putObj_heap_same (by simp)) [1] rfl 2 (by simp) _, run_insert_new (World.putObj_heap_same (by simp)) [1, 2] rfl 3 (by simp) _, (World.putObj_heap_same (by simp)), hput _ _ (hput _ _ (hput _ _ hX0))⟩

set_option maxHeartbeats 1000000 in
set_option maxRecDepth 100000 in
theorem verdicts_c (w : World) : Calls Tryz.prog 103 #[] w fun e w' => ∃ m, e = .returned (.map (some m)) ∧ w'.heap[m]? = some (.map VM 3) ∧ w.heap.size ≤ m ∧ Ext w w' := by
  have hmm := @run_makeMap Tryz.prog
  obtain ⟨w1, w2, w3, r1, r2, r3, h3, hX⟩ := insert_chain w
  go_enter Tryz.func103, Tryz.ntmps103
  go_wp2_with fail
  go_ret
  exact ⟨_, rfl, h3, Nat.le_refl _, hX⟩
end Go.Proofs.YtegenalcheooeaaGreat

/- slices.IndexFunc and ContainsFunc at each element type of the program: what they come to, whatever function value they are given. -/
set_option linter.unusedSectionVars false
set_option linter.unusedSimpArgs false
set_option linter.unusedVariables false
namespace Go.Proofs.YtegenalcheooeaaGreat
open Go.RowKit
attribute [local go_sem] cell?_exto

set_option maxHeartbeats 1000000 in
set_option maxRecDepth 100000 in
/-- slices.IndexFunc at Te: the function may keep a state s, told by J. -/
theorem idxFTe {σ : Type} (J : σ → World → Prop) (step : σ → Te → Bool × σ) (S : Nat → Prop) (w : World) (xs : List (Te)) (v : Value) (hx : RSl RTe 2 S w xs [v]) (g : Nat) (lb : Array Value)
    (eg : ∀ args w, (callFunc g args).run Tryz.prog w = .ok (.enter g args) w) (hJ : ∀ s W, J s W → Kp S w W)
    (hp : ∀ x ∈ xs, ∀ s cs W, J s W → RTe S W x cs → Calls Tryz.prog g (#[.agg cs.toArray] ++ lb) W fun e w' => e = .returned (.bool (step s x).1) ∧ J (step s x).2 w') (s0 : σ) (h0 : J s0 w) :
    Calls Tryz.prog 164 #[v, .func (.func g) #[] lb] w fun e w' => e = .returned (.int .i64 (findS step s0 xs).1) ∧ J (findS step s0 xs).2 w' := by
  obtain ⟨A, c, rfl, hc, hc0⟩ := hx.val
  have HX := Lib.hid hx
  have HP := Lib.hid hp
  have HJ := Lib.hid hJ
  clear hx hp hJ
  go_enter Tryz.func164, Tryz.ntmps164
  go_wp2
  go_loopw [5, 8] (fun _ i wr => ∃ k : Nat, k ≤ xs.length ∧ i = .int .i64 k ∧ Hid (∃ s, J s wr ∧ findS step s0 xs = ((findS step s (xs.drop k)).1 + (if (findS step s (xs.drop k)).1 < 0 then 0 else (k : Int)), (findS step s (xs.drop k)).2))) (fun _ i _ => xs.length - (intOf i).toNat)
  case atStart => exact ⟨0, Nat.zero_le _, rfl, s0, h0, by simp⟩
  case round =>
    obtain ⟨k, hk, rfl, s, hs, hf⟩ := hrel
    by_cases hlt : k < xs.length
    · obtain ⟨b, off, cs, rfl, hb, hS, hl, hr, hcell⟩ := ((RSl.good RTe.good).move HX.out (HJ.out _ _ hs)).get k hlt
      have hcon := HP.out xs[k] (List.getElem_mem hlt) s cs wr hs hr
      obtain ⟨c0, c1, rfl⟩ : ∃ c0 c1, cs = [c0, c1] := by
        match cs, hl with
        | [c0, c1], _ => exact ⟨c0, c1, rfl⟩
      have g0 := (by simpa using hcell.get 0 _ : wr.cell? ⟨b, off + k * 2, none⟩ = some c0)
      have g1 := hcell.get 1 _
      rw [List.drop_eq_getElem_cons hlt, findS] at hf
      clear hcell hl hS hr
      cases hq : (step s xs[k]).1 with
      | true =>
        rw [hq] at hcon hf
        have Hf := Lib.hid hf
        clear hf
        go_wp2_with fail
        refine hcon.mono ?_
        rintro e w' ⟨rfl, hs'⟩
        go_wp2_with fail
        go_ret
        rw [Hf.out]
        exact ⟨by simp, hs'⟩
      | false =>
        rw [hq] at hcon hf
        have Hf := Lib.hid hf
        clear hf
        go_wp2_with fail
        refine hcon.mono ?_
        rintro e w' ⟨rfl, hs'⟩
        go_wp2_with fail
        go_roundw
        case rel =>
          refine ⟨k + 1, by omega, by go_num, _, hs', ?_⟩
          rw [Hf.out]
          exact findS_next _ _
        case measure => simp [intOf]; omega
    · have hd : xs.drop k = [] := List.drop_of_length_le (by omega)
      rw [hd, findS] at hf
      have Hf := Lib.hid hf
      clear hf
      go_wp2
      go_ret
      rw [Hf.out]
      exact ⟨by simp, hs⟩

set_option maxHeartbeats 1000000 in
set_option maxRecDepth 100000 in
/-- slices.ContainsFunc at Te. -/
theorem conFTe {σ : Type} (J : σ → World → Prop) (step : σ → Te → Bool × σ) (S : Nat → Prop) (w : World) (xs : List (Te)) (v : Value) (hx : RSl RTe 2 S w xs [v]) (g : Nat) (lb : Array Value)
    (eg : ∀ args w, (callFunc g args).run Tryz.prog w = .ok (.enter g args) w) (hJ : ∀ s W, J s W → Kp S w W)
    (hp : ∀ x ∈ xs, ∀ s cs W, J s W → RTe S W x cs → Calls Tryz.prog g (#[.agg cs.toArray] ++ lb) W fun e w' => e = .returned (.bool (step s x).1) ∧ J (step s x).2 w') (s0 : σ) (h0 : J s0 w) :
    Calls Tryz.prog 106 #[v, .func (.func g) #[] lb] w fun e w' => e = .returned (.bool (anyS step s0 xs).1) ∧ J (anyS step s0 xs).2 w' := by
  obtain ⟨A, c, rfl, hc, hc0⟩ := hx.val
  have hcon := idxFTe J step S w xs _ hx g lb eg hJ hp s0 h0
  rw [anyS_find]
  clear hx hp hJ
  go_enter Tryz.func106, Tryz.ntmps106
  go_wp2_with fail
  refine hcon.mono ?_
  rintro e w' ⟨rfl, hs'⟩
  go_wp2_with fail
  all_goals go_ret
  all_goals exact ⟨by simp, hs'⟩

/-- The same, where the function tells p and only adds to memory. -/
theorem conPTe (p : Te → Bool) (S : Nat → Prop) (w : World) (xs : List (Te)) (v : Value) (hx : RSl RTe 2 S w xs [v]) (g : Nat) (lb : Array Value)
    (eg : ∀ args w, (callFunc g args).run Tryz.prog w = .ok (.enter g args) w)
    (hp : ∀ x ∈ xs, ∀ cs W, Ext w W → RTe S W x cs → Calls Tryz.prog g (#[.agg cs.toArray] ++ lb) W fun e w' => e = .returned (.bool (p x)) ∧ Ext W w') :
    Calls Tryz.prog 106 #[v, .func (.func g) #[] lb] w fun e w' => e = .returned (.bool (xs.any p)) ∧ Ext w w' :=
  (conFTe (fun (_ : Unit) W => Ext w W) (fun s x => (p x, s)) S w xs v hx g lb eg (fun _ _ h => Ext.kp h) (fun x hx s cs W hW hr => (hp x hx cs W hW hr).mono fun e w' ⟨he, hb⟩ => ⟨he, hW.trans' hb⟩) () (Ext.refl w)).mono
    fun e w' ⟨he, hb⟩ => ⟨by rw [he, anyS_pure], hb⟩
theorem idxPTe (p : Te → Bool) (S : Nat → Prop) (w : World) (xs : List (Te)) (v : Value) (hx : RSl RTe 2 S w xs [v]) (g : Nat) (lb : Array Value)
    (eg : ∀ args w, (callFunc g args).run Tryz.prog w = .ok (.enter g args) w)
    (hp : ∀ x ∈ xs, ∀ cs W, Ext w W → RTe S W x cs → Calls Tryz.prog g (#[.agg cs.toArray] ++ lb) W fun e w' => e = .returned (.bool (p x)) ∧ Ext W w') :
    Calls Tryz.prog 164 #[v, .func (.func g) #[] lb] w fun e w' => e = .returned (.int .i64 (findI p xs)) ∧ Ext w w' :=
  (idxFTe (fun (_ : Unit) W => Ext w W) (fun s x => (p x, s)) S w xs v hx g lb eg (fun _ _ h => Ext.kp h) (fun x hx s cs W hW hr => (hp x hx cs W hW hr).mono fun e w' ⟨he, hb⟩ => ⟨he, hW.trans' hb⟩) () (Ext.refl w)).mono
    fun e w' ⟨he, hb⟩ => ⟨by rw [he, findS_pure], hb⟩
end Go.Proofs.YtegenalcheooeaaGreat

/- suite.fails, Fails: walked. -/
set_option linter.unusedSectionVars false
set_option linter.unusedSimpArgs false
set_option linter.unusedVariables false
namespace Go.Proofs.YtegenalcheooeaaGreat
open Go.RowKit
attribute [local go_sem] cell?_exto
open Go.Shelf

def vmF (n : Int) : Option Value := if n = 1 then some (.func (.func 168) #[] #[]) else if n = 2 then some (.func (.func 170) #[] #[]) else if n = 3 then some (.func (.func 171) #[] #[]) else none
theorem VM.isMap {W : World} {m : Nat} (h : W.heap[m]? = some (.map VM 3)) : IsMap (Value.int .i64) W m vmF :=
  ⟨VM, 3, [1, 2, 3], h, rfl, by decide, fun i hi => by
    match i, hi with
    | 0, _ => rfl
    | 1, _ => rfl
    | 2, _ => rfl, fun a ha => by
    simp only [List.mem_cons, List.not_mem_nil, or_false, not_or] at ha
    rw [vmF, if_neg ha.1, if_neg ha.2.1, if_neg ha.2.2]⟩
theorem infoFn : (Tryz.prog.info? 138).map (·.zero) = some (some .nilFunc) := by kernel_rfl
theorem VM.two {W : World} {m : Nat} (h : W.heap[m]? = some (.map VM 3)) : (Instr.lookup 136 (.map (some m)) (.int .i64 2) false).run Tryz.prog W = .ok (.func (.func 170) #[] #[]) W :=
  (VM.isMap h).lookup (P := Tryz.prog) Tryz.underlying136 keyInt (z := .nilFunc) (by
    obtain ⟨i, hi, hz⟩ := Option.map_eq_some_iff.1 infoFn
    simp [zeroValue, typeInfo, hi, hz]) 2

theorem eg165 : ∀ args w, (callFunc 165 args).run Tryz.prog w = .ok (.enter 165 args) w := enters_of Tryz.func165 (by kernel_rfl) rfl
theorem eg170 : ∀ args w, (callFunc 170 args).run Tryz.prog w = .ok (.enter 170 args) w := enters_of Tryz.func170 (by kernel_rfl) rfl
def NTe (t : Te) : Prop := t.tr.length ≤ 4611686018427387903 ∧ t.mu.length ≤ 4611686018427387903
set_option maxHeartbeats 1000000 in
set_option maxRecDepth 100000 in
theorem fails1_c (S : Nat → Prop) (s : Sy) (hok : okSyP s) (g : Nat) (t : Te) (cs : List Value) (B1 B2 : Nat) (w : World) (hS : IsSys S w g s) (ht : RTe S w t cs) (hn : NTe t)
    (h1 : w.cell? ⟨B1, 0, none⟩ = some (.func (.func 170) #[] #[])) (h2 : w.cell? ⟨B2, 0, none⟩ = some (.pointer (some ⟨g, 0, none⟩))) :
    Calls Tryz.prog 165 #[.agg cs.toArray, .pointer (some ⟨B1, 0, none⟩), .pointer (some ⟨B2, 0, none⟩)] w fun e w' => e = .returned (.bool (failB s t)) ∧ Ext w w' := by
  obtain ⟨v, u, rfl, hv, hu⟩ := ht
  have hcon := fun W (hW : Ext w W) => fail_c S s hok g t v u W (hS.bel hW) (RLbs.good.bel hv hW) (RLbs.good.bel hu hW) hn.1 hn.2
  have eg := eg170
  obtain ⟨A, c, rfl, _, _⟩ := hv.val
  obtain ⟨A', c', rfl, _, _⟩ := hu.val
  have hw1 := World.block_lt_of_cell? w _ h1
  have hw2 := World.block_lt_of_cell? w _ h2
  clear hS hv hu hn
  go_enter Tryz.func165, Tryz.ntmps165
  go_wp2_with fail
  refine (hcon _ (by repeat (first | exact Ext.refl _ | apply Ext.alloc | apply Below.drew | apply Ext.drewN | refine Ext.trans' ?_ (by assumption) | refine Ext.trans' ?_ (ExtD.ext (by assumption))))).mono ?_
  rintro e w1 ⟨rfl, hx1⟩
  go_wp2_with fail
  go_ret
  exact ⟨rfl, (by repeat (first | exact Ext.refl _ | apply Ext.alloc | apply Below.drew | apply Ext.drewN | refine Ext.trans' ?_ (by assumption) | refine Ext.trans' ?_ (ExtD.ext (by assumption))))⟩

set_option maxHeartbeats 1000000 in
set_option maxRecDepth 100000 in
theorem fails_c (S : Nat → Prop) (s : Sy) (hok : okSyP s) (g : Nat) (ts : List Te) (v : Value) (w : World) (hS : IsSys S w g s) (ht : RSl RTe 2 S w ts [v]) (hn : ∀ t ∈ ts, NTe t) :
    Calls Tryz.prog 100 #[.pointer (some ⟨g, 0, none⟩), v] w fun e w' => e = .returned (.int .i64 (findI (failB s) ts)) ∧ Ext w w' := by
  have hvm := verdicts_c
  have hcon := fun B1 B2 W (hW : Ext w W) (h1 : W.cell? ⟨B1, 0, none⟩ = some (.func (.func 170) #[] #[])) (h2 : W.cell? ⟨B2, 0, none⟩ = some (.pointer (some ⟨g, 0, none⟩))) => idxPTe (failB s) S W ts v ((RSl.good RTe.good).bel ht hW) 165 #[.pointer (some ⟨B1, 0, none⟩), .pointer (some ⟨B2, 0, none⟩)] eg165
    (fun x hx cs W' hW' hr => fails1_c S s hok g x cs B1 B2 W' (hS.bel (hW.trans' hW')) hr (hn x hx) (Ext.keep hW' h1) (Ext.keep hW' h2))
  obtain ⟨A, c, rfl, hc, hc0⟩ := ht.val
  clear ht hS hn
  go_enter Tryz.func100, Tryz.ntmps100
  go_wp2_with fail
  refine (hvm _).mono ?_
  rintro e w1 ⟨m, rfl, hm, hm', h1⟩
  have hc1 := h1.cells
  have hz1 := h1.size
  have hz : w.heap.size < w1.heap.size := by simp at hz1; omega
  have hlk := VM.two hm
  have hX1 : Ext w w1 := (by repeat (first | exact Ext.refl _ | apply Ext.alloc | apply Below.drew | apply Ext.drewN | refine Ext.trans' ?_ (by assumption) | refine Ext.trans' ?_ (ExtD.ext (by assumption))))
  clear hm
  go_wp2_with fail
  refine (hcon _ _ _ (by repeat (first | exact Ext.refl _ | apply Ext.alloc | apply Below.drew | apply Ext.drewN | refine Ext.trans' ?_ (by assumption) | refine Ext.trans' ?_ (ExtD.ext (by assumption)))) (by go_simp) (by go_simp)).mono ?_
  rintro e w2 ⟨rfl, h2⟩
  go_wp2_with fail
  go_ret
  exact ⟨rfl, (by repeat (first | exact Ext.refl _ | apply Ext.alloc | apply Below.drew | apply Ext.drewN | refine Ext.trans' ?_ (by assumption) | refine Ext.trans' ?_ (ExtD.ext (by assumption))))⟩

open Classical in
/-- suite.Fails -/
noncomputable def failsI (s : Sy) (ts : List Te) : Int := if askE s ts = 0 then findI (failB s) ts else -1
theorem askE_ok {s : Sy} {ts : List Te} (h : askE s ts = 0) : okSyP s ∧ ts.length ≤ 4000 ∧ ∀ t ∈ ts, isTestB t = true := by
  unfold askE at h
  split at h
  · rename_i hok
    unfold testsE at h
    split at h
    · rename_i hl
      split at h
      · rename_i ha
        exact ⟨hok, hl, List.all_eq_true.1 ha⟩
      · cases h
    · cases h
  · cases h
theorem NTe.of_test {t : Te} (h : isTestB t = true) : NTe t := by
  simp [isTestB, isTraceB, isSetB] at h
  exact ⟨by omega, by omega⟩
theorem findI_lt {α : Type} (p : α → Bool) : ∀ (xs : List α), findI p xs < xs.length ∧ -1 ≤ findI p xs
  | [] => by simp [findI]
  | x :: xs => by
    have h := findI_lt p xs
    rw [findI]
    split
    · simp
    · split <;> simp only [List.length_cons] <;> omega
set_option maxHeartbeats 1000000 in
set_option maxRecDepth 100000 in
theorem Fails_c (S : Nat → Prop) (s : Sy) (cs : List Value) (ts : List Te) (v : Value) (w : World) (hx : RSy S w s cs) (ht : RSl RTe 2 S w ts [v]) :
    Calls Tryz.prog 28 #[v, .agg cs.toArray] w fun e w' => e = .returned (.tuple #[.int .i64 (max (failsI s ts) 0), .bool (decide (0 ≤ failsI s ts)), .int .i64 (askE s ts)]) ∧ Ext w w' := by
  have hak := fun W (hW : Ext w W) => asked_c S s cs ts v W (RSy.good.bel hx hW) ((RSl.good RTe.good).bel ht hW)
  have hfl := fun W g (hg : IsSys (fun _ => True) W g s) (hW : Ext w W) (hok : askE s ts = 0) => fails_c (fun _ => True) s (askE_ok hok).1 g ts v W hg ((RSl.good RTe.good).bel ((RSl.good RTe.good).mono ht fun _ _ _ => trivial) hW) (fun t h => NTe.of_test ((askE_ok hok).2.2 t h))
  obtain ⟨_, vl, ve, rfl, hvl, hve⟩ := id hx
  obtain ⟨Al, cl, rfl, _, _⟩ := hvl.val
  obtain ⟨Ae, ce, rfl, _, _⟩ := hve.val
  obtain ⟨A, c, rfl, hc, hc0⟩ := ht.val
  clear hx ht hvl hve
  by_cases hE : askE s ts = 0
  · have hv : failsI s ts = findI (failB s) ts := if_pos hE
    have hfl2 := fun W g hg hW => hfl W g hg hW hE
    rw [hv, hE]
    rw [hE] at hak
    obtain ⟨i, hi⟩ : ∃ i, findI (failB s) ts = i := ⟨_, rfl⟩
    have hb := findI_lt (failB s) ts
    rw [hi] at hfl2 hb ⊢
    clear hfl hv hE hi
    by_cases h0 : 0 ≤ i
    · have HV := Lib.hid (And.intro (show max i 0 = i from by omega) (show decide (0 ≤ i) = true from by simpa using h0))
      go_enter Tryz.func28, Tryz.ntmps28
      go_wp2_with fail
      refine (hak _ (by repeat (first | exact Ext.refl _ | apply Ext.alloc | apply Below.drew | apply Ext.drewN | refine Ext.trans' ?_ (by assumption) | refine Ext.trans' ?_ (ExtD.ext (by assumption))))).mono ?_
      rintro e w1 ⟨h1, _⟩
      obtain ⟨g, rfl, hx1, hg, hS⟩ := h1 rfl
      have hX1 : Ext w w1 := (by repeat (first | exact Ext.refl _ | apply Ext.alloc | apply Below.drew | apply Ext.drewN | refine Ext.trans' ?_ (by assumption) | refine Ext.trans' ?_ (ExtD.ext (by assumption))))
      clear h1 hx1
      go_wp2_with fail
      refine (hfl2 _ g (hS.mono fun _ _ _ => trivial) (by repeat (first | exact Ext.refl _ | apply Ext.alloc | apply Below.drew | apply Ext.drewN | refine Ext.trans' ?_ (by assumption) | refine Ext.trans' ?_ (ExtD.ext (by assumption))))).mono ?_
      rintro e w2 ⟨rfl, h2⟩
      go_wp2_with fail
      go_ret3
      exact ⟨by rw [HV.out.1, HV.out.2]; rfl, hX1.trans' h2⟩
    · have HV := Lib.hid (And.intro (show max i 0 = 0 from by omega) (show decide (0 ≤ i) = false from by simpa using h0))
      go_enter Tryz.func28, Tryz.ntmps28
      go_wp2_with fail
      refine (hak _ (by repeat (first | exact Ext.refl _ | apply Ext.alloc | apply Below.drew | apply Ext.drewN | refine Ext.trans' ?_ (by assumption) | refine Ext.trans' ?_ (ExtD.ext (by assumption))))).mono ?_
      rintro e w1 ⟨h1, _⟩
      obtain ⟨g, rfl, hx1, hg, hS⟩ := h1 rfl
      have hX1 : Ext w w1 := (by repeat (first | exact Ext.refl _ | apply Ext.alloc | apply Below.drew | apply Ext.drewN | refine Ext.trans' ?_ (by assumption) | refine Ext.trans' ?_ (ExtD.ext (by assumption))))
      clear h1 hx1
      go_wp2_with fail
      refine (hfl2 _ g (hS.mono fun _ _ _ => trivial) (by repeat (first | exact Ext.refl _ | apply Ext.alloc | apply Below.drew | apply Ext.drewN | refine Ext.trans' ?_ (by assumption) | refine Ext.trans' ?_ (ExtD.ext (by assumption))))).mono ?_
      rintro e w2 ⟨rfl, h2⟩
      go_wp2_with fail
      go_ret3
      exact ⟨by rw [HV.out.1, HV.out.2]; rfl, hX1.trans' h2⟩
  · have hv : failsI s ts = -1 := if_neg hE
    rw [hv]
    obtain ⟨er, her⟩ : ∃ er, askE s ts = er := ⟨_, rfl⟩
    rw [her] at hak hE ⊢
    have hE' : (er == 0) = false := beq_eq_false_iff_ne.2 hE
    clear hfl her hv
    go_enter Tryz.func28, Tryz.ntmps28
    go_wp2_with fail
    refine (hak _ (by repeat (first | exact Ext.refl _ | apply Ext.alloc | apply Below.drew | apply Ext.drewN | refine Ext.trans' ?_ (by assumption) | refine Ext.trans' ?_ (ExtD.ext (by assumption))))).mono ?_
    rintro e w1 ⟨_, h1⟩
    obtain ⟨rfl, hx1⟩ := h1 hE
    have hX1 : Ext w w1 := (by repeat (first | exact Ext.refl _ | apply Ext.alloc | apply Below.drew | apply Ext.drewN | refine Ext.trans' ?_ (by assumption) | refine Ext.trans' ?_ (ExtD.ext (by assumption))))
    clear h1 hx1
    go_wp2_with fail
    go_ret3
    exact ⟨by rfl, hX1⟩
end Go.Proofs.YtegenalcheooeaaGreat

