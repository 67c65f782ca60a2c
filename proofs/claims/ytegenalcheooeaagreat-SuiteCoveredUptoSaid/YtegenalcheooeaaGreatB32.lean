/- Of the proof of a law of the suites: LibIInt, Ref. -/
import Derived.Test.YtegenalcheooeaaGreatB03
import Derived.Test.YtegenalcheooeaaGreatB20
import Derived.Test.YtegenalcheooeaaGreatB27
/- slices.IndexFunc and ContainsFunc at each element type of the program: what they come to, whatever function value they are given. -/
set_option linter.unusedSectionVars false
set_option linter.unusedSimpArgs false
set_option linter.unusedVariables false
namespace Go.Proofs.YtegenalcheooeaaGreat
open Go.RowKit
attribute [local go_sem] cell?_exto

set_option maxHeartbeats 1000000 in
set_option maxRecDepth 100000 in
/-- slices.IndexFunc at Int: the function may keep a state s, told by J. -/
theorem idxFInt {σ : Type} (J : σ → World → Prop) (step : σ → Int → Bool × σ) (S : Nat → Prop) (w : World) (xs : List (Int)) (v : Value) (hx : RSl RInt 1 S w xs [v]) (g : Nat) (lb : Array Value)
    (eg : ∀ args w, (callFunc g args).run Tryz.prog w = .ok (.enter g args) w) (hJ : ∀ s W, J s W → Kp S w W)
    (hp : ∀ x ∈ xs, ∀ s cs W, J s W → RInt S W x cs → Calls Tryz.prog g (#[cs.headD undef] ++ lb) W fun e w' => e = .returned (.bool (step s x).1) ∧ J (step s x).2 w') (s0 : σ) (h0 : J s0 w) :
    Calls Tryz.prog 114 #[v, .func (.func g) #[] lb] w fun e w' => e = .returned (.int .i64 (findS step s0 xs).1) ∧ J (findS step s0 xs).2 w' := by
  obtain ⟨A, c, rfl, hc, hc0⟩ := hx.val
  have HX := Lib.hid hx
  have HP := Lib.hid hp
  have HJ := Lib.hid hJ
  clear hx hp hJ
  go_enter Tryz.func114, Tryz.ntmps114
  go_wp2
  go_loopw [5, 8] (fun _ i wr => ∃ k : Nat, k ≤ xs.length ∧ i = .int .i64 k ∧ Hid (∃ s, J s wr ∧ findS step s0 xs = ((findS step s (xs.drop k)).1 + (if (findS step s (xs.drop k)).1 < 0 then 0 else (k : Int)), (findS step s (xs.drop k)).2))) (fun _ i _ => xs.length - (intOf i).toNat)
  case atStart => exact ⟨0, Nat.zero_le _, rfl, s0, h0, by simp⟩
  case round =>
    obtain ⟨k, hk, rfl, s, hs, hf⟩ := hrel
    by_cases hlt : k < xs.length
    · obtain ⟨b, off, cs, rfl, hb, hS, hl, hr, hcell⟩ := ((RSl.good RInt.good).move HX.out (HJ.out _ _ hs)).get k hlt
      have hcon := HP.out xs[k] (List.getElem_mem hlt) s cs wr hs hr
      obtain ⟨c0, rfl⟩ : ∃ c0, cs = [c0] := by
        match cs, hl with
        | [c0], _ => exact ⟨c0, rfl⟩
      have g0 := (by simpa using hcell.get 0 _ : wr.cell? ⟨b, off + k, none⟩ = some c0)
      rw [List.drop_eq_getElem_cons hlt, findS] at hf
      clear hcell hl hS hr
      cases hq : (step s xs[k]).1 with
      | true =>
        rw [hq] at hcon hf
        have Hf := Lib.hid hf
        clear hf
        go_wp2_with fail
        refine hcon.mono ?_
        rintro e w' ⟨rfl, hs'⟩
        go_wp2_with fail
        go_ret
        rw [Hf.out]
        exact ⟨by simp, hs'⟩
      | false =>
        rw [hq] at hcon hf
        have Hf := Lib.hid hf
        clear hf
        go_wp2_with fail
        refine hcon.mono ?_
        rintro e w' ⟨rfl, hs'⟩
        go_wp2_with fail
        go_roundw
        case rel =>
          refine ⟨k + 1, by omega, by go_num, _, hs', ?_⟩
          rw [Hf.out]
          exact findS_next _ _
        case measure => simp [intOf]; omega
    · have hd : xs.drop k = [] := List.drop_of_length_le (by omega)
      rw [hd, findS] at hf
      have Hf := Lib.hid hf
      clear hf
      go_wp2
      go_ret
      rw [Hf.out]
      exact ⟨by simp, hs⟩

set_option maxHeartbeats 1000000 in
set_option maxRecDepth 100000 in
/-- slices.ContainsFunc at Int. -/
theorem conFInt {σ : Type} (J : σ → World → Prop) (step : σ → Int → Bool × σ) (S : Nat → Prop) (w : World) (xs : List (Int)) (v : Value) (hx : RSl RInt 1 S w xs [v]) (g : Nat) (lb : Array Value)
    (eg : ∀ args w, (callFunc g args).run Tryz.prog w = .ok (.enter g args) w) (hJ : ∀ s W, J s W → Kp S w W)
    (hp : ∀ x ∈ xs, ∀ s cs W, J s W → RInt S W x cs → Calls Tryz.prog g (#[cs.headD undef] ++ lb) W fun e w' => e = .returned (.bool (step s x).1) ∧ J (step s x).2 w') (s0 : σ) (h0 : J s0 w) :
    Calls Tryz.prog 50 #[v, .func (.func g) #[] lb] w fun e w' => e = .returned (.bool (anyS step s0 xs).1) ∧ J (anyS step s0 xs).2 w' := by
  obtain ⟨A, c, rfl, hc, hc0⟩ := hx.val
  have hcon := idxFInt J step S w xs _ hx g lb eg hJ hp s0 h0
  rw [anyS_find]
  clear hx hp hJ
  go_enter Tryz.func50, Tryz.ntmps50
  go_wp2_with fail
  refine hcon.mono ?_
  rintro e w' ⟨rfl, hs'⟩
  go_wp2_with fail
  all_goals go_ret
  all_goals exact ⟨by simp, hs'⟩

/-- The same, where the function tells p and only adds to memory. -/
theorem conPInt (p : Int → Bool) (S : Nat → Prop) (w : World) (xs : List (Int)) (v : Value) (hx : RSl RInt 1 S w xs [v]) (g : Nat) (lb : Array Value)
    (eg : ∀ args w, (callFunc g args).run Tryz.prog w = .ok (.enter g args) w)
    (hp : ∀ x ∈ xs, ∀ cs W, Ext w W → RInt S W x cs → Calls Tryz.prog g (#[cs.headD undef] ++ lb) W fun e w' => e = .returned (.bool (p x)) ∧ Ext W w') :
    Calls Tryz.prog 50 #[v, .func (.func g) #[] lb] w fun e w' => e = .returned (.bool (xs.any p)) ∧ Ext w w' :=
  (conFInt (fun (_ : Unit) W => Ext w W) (fun s x => (p x, s)) S w xs v hx g lb eg (fun _ _ h => Ext.kp h) (fun x hx s cs W hW hr => (hp x hx cs W hW hr).mono fun e w' ⟨he, hb⟩ => ⟨he, hW.trans' hb⟩) () (Ext.refl w)).mono
    fun e w' ⟨he, hb⟩ => ⟨by rw [he, anyS_pure], hb⟩
theorem idxPInt (p : Int → Bool) (S : Nat → Prop) (w : World) (xs : List (Int)) (v : Value) (hx : RSl RInt 1 S w xs [v]) (g : Nat) (lb : Array Value)
    (eg : ∀ args w, (callFunc g args).run Tryz.prog w = .ok (.enter g args) w)
    (hp : ∀ x ∈ xs, ∀ cs W, Ext w W → RInt S W x cs → Calls Tryz.prog g (#[cs.headD undef] ++ lb) W fun e w' => e = .returned (.bool (p x)) ∧ Ext W w') :
    Calls Tryz.prog 114 #[v, .func (.func g) #[] lb] w fun e w' => e = .returned (.int .i64 (findI p xs)) ∧ Ext w w' :=
  (idxFInt (fun (_ : Unit) W => Ext w W) (fun s x => (p x, s)) S w xs v hx g lb eg (fun _ _ h => Ext.kp h) (fun x hx s cs W hW hr => (hp x hx cs W hW hr).mono fun e w' ⟨he, hb⟩ => ⟨he, hW.trans' hb⟩) () (Ext.refl w)).mono
    fun e w' ⟨he, hb⟩ => ⟨by rw [he, findS_pure], hb⟩
end Go.Proofs.YtegenalcheooeaaGreat

/- suite.refuses, After, Refuses: walked. -/
set_option linter.unusedSectionVars false
set_option linter.unusedSimpArgs false
set_option linter.unusedVariables false
namespace Go.Proofs.YtegenalcheooeaaGreat
open Go.RowKit
attribute [local go_sem] cell?_exto

/-- suite.refuses: some state refuses all of l. -/
def refB (s : Sy) (sts : List Int) (l : List Lb) : Bool := sts.any fun t => !comB (accL s t) l
theorem eg167 : ∀ args w, (callFunc 167 args).run Tryz.prog w = .ok (.enter 167 args) w := enters_of Tryz.func167 (by kernel_rfl) rfl
set_option maxHeartbeats 1000000 in
set_option maxRecDepth 100000 in
theorem refuses1_c (S : Nat → Prop) (s : Sy) (hok : okSyP s) (g : Nat) (t : Int) (l : List Lb) (v : Value) (B1 B2 : Nat) (w : World) (ht : I64 t) (hS : IsSys S w g s) (hl : RLbs S w l [v]) (hn : l.length ≤ 4611686018427387903)
    (h1 : w.cell? ⟨B1, 0, none⟩ = some (.pointer (some ⟨g, 0, none⟩))) (h2 : w.cell? ⟨B2, 0, none⟩ = some v) :
    Calls Tryz.prog 167 #[.int .i64 t, .pointer (some ⟨B1, 0, none⟩), .pointer (some ⟨B2, 0, none⟩)] w fun e w' => e = .returned (.bool (!comB (accL s t) l)) ∧ Ext w w' := by
  have hacc := fun W (hW : Ext w W) => accepts_c S s hok g t W ht (hS.bel hW)
  have hcom := fun W (hW : Ext w W) u (hu : RLbs (fun _ => True) W (accL s t) [u]) => common_c (fun _ => True) (accL s t) l u v W hu (RLbs.good.bel (RLbs.good.mono hl fun _ _ _ => trivial) hW) hn
  obtain ⟨A, c, rfl, _, _⟩ := hl.val
  have hw1 := World.block_lt_of_cell? w _ h1
  have hw2 := World.block_lt_of_cell? w _ h2
  clear hS hl
  go_enter Tryz.func167, Tryz.ntmps167
  go_wp2_with fail
  go_region_held3 (fun W => W.cell? ⟨B1, 0, none⟩ = some (.pointer (some ⟨g, 0, none⟩)) ∧ W.cell? ⟨B2, 0, none⟩ = some (.slice A l.length c))
    (first | (refine ⟨?_, ?_⟩ <;> go_simp <;> done) | exact Ext.k2 hx1 (by assumption) | exact Ext.k2 hx2 (by assumption))
    (first | (go_at_call 141; refine (hacc _ (by repeat (first | exact Ext.refl _ | apply Ext.alloc | apply Below.drew | apply Ext.drewN | refine Ext.trans' ?_ (by assumption) | refine Ext.trans' ?_ (ExtD.ext (by assumption))))).mono ?_; rintro e w1 ⟨A1, c1, rfl, ho1, hx1⟩) | (go_at_call 146; refine (hcom _ (by repeat (first | exact Ext.refl _ | apply Ext.alloc | apply Below.drew | apply Ext.drewN | refine Ext.trans' ?_ (by assumption) | refine Ext.trans' ?_ (ExtD.ext (by assumption)))) _ (RLbs.good.bel (RLbs.good.mono (ho1.sl RLb.good (by decide)) fun _ _ _ => trivial) (by repeat (first | exact Ext.refl _ | apply Ext.alloc | apply Below.drew | apply Ext.drewN | refine Ext.trans' ?_ (by assumption) | refine Ext.trans' ?_ (ExtD.ext (by assumption)))))).mono ?_; rintro e w2 ⟨rfl, hx2⟩))
  go_wp2_with fail
  go_ret
  exact ⟨rfl, (by repeat (first | exact Ext.refl _ | apply Ext.alloc | apply Below.drew | apply Ext.drewN | refine Ext.trans' ?_ (by assumption) | refine Ext.trans' ?_ (ExtD.ext (by assumption))))⟩

set_option maxHeartbeats 1000000 in
set_option maxRecDepth 100000 in
theorem refuses_c (S : Nat → Prop) (s : Sy) (hok : okSyP s) (g : Nat) (sts : List Int) (l : List Lb) (vs v : Value) (w : World) (hS : IsSys S w g s) (hs : RSl RInt 1 S w sts [vs]) (hl : RLbs S w l [v]) (hn : l.length ≤ 4611686018427387903) :
    Calls Tryz.prog 102 #[.pointer (some ⟨g, 0, none⟩), vs, v] w fun e w' => e = .returned (.bool (refB s sts l)) ∧ Ext w w' := by
  have hcon := fun B1 B2 W (hW : Ext w W) (h1 : W.cell? ⟨B1, 0, none⟩ = some (.pointer (some ⟨g, 0, none⟩))) (h2 : W.cell? ⟨B2, 0, none⟩ = some v) => conPInt (fun t => !comB (accL s t) l) S W sts vs ((RSl.good RInt.good).bel hs hW) 167 #[.pointer (some ⟨B1, 0, none⟩), .pointer (some ⟨B2, 0, none⟩)] eg167
    (fun x hx cs W' hW' hr => by
      obtain ⟨rfl, hi⟩ := hr
      exact refuses1_c S s hok g x l v B1 B2 W' hi (hS.bel (hW.trans' hW')) (RLbs.good.bel hl (hW.trans' hW')) hn (Ext.keep hW' h1) (Ext.keep hW' h2))
  obtain ⟨A, c, rfl, hc, hc0⟩ := hs.val
  obtain ⟨A', c', rfl, hc', hc0'⟩ := hl.val
  clear hs hl hS
  go_enter Tryz.func102, Tryz.ntmps102
  go_wp2_with fail
  refine (hcon _ _ _ (by repeat (first | exact Ext.refl _ | apply Ext.alloc | apply Below.drew | apply Ext.drewN | refine Ext.trans' ?_ (by assumption) | refine Ext.trans' ?_ (ExtD.ext (by assumption)))) (by go_simp) (by go_simp)).mono ?_
  rintro e w1 ⟨rfl, h1⟩
  go_wp2_with fail
  go_ret
  exact ⟨rfl, (by repeat (first | exact Ext.refl _ | apply Ext.alloc | apply Below.drew | apply Ext.drewN | refine Ext.trans' ?_ (by assumption) | refine Ext.trans' ?_ (ExtD.ext (by assumption))))⟩

open Classical in
/-- suite.After -/
noncomputable def afterE (s : Sy) (tr : List Lb) : Int := if okSyP s then (if isTraceB tr then 0 else 1) else 8
open Classical in
noncomputable def afterR (s : Sy) (tr : List Lb) : List Int := if okSyP s ∧ isTraceB tr = true then afterL s tr else []
set_option maxHeartbeats 1000000 in
set_option maxRecDepth 100000 in
theorem After_c (S : Nat → Prop) (s : Sy) (cs : List Value) (tr : List Lb) (v : Value) (w : World) (hx : RSy S w s cs) (ht : RLbs S w tr [v]) :
    Calls Tryz.prog 40 #[.agg cs.toArray, v] w fun e w' => ∃ A c, e = .returned (.tuple #[.slice A (afterR s tr).length c, .int .i64 (afterE s tr)]) ∧ ROwn RInt 1 3 w.heap.size (fun _ => False) w' (afterR s tr) (.slice A (afterR s tr).length c) ∧ Ext w w' := by
  have htc := fun W (hW : Ext w W) => isTrace_c S tr v W (RLbs.good.bel ht hW)
  obtain ⟨_, vl, ve, rfl, hvl, hve⟩ := id hx
  obtain ⟨Al, cl, rfl, _, _⟩ := hvl.val
  obtain ⟨Ae, ce, rfl, _, _⟩ := hve.val
  obtain ⟨A, c, rfl, hc, hc0⟩ := ht.val
  have HX := Lib.hid hx
  have HT := Lib.hid ht
  clear hx ht hvl hve
  by_cases hok : okSyP s
  case neg =>
    have hcon := fun W (hW : Ext w W) => newSystem_no S s _ W (RSy.good.bel HX.out hW) hok
    have HV := Lib.hid (And.intro (show afterE s tr = 8 from if_neg hok) (show afterR s tr = [] from if_neg fun h => hok h.1))
    go_enter Tryz.func40, Tryz.ntmps40
    go_wp2_with fail
    refine (hcon _ (by repeat (first | exact Ext.refl _ | apply Ext.alloc | apply Below.drew | apply Ext.drewN | refine Ext.trans' ?_ (by assumption) | refine Ext.trans' ?_ (ExtD.ext (by assumption))))).mono ?_
    rintro e w1 ⟨rfl, h1⟩
    go_wp2_with fail
    go_ret2
    rw [HV.out.1, HV.out.2]
    exact ⟨none, 0, rfl, ROwn.nil .., (by repeat (first | exact Ext.refl _ | apply Ext.alloc | apply Below.drew | apply Ext.drewN | refine Ext.trans' ?_ (by assumption) | refine Ext.trans' ?_ (ExtD.ext (by assumption))))⟩
  have hcon := fun W (hW : Ext w W) => newSystem_ok S s _ W (RSy.good.bel HX.out hW) hok
  by_cases htr : isTraceB tr = true
  case neg =>
    rw [eq_false_of_ne_true htr] at htc
    have HV := Lib.hid (And.intro (show afterE s tr = 1 from by rw [afterE, if_pos hok, if_neg htr]) (show afterR s tr = [] from if_neg fun h => htr h.2))
    go_enter Tryz.func40, Tryz.ntmps40
    go_wp2_with fail
    refine (hcon _ (by repeat (first | exact Ext.refl _ | apply Ext.alloc | apply Below.drew | apply Ext.drewN | refine Ext.trans' ?_ (by assumption) | refine Ext.trans' ?_ (ExtD.ext (by assumption))))).mono ?_
    rintro e w1 ⟨g, rfl, h1, hg, hS⟩
    go_wp2_with fail
    refine (htc _ (by repeat (first | exact Ext.refl _ | apply Ext.alloc | apply Below.drew | apply Ext.drewN | refine Ext.trans' ?_ (by assumption) | refine Ext.trans' ?_ (ExtD.ext (by assumption))))).mono ?_
    rintro e w2 ⟨rfl, h2⟩
    go_wp2_with fail
    go_ret2
    rw [HV.out.1, HV.out.2]
    exact ⟨none, 0, rfl, ROwn.nil .., (by repeat (first | exact Ext.refl _ | apply Ext.alloc | apply Below.drew | apply Ext.drewN | refine Ext.trans' ?_ (by assumption) | refine Ext.trans' ?_ (ExtD.ext (by assumption))))⟩
  rw [htr] at htc
  have HV := Lib.hid (And.intro (show afterE s tr = 0 from by rw [afterE, if_pos hok, if_pos htr]) (show afterR s tr = afterL s tr from if_pos ⟨hok, htr⟩))
  have hlen : tr.length ≤ 4611686018427387903 := by simp [isTraceB] at htr; omega
  have hac := fun W g (hg : IsSys (fun _ => True) W g s) (hW : Ext w W) => after_c (fun _ => True) s hok g tr _ W hg (RLbs.good.bel (RLbs.good.mono HT.out fun _ _ _ => trivial) hW) hlen
  clear hlen htr
  go_enter Tryz.func40, Tryz.ntmps40
  go_wp2_with fail
  refine (hcon _ (by repeat (first | exact Ext.refl _ | apply Ext.alloc | apply Below.drew | apply Ext.drewN | refine Ext.trans' ?_ (by assumption) | refine Ext.trans' ?_ (ExtD.ext (by assumption))))).mono ?_
  rintro e w1 ⟨g, rfl, h1, hg, hS⟩
  have HS := Lib.hid hS
  clear hS
  go_wp2_with fail
  refine (htc _ (by repeat (first | exact Ext.refl _ | apply Ext.alloc | apply Below.drew | apply Ext.drewN | refine Ext.trans' ?_ (by assumption) | refine Ext.trans' ?_ (ExtD.ext (by assumption))))).mono ?_
  rintro e w2 ⟨rfl, h2⟩
  go_wp2_with fail
  refine (hac _ g ((HS.out.mono fun _ _ _ => trivial).bel (by repeat (first | exact Ext.refl _ | apply Ext.alloc | apply Below.drew | apply Ext.drewN | refine Ext.trans' ?_ (by assumption) | refine Ext.trans' ?_ (ExtD.ext (by assumption))))) (by repeat (first | exact Ext.refl _ | apply Ext.alloc | apply Below.drew | apply Ext.drewN | refine Ext.trans' ?_ (by assumption) | refine Ext.trans' ?_ (ExtD.ext (by assumption))))).mono ?_
  rintro e w3 h3
  obtain ⟨A3, c3, rfl, ho3, hx3⟩ := h3.at (b' := w.heap.size) (by have := h1.size; have := h2.size; simp at *; omega)
  have HO := Lib.hid ho3
  clear ho3 h3
  go_wp2_with fail
  go_ret2
  rw [HV.out.1, HV.out.2]
  exact ⟨A3, c3, rfl, HO.out, (by repeat (first | exact Ext.refl _ | apply Ext.alloc | apply Below.drew | apply Ext.drewN | refine Ext.trans' ?_ (by assumption) | refine Ext.trans' ?_ (ExtD.ext (by assumption))))⟩

open Classical in
/-- suite.Refuses -/
noncomputable def refusesE (s : Sy) (tr l : List Lb) : Int := if okSyP s then (if isTraceB tr && isSetB l then 0 else 1) else 8
open Classical in
noncomputable def refusesR (s : Sy) (tr l : List Lb) : Bool := if okSyP s ∧ (isTraceB tr && isSetB l) = true then refB s (afterL s tr) l else false
set_option maxHeartbeats 1000000 in
set_option maxRecDepth 100000 in
theorem Refuses_c (S : Nat → Prop) (s : Sy) (cs : List Value) (tr l : List Lb) (v u : Value) (w : World) (hx : RSy S w s cs) (ht : RLbs S w tr [v]) (hl : RLbs S w l [u]) :
    Calls Tryz.prog 30 #[.agg cs.toArray, v, u] w fun e w' => e = .returned (.tuple #[.bool (refusesR s tr l), .int .i64 (refusesE s tr l)]) ∧ Ext w w' := by
  have htc := fun W (hW : Ext w W) => isTrace_c S tr v W (RLbs.good.bel ht hW)
  have hsc := fun W (hW : Ext w W) => isSet_c S l u W (RLbs.good.bel hl hW)
  obtain ⟨_, vl, ve, rfl, hvl, hve⟩ := id hx
  obtain ⟨Al, cl, rfl, _, _⟩ := hvl.val
  obtain ⟨Ae, ce, rfl, _, _⟩ := hve.val
  obtain ⟨A, c, rfl, hc, hc0⟩ := ht.val
  obtain ⟨A', c', rfl, hc', hc0'⟩ := hl.val
  have HX := Lib.hid hx
  have HT := Lib.hid ht
  have HL := Lib.hid hl
  clear hx ht hl hvl hve
  by_cases hok : okSyP s
  case neg =>
    have hcon := fun W (hW : Ext w W) => newSystem_no S s _ W (RSy.good.bel HX.out hW) hok
    have HV := Lib.hid (And.intro (show refusesE s tr l = 8 from if_neg hok) (show refusesR s tr l = false from if_neg fun h => hok h.1))
    go_enter Tryz.func30, Tryz.ntmps30
    go_wp2_with fail
    refine (hcon _ (by repeat (first | exact Ext.refl _ | apply Ext.alloc | apply Below.drew | apply Ext.drewN | refine Ext.trans' ?_ (by assumption) | refine Ext.trans' ?_ (ExtD.ext (by assumption))))).mono ?_
    rintro e w1 ⟨rfl, h1⟩
    go_wp2_with fail
    go_ret2
    rw [HV.out.1, HV.out.2]
    exact ⟨rfl, (by repeat (first | exact Ext.refl _ | apply Ext.alloc | apply Below.drew | apply Ext.drewN | refine Ext.trans' ?_ (by assumption) | refine Ext.trans' ?_ (ExtD.ext (by assumption))))⟩
  have hcon := fun W (hW : Ext w W) => newSystem_ok S s _ W (RSy.good.bel HX.out hW) hok
  by_cases htr : isTraceB tr = true
  case neg =>
    rw [eq_false_of_ne_true htr] at htc
    have HV := Lib.hid (And.intro (show refusesE s tr l = 1 from by rw [refusesE, if_pos hok, eq_false_of_ne_true htr]; rfl) (show refusesR s tr l = false from if_neg fun h => htr (by have := h.2; simp at this; exact this.1)))
    go_enter Tryz.func30, Tryz.ntmps30
    go_wp2_with fail
    refine (hcon _ (by repeat (first | exact Ext.refl _ | apply Ext.alloc | apply Below.drew | apply Ext.drewN | refine Ext.trans' ?_ (by assumption) | refine Ext.trans' ?_ (ExtD.ext (by assumption))))).mono ?_
    rintro e w1 ⟨g, rfl, h1, hg, hS⟩
    go_wp2_with fail
    refine (htc _ (by repeat (first | exact Ext.refl _ | apply Ext.alloc | apply Below.drew | apply Ext.drewN | refine Ext.trans' ?_ (by assumption) | refine Ext.trans' ?_ (ExtD.ext (by assumption))))).mono ?_
    rintro e w2 ⟨rfl, h2⟩
    go_wp2_with fail
    go_ret2
    rw [HV.out.1, HV.out.2]
    exact ⟨rfl, (by repeat (first | exact Ext.refl _ | apply Ext.alloc | apply Below.drew | apply Ext.drewN | refine Ext.trans' ?_ (by assumption) | refine Ext.trans' ?_ (ExtD.ext (by assumption))))⟩
  rw [htr] at htc
  by_cases hls : isSetB l = true
  case neg =>
    rw [eq_false_of_ne_true hls] at hsc
    have HV := Lib.hid (And.intro (show refusesE s tr l = 1 from by rw [refusesE, if_pos hok, htr, eq_false_of_ne_true hls]; rfl) (show refusesR s tr l = false from if_neg fun h => hls (by have := h.2; simp at this; exact this.2)))
    go_enter Tryz.func30, Tryz.ntmps30
    go_wp2_with fail
    refine (hcon _ (by repeat (first | exact Ext.refl _ | apply Ext.alloc | apply Below.drew | apply Ext.drewN | refine Ext.trans' ?_ (by assumption) | refine Ext.trans' ?_ (ExtD.ext (by assumption))))).mono ?_
    rintro e w1 ⟨g, rfl, h1, hg, hS⟩
    go_wp2_with fail
    refine (htc _ (by repeat (first | exact Ext.refl _ | apply Ext.alloc | apply Below.drew | apply Ext.drewN | refine Ext.trans' ?_ (by assumption) | refine Ext.trans' ?_ (ExtD.ext (by assumption))))).mono ?_
    rintro e w2 ⟨rfl, h2⟩
    go_wp2_with fail
    refine (hsc _ (by repeat (first | exact Ext.refl _ | apply Ext.alloc | apply Below.drew | apply Ext.drewN | refine Ext.trans' ?_ (by assumption) | refine Ext.trans' ?_ (ExtD.ext (by assumption))))).mono ?_
    rintro e w3 ⟨rfl, h3⟩
    go_wp2_with fail
    go_ret2
    rw [HV.out.1, HV.out.2]
    exact ⟨rfl, (by repeat (first | exact Ext.refl _ | apply Ext.alloc | apply Below.drew | apply Ext.drewN | refine Ext.trans' ?_ (by assumption) | refine Ext.trans' ?_ (ExtD.ext (by assumption))))⟩
  rw [hls] at hsc
  have HV := Lib.hid (And.intro (show refusesE s tr l = 0 from by rw [refusesE, if_pos hok, htr, hls]; rfl) (show refusesR s tr l = refB s (afterL s tr) l from if_pos ⟨hok, by simp [htr, hls]⟩))
  have hlen : tr.length ≤ 4611686018427387903 := by simp [isTraceB] at htr; omega
  have hlen2 : l.length ≤ 4611686018427387903 := by simp [isSetB] at hls; omega
  have hac := fun W g (hg : IsSys (fun _ => True) W g s) (hW : Ext w W) => after_c (fun _ => True) s hok g tr _ W hg (RLbs.good.bel (RLbs.good.mono HT.out fun _ _ _ => trivial) hW) hlen
  have hrc := fun W g vs (hg : IsSys (fun _ => True) W g s) (hv : RSl RInt 1 (fun _ => True) W (afterL s tr) [vs]) (hW : Ext w W) => refuses_c (fun _ => True) s hok g (afterL s tr) l vs _ W hg hv (RLbs.good.bel (RLbs.good.mono HL.out fun _ _ _ => trivial) hW) hlen2
  clear hlen hlen2 htr hls
  go_enter Tryz.func30, Tryz.ntmps30
  go_wp2_with fail
  refine (hcon _ (by repeat (first | exact Ext.refl _ | apply Ext.alloc | apply Below.drew | apply Ext.drewN | refine Ext.trans' ?_ (by assumption) | refine Ext.trans' ?_ (ExtD.ext (by assumption))))).mono ?_
  rintro e w1 ⟨g, rfl, h1, hg, hS⟩
  have HS := Lib.hid hS
  clear hS
  go_wp2_with fail
  refine (htc _ (by repeat (first | exact Ext.refl _ | apply Ext.alloc | apply Below.drew | apply Ext.drewN | refine Ext.trans' ?_ (by assumption) | refine Ext.trans' ?_ (ExtD.ext (by assumption))))).mono ?_
  rintro e w2 ⟨rfl, h2⟩
  go_wp2_with fail
  refine (hsc _ (by repeat (first | exact Ext.refl _ | apply Ext.alloc | apply Below.drew | apply Ext.drewN | refine Ext.trans' ?_ (by assumption) | refine Ext.trans' ?_ (ExtD.ext (by assumption))))).mono ?_
  rintro e w3 ⟨rfl, h3⟩
  go_wp2_with fail
  refine (hac _ g ((HS.out.mono fun _ _ _ => trivial).bel (by repeat (first | exact Ext.refl _ | apply Ext.alloc | apply Below.drew | apply Ext.drewN | refine Ext.trans' ?_ (by assumption) | refine Ext.trans' ?_ (ExtD.ext (by assumption))))) (by repeat (first | exact Ext.refl _ | apply Ext.alloc | apply Below.drew | apply Ext.drewN | refine Ext.trans' ?_ (by assumption) | refine Ext.trans' ?_ (ExtD.ext (by assumption))))).mono ?_
  rintro e w4 h4'
  obtain ⟨A4, c4, rfl, ho4, h4⟩ := h4'.at (b' := w.heap.size) (by have := h1.size; have := h2.size; have := h3.size; simp at *; omega)
  have HO := Lib.hid ho4
  clear ho4 h4'
  go_wp2_with fail
  refine (hrc _ g _ ((HS.out.mono fun _ _ _ => trivial).bel (by repeat (first | exact Ext.refl _ | apply Ext.alloc | apply Below.drew | apply Ext.drewN | refine Ext.trans' ?_ (by assumption) | refine Ext.trans' ?_ (ExtD.ext (by assumption))))) ((RSl.good RInt.good).mono ((RSl.good RInt.good).bel (HO.out.sl RInt.good (by decide)) (by repeat (first | exact Ext.refl _ | apply Ext.alloc | apply Below.drew | apply Ext.drewN | refine Ext.trans' ?_ (by assumption) | refine Ext.trans' ?_ (ExtD.ext (by assumption))))) fun _ _ _ => trivial) (by repeat (first | exact Ext.refl _ | apply Ext.alloc | apply Below.drew | apply Ext.drewN | refine Ext.trans' ?_ (by assumption) | refine Ext.trans' ?_ (ExtD.ext (by assumption))))).mono ?_
  rintro e w5 ⟨rfl, h5⟩
  go_wp2_with fail
  go_ret2
  rw [HV.out.1, HV.out.2]
  exact ⟨rfl, (by repeat (first | exact Ext.refl _ | apply Ext.alloc | apply Below.drew | apply Ext.drewN | refine Ext.trans' ?_ (by assumption) | refine Ext.trans' ?_ (ExtD.ext (by assumption))))⟩
end Go.Proofs.YtegenalcheooeaaGreat

